/- Parts of the walk; written by programs, merged. -/
import Derived.Test.YtcllkmllflheiaaGreatDoorLaw
import Derived.Deep.Slices
import Derived.OpenShut
set_option linter.unusedSimpArgs false
set_option linter.unusedVariables false
set_option maxRecDepth 20000
set_option maxHeartbeats 8000000
namespace Go.Proofs.YtcllkmllflheiaaGreatDoor
open Go.RowKit Go.Proofs
attribute [local simp] opV lF ibq ibn eqN ltN leN eqL ltL gtL leL geL
theorem IF (base g T:Nat) (l:List Pr) (A:Option Addr) (cap:Nat) (o:OpD) (w:World) (h:fD base w g T l A cap) (hll:l.length≤65536) (hA0: -9223372036854775808≤o.a) (hA1:o.a≤9223372036854775807):
 Calls Tryz.prog 8 #[.pointer (some ⟨g,0,none⟩),.agg (opV o),.int .i64 3] w fun e w'=>e= .returned (.bool (At o (l.map (·.s))))∧Fr noB w w':=by
 obtain⟨z,hz⟩:∃z,z=At o (l.map (·.s)):=⟨_,rfl⟩
 rw[←hz]
 unfold At at hz
 rw[List.length_map]at hz
 have hW:=h.bk
 refine en Tryz.func8 Tryz.ntmps8 ?_
 refine W ?_
 refine sA ?_
 intro w1 hO f
 replace hO:Bk w1 w.heap.size 30 (opV o):=hO
 replace hW:=hW.keep f id
 generalize w.heap.size=q at*
 by_cases h0:l.length=0
 ·have hl:l=[]:=List.length_eq_zero_iff.1 h0
  rw[hl]at hz
  clear hl h
  refine W ?_
  exact⟨by rw[hz];rfl,f⟩
 obtain⟨i,hi⟩:∃i,i=nZ o.a l.length:=⟨_,rfl⟩
 have hil:i<l.length:=by rw[hi];exact Ai o.a l.length (by omega)
 obtain⟨x,hx⟩:∃x,l[i]? =some x:=⟨_,List.getElem?_eq_getElem hil⟩
 rw[←hi,List.getElem?_map,hx]at hz
 dsimp only[Option.map]at hz
 obtain⟨ga,hA,-,c1⟩:=h.pair hx
 have hM:=(h.ps.at_ i x hx).m.none f
 replace c1:=c1.keep f id
 subst hA
 refine W ?_
 refine dI (An hW (An hO (An c1 (An hM f)))) [] [0,1,2,4,6,7,8,3,5,9,10,11,12,13,14,15] (h:= ?_)
 clear hW hO c1 hM f h
 intro w2 h2 _
 refine D ?_
 refine dQe (vX o.a l.length w2 (by omega) (by omega) hA0 hA1) h2 ?_
 rw[←hi]
 clear hi hx
 refine D ?_
 refine dQ (v:= .pointer (some ⟨x.p,0,none⟩)) ?_ ?_
 ·intro w' hS
  have hc:=hS.2.2.1
  unfold DK at hc
  go_simp
 refine D ?_
 refine W ?_
 obtain⟨-,hO,-,hM,f⟩:=h2
 rw[←iQ]at hz
 generalize x.s=s at*
 refine dI (An hM (An hO f)) [] (up 23 0) (h:= ?_)
 clear hM hO f
 intro w3 h3 _
 by_cases a1:s.lease=3
 by_cases a2:o.kind=4
 by_cases a3:s.lagain≤IntKind.i64.wrap (s.now+1)
 all_goals
  refine D ?_
  refine W ?_
  exact⟨by rw[hz];simp[*],h3.2.2⟩
end Go.Proofs.YtcllkmllflheiaaGreatDoor
namespace Go.Proofs.YtcllkmllflheiaaGreatDoor
open Go.RowKit Go.Proofs
attribute [local simp] ibq ibn eqN ltN leN eqL ltL gtL leL geL
theorem EU {o:OpD}:∀(ops:List OpD),o∈ops→wOp o≤(ops.map wOp).sum
 |[],h=>nomatch h
 |x::r,h=>by
  rw[List.map_cons,List.sum_cons]
  rcases List.mem_cons.1 h with rfl|h
  ·omega
  ·have:=EU r h;omega
def AN (k:Nat) (ss:List St):Prop:=(∀s∈ss,Lw k s)∧ss.length≤k
theorem AN.step {k:Nat} {ss:List St} (h:AN k ss):AN (k+1) ss:=⟨fun s hs=>(h.1 s hs).step,by have:=h.2;omega⟩
theorem AN.set {k i:Nat} {ss:List St} {s:St} (h:AN k ss) (hq:Lw ((k+1:Nat):Int) s):AN (k+1) (ss.set i s):=by
 refine⟨fun x hx=> ?_,by rw[List.length_set];exact h.step.2⟩
 rcases List.mem_or_eq_of_mem_set hx with h1|rfl
 ·exact h.step.1 x h1
 ·exact hq
theorem AN.new {k:Nat} {ss:List St} (c:eD) (h:AN k ss):AN (k+1) (ss++[iH c]):=by
 refine⟨fun x hx=> ?_,by rw[List.length_append];have:=h.2;simp;omega⟩
 rcases List.mem_append.1 hx with h1|h1
 ·exact h.step.1 x h1
 ·rw[List.mem_singleton.1 h1];exact⟨rfl,Nat.zero_le _,.inl rfl,Int.le_refl _,by show(0:Int)≤_;omega,fun f hf=>nomatch hf⟩
theorem As (ops:List OpD) (hn:ops.length≤65536) (hA:∀o∈ops,(-9223372036854775808≤o.a∧o.a≤9223372036854775807)∧o.n≤9223372036854775807) (hs2:∀o∈ops,o.s.length≤65536) (k:Nat) (o:OpD) (ss:List St) (ho:ops[k]? =some o) (hE:At o ss=false) (hI:AN k ss):
 ∃ss',AN (k+1) ss'∧∀(base g T:Nat) (l:List Pr) (A:Option Addr) (cap:Nat) (w:World),fD base w g T l A cap→l.map (·.s)=ss→Db base w→Calls Tryz.prog 9 #[.pointer (some ⟨g,0,none⟩),.agg (opV o)] w (lN base g T ss' w):=by
 have hk:k<ops.length:=by
  rcases Nat.lt_or_ge k ops.length with h1|h1
  ·exact h1
  ·rw[List.getElem?_eq_none h1]at ho;cases ho
 have hA:=hA o (List.mem_of_getElem? ho)
 have hs2:=hs2 o (List.mem_of_getElem? ho)
 by_cases k1:o.kind=1
 ·refine⟨if o.c.Ok then ss++[iH o.c]else ss,?_,?_⟩
  ·split
   ·exact hI.new o.c
   ·exact hI.step
  ·intro base g T l A cap w hW hl hG
   have hc:=Gm base g T l A cap o w hW hG k1 (by have:=hI.2;rw[←hl,List.length_map]at this;omega)
   rw[hl]at hc;exact hc
 rcases hss:ss with _|⟨s0,ss0⟩
 ·refine⟨[],⟨(fun s hs=>nomatch hs),Nat.zero_le _⟩,?_⟩
  intro base g T l A cap w hW hl hG
  have hl0:l=[]:=List.map_eq_nil_iff.1 hl
  have hc:=Dm base g T l A cap o w hW hG k1 hl0
  rw[hl]at hc;exact hc
 rw[←hss]
 have hpos:0<ss.length:=by rw[hss];simp
 clear hss
 have hil:=Ai o.a ss.length hpos
 obtain⟨i,hi⟩:∃i,nZ o.a ss.length=i:=⟨_,rfl⟩
 rw[hi]at hil
 obtain⟨s,hs⟩:∃s,ss[i]? =some s:=⟨ss[i],List.getElem?_eq_getElem hil⟩
 have hq:=hI.1 s (List.mem_of_getElem? hs)
 have hkb:(k:Int)<4611686018427387904:=by omega
 have hE3:o.kind=4→s.lease=3→s.now+1<s.lagain:=fun q4 q3=>by
  unfold At at hE
  rw[hi,hs]at hE
  have h1:=of_decide_eq_false hE
  have h2:=(hq.turn hkb 0).1
  rw[h2]at h1
  exact Int.not_le.1 fun x=>h1 ⟨q3,q4,x⟩
 have key:∀s':St,Lw ((k+1:Nat):Int) s'→(∀(x:Pr) (T:Nat),x.s=s→G2 T o x s')→∃ss',AN (k+1) ss'∧∀(base g T:Nat) (l:List Pr) (A:Option Addr) (cap:Nat) (w:World),fD base w g T l A cap→l.map (·.s)=ss→Db base w→Calls Tryz.prog 9 #[.pointer (some ⟨g,0,none⟩),.agg (opV o)] w (lN base g T ss' w):=fun s' h1 h2=>by
  refine⟨ss.set i s',hI.set h1,?_⟩
  intro base g T l A cap w hW hl hG
  have hlen:l.length=ss.length:=by rw[←hl,List.length_map]
  obtain⟨x,hx⟩:∃x,l[i]? =some x:=⟨l[i]'(by omega),List.getElem?_eq_getElem (by omega)⟩
  have hxs:x.s=s:=by
   have:(l.map (·.s))[i]? =some x.s:=by rw[List.getElem?_map,hx];rfl
   rw[hl,hs]at this;exact(Option.some.inj this).symm
  have hc:=IU base g T l A cap o w hW hG k1 i x (by rw[hlen];exact hi.symm) hx (by have:=hI.2;omega) hA.1.1 hA.1.2 s' (h2 x T hxs)
  rw[hl]at hc;exact hc
 have hp3:s.phase≠3:=by rcases hq.phase with e|e<;>rw[e]<;>decide
 by_cases k2:o.kind=2
 ·exact key (s.put o.s).1 (hq.put (by omega)).step fun x T e=>by subst e;exact⟨fun _=>rfl,fun e=>by omega,fun e=>by omega,fun e=>by omega,fun _=>hp3,fun e=>by omega⟩
 by_cases k3:o.kind=3
 ·exact key s.take.1 hq.take.step fun x T e=>by subst e;exact⟨fun e=>by omega,fun _=>rfl,fun e=>by omega,fun e=>by omega,fun _=>hp3,fun e=>by omega⟩
 by_cases k4:o.kind=4
 ·obtain⟨d,hd⟩:∃d:Nat,o.n%4294967296=(d:Int):=⟨(o.n%4294967296).toNat,by omega⟩
  exact key (s.tick d) (hq.tick hkb (hE3 k4) d) fun x T e=>by subst e;exact⟨fun e=>by omega,fun e=>by omega,fun _=>⟨d,hd,fun w h=>AM x.L x.s d w h hq hkb (hE3 k4) (by omega),fun w h=>By x.p T x.M x.s d w h hq hkb (hE3 k4) (by omega)⟩,fun e=>by omega,fun _=>hp3,fun e=>by omega⟩
 by_cases k5:o.kind=5
 ·exact key (bL St.frame o.n.toNat s 0).1 ((yO k).all _ _ _ hq).step fun x T e=>by subst e;exact⟨fun e=>by omega,fun e=>by omega,fun e=>by omega,fun _=>⟨_,fun w h=>AK x.L x.s o.n hA.2 w h hq,fun w h=>Bx x.p T x.M x.s o.n hA.2 w h hq⟩,fun _=>hp3,fun e=>by omega⟩
 exact key s hq.step fun x T e=>by subst e;exact⟨fun e=>by omega,fun e=>by omega,fun e=>by omega,fun e=>by omega,fun _=>hp3,fun _=>rfl⟩
theorem Dr (ops:List OpD) (A:Option Addr) (cap:Nat) (w:World) (hscr:SlR w noB 17 A ops.length (AH ops)) (hG:Glb w) (ha:wU w 1 #[.int .u8 255,.int .u8 255,.int .u8 255,.int .u8 255,.int .u8 255,.int .u8 255]) (hl:IT ops) (hn:ops.length≤140737488355328) (hA:∀o∈ops,(-9223372036854775808≤o.a∧o.a≤9223372036854775807)∧o.n≤9223372036854775807):
 Calls Tryz.prog 3 #[.slice A ops.length cap] w fun e w'=>e= .returned (.bool true)∧Fr noB w w':=by
 have up:pF ops ops.length≤65536→∀w1,Fr noB w w1→Calls Tryz.prog 5 #[.slice A ops.length cap,.int .i64 3] w1 fun e w'=>e= .returned (.int .i64 (-1))∧Fr noB w1 w':=fun ht w1 hf=>by
  have hn2:ops.length≤65536:=by unfold pF at ht;omega
  have hs2:∀o∈ops,o.s.length≤65536:=fun o ho=>by
   have h1:=EU ops ho
   have h2:o.s.length≤wOp o:=by unfold wOp;omega
   unfold pF at ht;omega
  exact JA 3 (by decide) ops A cap w1 (hscr.keep hf) (hG.keep hf (fun _ _ x=>x)) (ha.keep hf (fun x=>x)) hn2 At AN ⟨(fun s hs=>nomatch hs),Nat.zero_le _⟩
   (fun base g T l A cap k o w hW ho hI=>IF base g T l A cap o w hW (by
    have h1:=hI.2
    rw[List.length_map]at h1
    have h2:k<ops.length:=by
     rcases Nat.lt_or_ge k ops.length with h1|h1
     ·exact h1
     ·rw[List.getElem?_eq_none h1]at ho;cases ho
    omega) (hA o (List.mem_of_getElem? ho)).1.1 (hA o (List.mem_of_getElem? ho)).1.2)
   (fun k o ss _ _ h=>h.step) (fun k o ss ho _ hE hI=>As ops hn2 hA hs2 k o ss ho hE hI)
 obtain⟨b,hb⟩:∃b,b=decide (pF ops ops.length≤65536):=⟨_,rfl⟩
 have hsm:=Ga ops A cap w hscr hl hn
 rw[←hb]at hsm
 have Up:=Lib.hid up
 clear up hl hn hA hG ha hscr
 refine en Tryz.func3 Tryz.ntmps3 ?_
 refine W ?_
 refine sC hsm ?_
 intro w1 f1
 cases b
 ·clear hb
  refine W ?_
  exact⟨rfl,f1⟩
 ·replace hb:=of_decide_eq_true hb.symm
  have hu:=Up.out hb w1 f1
  clear hb
  refine W ?_
  refine sC hu ?_
  intro w2 f2
  refine W ?_
  exact⟨rfl,f1.none f2⟩
end Go.Proofs.YtcllkmllflheiaaGreatDoor
set_option maxRecDepth 20000
namespace Go.Proofs.YtcllkmllflheiaaGreatDoor
open Go.RowKit Go.Proofs Go.ChangeShapes Go.WideShapes
section
variable {H:Type} {enc:TypeId×Value→H} {W:World}
theorem jE {n:Nat} {t:TypeId} {c:Value} {y:DataW H×List MemPlace} (ht:Tryz.prog.underlying t=some (.int .i64)) (h:DataW.trod enc Tryz.prog W 0 (fun _=>true) true n t [c]=some y):∃z:Int,c= .int .i64 z∧-9223372036854775808≤z∧z≤9223372036854775807:=by
 obtain⟨q,hq,_,hwf⟩:=DataW.trod_int ht h
 injection hq with hq _
 have hq2: -9223372036854775808≤q∧q≤9223372036854775807:=by simpa[Lit.wf,IntKind.min,IntKind.max,IntKind.signed,IntKind.bits]using hwf
 exact⟨q,hq,hq2⟩
theorem AI {n:Nat} {t:TypeId} {c:Value} {y:DataW H×List MemPlace} (ht:Tryz.prog.underlying t=some (.int .u8)) (h:DataW.trod enc Tryz.prog W 0 (fun _=>true) true n t [c]=some y):∃z:UInt8,c= .int .u8 (z.toNat:Int):=by
 obtain⟨q,hq,_,hwf⟩:=DataW.trod_int ht h
 injection hq with hq _
 have hq2:0≤q∧q≤255:=by simpa[Lit.wf,IntKind.min,IntKind.max,IntKind.signed,IntKind.bits]using hwf
 refine⟨UInt8.ofNat q.toNat,?_⟩
 rw[hq,UInt8.toNat_ofNat'];congr 1;omega
theorem yP {n:Nat} {t:TypeId} {c:Value} {y:DataW H×List MemPlace} (ht:Tryz.prog.underlying t=some .string) (h:DataW.trod enc Tryz.prog W 0 (fun _=>true) true n t [c]=some y):∃s:List UInt8,c= .string (bs s)∧y.1= .lit (.string s):=by
 obtain⟨s,hs,hsx,_⟩:=DataW.trod_string ht h
 injection hs with hs _
 exact⟨s.data.toList,by rw[hs,xP],by rw[hsx]⟩
theorem AR {w:World} {a:Addr} {v:Value} (h:w.cell? a=some v):a.block<w.heap.size:=by
 rcases Nat.lt_or_ge a.block w.heap.size with h1|h1
 ·exact h1
 ·unfold World.cell? at h;rw[Array.getElem?_eq_none h1]at h;cases h
theorem yK {l:List (DataW H)} {e:TypeId} {d:DataW H} (hd:d∈l):∀n∈d.weights Tryz.prog e,n∈DataW.weightsAll Tryz.prog e l:=by
 intro n hn
 induction l with
 |nil=>cases hd
 |cons x r ih=>
  simp only[DataW.weightsAll,List.mem_append]
  rcases List.mem_cons.1 hd with h|h
  ·subst h;exact .inl hn
  ·exact .inr (ih h)
end
end Go.Proofs.YtcllkmllflheiaaGreatDoor
set_option maxRecDepth 20000
namespace Go.Proofs.YtcllkmllflheiaaGreatDoor
open Go.RowKit Go.Proofs Go.ChangeShapes Go.WideShapes
section
variable {H:Type} {enc:TypeId×Value→H} {W:World}
theorem yJ {n:Nat} {t:TypeId} {c:Value} {r:List Value} {y:DataW H×List MemPlace} (hc:Tryz.prog.cellsOf t=1) (h:DataW.trod enc Tryz.prog W 0 (fun _=>true) true n t ((c::r).take (Tryz.prog.cellsOf t))=some y):DataW.trod enc Tryz.prog W 0 (fun _=>true) true n t [c]=some y:=by rw[hc]at h;exact h
theorem Ix {n k:Nat} {t:TypeId} {cs:List Value} {y:DataW H×List MemPlace} (hc:Tryz.prog.cellsOf t=k) (h:DataW.trod enc Tryz.prog W 0 (fun _=>true) true n t (cs.take (Tryz.prog.cellsOf t))=some y):DataW.trod enc Tryz.prog W 0 (fun _=>true) true n t (cs.take k)=some y:=by rw[hc]at h;exact h
theorem Gw {n i:Nat} {t:TypeId} {c:Value} {cs r:List Value} {y:DataW H×List MemPlace} (hc:Tryz.prog.cellsOf t=1) (h:DataW.trod enc Tryz.prog W 0 (fun _=>true) true n t ((cs.drop (i*Tryz.prog.cellsOf t)).take (Tryz.prog.cellsOf t))=some y) (hd:cs.drop (i*1)=c::r:=by rfl):DataW.trod enc Tryz.prog W 0 (fun _=>true) true n t [c]=some y:=by rw[hc,hd]at h;exact h
def EM (c:eD) (d:DataW H):Prop:=∃x0 x1 x2 x3 x4 x5,d= .agg [x0,.lit (.string c.name),x1,.lit (.string c.digest),x2,x3,x4,x5]
def wL (o:OpD) (d:DataW H):Prop:=∃x0 x1 x2 x3,d= .agg [x0,x1,x2,x3,.lit (.string o.s)]∧EM o.c x3
theorem FU {n:Nat} {c0 c1 c2 c3 c4 c5:Value} {y:DataW H×List MemPlace} (h:DataW.trod enc Tryz.prog W 0 (fun _=>true) true n 26 [c0,c1,c2,c3,c4,c5]=some y):
 ∃m:Mac,[c0,c1,c2,c3,c4,c5]=[Value.int .u8 (m.1.toNat:Int),.int .u8 (m.2.1.toNat:Int),.int .u8 (m.2.2.1.toNat:Int),.int .u8 (m.2.2.2.1.toNat:Int),.int .u8 (m.2.2.2.2.1.toNat:Int),.int .u8 (m.2.2.2.2.2.toNat:Int)]:=by
 have hcu:Tryz.prog.cellsOf 5=1:=by kernel_rfl
 obtain⟨xs,k,_,_,_,hxl,hf⟩:=DataW.trod_array Tryz.underlying26 h
 match xs,hxl with
 |[y0,y1,y2,y3,y4,y5],_=>
  obtain⟨m0,rfl⟩:=AI Tryz.underlying5 (Gw (c:=c0) (y:=y0) hcu (hf 0 (by decide)))
  obtain⟨m1,rfl⟩:=AI Tryz.underlying5 (Gw (c:=c1) (y:=y1) hcu (hf 1 (by decide)))
  obtain⟨m2,rfl⟩:=AI Tryz.underlying5 (Gw (c:=c2) (y:=y2) hcu (hf 2 (by decide)))
  obtain⟨m3,rfl⟩:=AI Tryz.underlying5 (Gw (c:=c3) (y:=y3) hcu (hf 3 (by decide)))
  obtain⟨m4,rfl⟩:=AI Tryz.underlying5 (Gw (c:=c4) (y:=y4) hcu (hf 4 (by decide)))
  obtain⟨m5,rfl⟩:=AI Tryz.underlying5 (Gw (c:=c5) (y:=y5) hcu (hf 5 (by decide)))
  exact⟨(m0,m1,m2,m3,m4,m5),rfl⟩
theorem C0 {n:Nat} {cs:List Value} {y:DataW H×List MemPlace} (h:DataW.trod enc Tryz.prog W 0 (fun _=>true) true n 28 cs=some y):
 ∃c:eD,cs=(gI c).toList∧EM c y.1:=by
 obtain⟨xs,k,_,hx,hl,hxl,hf⟩:=DataW.trod_struct Tryz.underlying28 h
 have hcl:Tryz.prog.cellsOf 28=13:=by kernel_rfl
 have hcm:Tryz.prog.cellsOf 26=6:=by kernel_rfl
 have hci:Tryz.prog.cellsOf 3=1:=by kernel_rfl
 have hcs:Tryz.prog.cellsOf 9=1:=by kernel_rfl
 rw[hcl]at hl
 match cs,hl,xs,hxl with
 |[c0,c1,c2,c3,c4,c5,c6,c7,c8,c9,c10,c11,c12],_,[y0,y1,y2,y3,y4,y5,y6,y7],_=>
  have g0:=hf 0 _ rfl
  have g1:=hf 1 _ rfl
  have g2:=hf 2 _ rfl
  have g3:=hf 3 _ rfl
  have g4:=hf 4 _ rfl
  have g5:=hf 5 _ rfl
  have g6:=hf 6 _ rfl
  have g7:=hf 7 _ rfl
  obtain⟨m,hm⟩:=FU (c0:=c0) (c1:=c1) (c2:=c2) (c3:=c3) (c4:=c4) (c5:=c5) (y:=y0) (Ix (k:=6) hcm g0)
  obtain⟨s1,rfl,e1⟩:=yP Tryz.underlying9 (yJ (c:=c6) (y:=y1) hcs g1)
  obtain⟨z2,rfl,_⟩:=jE Tryz.underlying3 (yJ (c:=c7) (y:=y2) hci g2)
  obtain⟨s3,rfl,e3⟩:=yP Tryz.underlying9 (yJ (c:=c8) (y:=y3) hcs g3)
  obtain⟨z4,rfl,_⟩:=jE Tryz.underlying3 (yJ (c:=c9) (y:=y4) hci g4)
  obtain⟨z5,rfl,_⟩:=jE Tryz.underlying3 (yJ (c:=c10) (y:=y5) hci g5)
  obtain⟨z6,rfl,_⟩:=jE Tryz.underlying3 (yJ (c:=c11) (y:=y6) hci g6)
  obtain⟨z7,rfl,_⟩:=jE Tryz.underlying3 (yJ (c:=c12) (y:=y7) hci g7)
  simp only[List.cons.injEq,and_true]at hm
  obtain⟨rfl,rfl,rfl,rfl,rfl,rfl⟩:=hm
  refine⟨⟨m,s1,z2,s3,z4,z5,z6,z7⟩,rfl,y0.1,y2.1,y4.1,y5.1,y6.1,y7.1,?_⟩
  rw[hx]
  show DataW.agg [y0.1,y1.1,y2.1,y3.1,y4.1,y5.1,y6.1,y7.1]=_
  rw[e1,e3]
theorem GU {n:Nat} {cs:List Value} {y:DataW H×List MemPlace} (h:DataW.trod enc Tryz.prog W 0 (fun _=>true) true n 30 cs=some y):
 ∃o:OpD,cs=(opC o).toList∧wL o y.1∧-9223372036854775808≤o.a∧o.a≤9223372036854775807:=by
 obtain⟨xs,k,_,hx,hl,hxl,hf⟩:=DataW.trod_struct Tryz.underlying30 h
 have hcl:Tryz.prog.cellsOf 30=17:=by kernel_rfl
 have hcm:Tryz.prog.cellsOf 28=13:=by kernel_rfl
 have hci:Tryz.prog.cellsOf 3=1:=by kernel_rfl
 have hcs:Tryz.prog.cellsOf 9=1:=by kernel_rfl
 rw[hcl]at hl
 match cs,hl,xs,hxl with
 |[b0,b1,b2,c0,c1,c2,c3,c4,c5,c6,c7,c8,c9,c10,c11,c12,b4],_,[y0,y1,y2,y3,y4],_=>
  have g0:=hf 0 _ rfl
  have g1:=hf 1 _ rfl
  have g2:=hf 2 _ rfl
  have g3:=hf 3 _ rfl
  have g4:=hf 4 _ rfl
  obtain⟨z0,rfl,_⟩:=jE Tryz.underlying3 (yJ (c:=b0) (y:=y0) hci g0)
  obtain⟨z1,rfl,r1⟩:=jE Tryz.underlying3 (yJ (c:=b1) (y:=y1) hci g1)
  obtain⟨z2,rfl,_⟩:=jE Tryz.underlying3 (yJ (c:=b2) (y:=y2) hci g2)
  obtain⟨c,hc,hd⟩:=C0 (cs:=[c0,c1,c2,c3,c4,c5,c6,c7,c8,c9,c10,c11,c12]) (y:=y3) (Ix (k:=13) hcm g3)
  obtain⟨s,rfl,e4⟩:=yP Tryz.underlying9 (yJ (c:=b4) (y:=y4) hcs g4)
  refine⟨⟨z0,z1,z2,c,s⟩,?_,⟨y0.1,y1.1,y2.1,y3.1,?_,hd⟩,r1⟩
  ·show [.int .i64 z0,.int .i64 z1,.int .i64 z2]++[c0,c1,c2,c3,c4,c5,c6,c7,c8,c9,c10,c11,c12]++[.string (bs s)]=_
   rw[hc];simp[opC]
  ·rw[hx]
   show DataW.agg [y0.1,y1.1,y2.1,y3.1,y4.1]=_
   rw[e4]
theorem uW {α:Type} (f:α→List Value) (n:Nat) (hn:0<n) (hf:∀a,(f a).length=n):∀(l:List α) (j:Nat) (u:Value),(l.flatMap f)[j]? =some u→∃i k o,j=i*n+k∧l[i]? =some o∧(f o)[k]? =some u∧k<n
 |[],j,u,h=>by simp at h
 |o::r,j,u,h=>by
  rw[List.flatMap_cons]at h
  rcases Nat.lt_or_ge j n with h1|h1
  ·rw[List.getElem?_append_left (by rw[hf];exact h1)]at h
   exact⟨0,j,o,by omega,rfl,h,h1⟩
  ·rw[List.getElem?_append_right (by rw[hf];exact h1),hf]at h
   obtain⟨i,k,o',e,h2,h3,h4⟩:=uW f n hn hf r (j-n) u h
   exact⟨i+1,k,o',by rw[Nat.add_mul];omega,h2,h3,h4⟩
theorem CO {a:Addr} {ops:List OpD} (h:∀(i:Nat) (o:OpD),ops[i]? =some o→∀(j:Nat) (u:Value),(opC o).toList[j]? =some u→W.cell? ((a.add (i*17)).add j)=some u):SlR W noB 17 (some a) ops.length (AH ops):=by
 refine⟨DQ _,fun hn=>⟨a,rfl,?_,fun x=>x,fun j u hu=> ?_⟩⟩
 ·have h1:=h 0 _ (List.getElem?_eq_getElem hn) 0 _ rfl
  exact AR h1
 ·obtain⟨i,k,o,e,ho,hk,_⟩:=uW (fun o=>(opC o).toList) 17 (by decide) (fun o=>nI o) ops j u hu
  have h1:=h i o ho k u hk
  rw[Go.Deep.add_add]at h1
  rw[e];exact h1
theorem Jk {n:Nat} {c:Value} {y:DataW H×List MemPlace} (h:DataW.trod enc Tryz.prog W 0 (fun _=>true) true n 22 [c]=some y):
 ∃(ops:List OpD) (A:Option Addr) (cap:Nat),c= .slice A ops.length cap∧SlR W noB 17 A ops.length (AH ops)∧(∀o∈ops,-9223372036854775808≤o.a∧o.a≤9223372036854775807)∧
  (ops=[]∨∃(E:Nat→DataW H) (rest:List (DataW H)),y.1= .slice ((List.range ops.length).map E) rest∧∀(i:Nat) (o:OpD),ops[i]? =some o→wL o (E i)):=by
 have hco:Tryz.prog.cellsOf 30=17:=by kernel_rfl
 rcases Go.Deep.open_slice Tryz.underlying22 h with⟨hc,rfl⟩|⟨a,len,cap,m,n',D,Pl,hc,_,hlc,_,hm,rfl,hel⟩
 ·injection hc with hc _
  subst hc
  exact⟨[],none,0,rfl,SlR.nil,(fun o ho=>nomatch ho),.inl rfl⟩
 ·injection hc with hc _
  subst hc
  have hlm:len≤m:=by simp at hm;omega
  have each:∀i,i<len→∃o:OpD,(∀(j:Nat) (u:Value),(opC o).toList[j]? =some u→W.cell? ((a.add (i*17)).add j)=some u)∧wL o (D i)∧-9223372036854775808≤o.a∧o.a≤9223372036854775807:=by
   intro i hi
   obtain⟨cs,h1,h2⟩:=hel i (by omega)
   rw[hco]at h1
   obtain⟨_,hlen,hcell⟩:=World.cells?_some h1
   obtain⟨o,rfl,hd,hr⟩:=GU h2
   refine⟨o,fun j u hu=> ?_,hd,hr⟩
   have hj:j<17:=by
    rcases Nat.lt_or_ge j 17 with h3|h3
    ·exact h3
    ·rw[List.getElem?_eq_none (by rw[hlen];exact h3)]at hu;cases hu
   rw[hcell j hj];exact hu
  haveI:Inhabited OpD:=⟨⟨0,0,0,⟨(0,0,0,0,0,0),[],0,[],0,0,0,0⟩,[]⟩⟩
  obtain⟨f,hf⟩:=Go.Deep.choose_lt (α:=OpD) each
  have hlen:((List.range len).map f).length=len:=by simp
  have hget:∀i o,((List.range len).map f)[i]? =some o→i<len∧o=f i:=by
   intro i o h
   rw[List.getElem?_map]at h
   rcases Nat.lt_or_ge i len with hi|hi
   ·rw[List.getElem?_range hi]at h;simp at h;exact⟨hi,h.symm⟩
   ·rw[List.getElem?_eq_none (by simpa using hi)]at h;simp at h
  have hS:SlR W noB 17 (some a) ((List.range len).map f).length (AH ((List.range len).map f)):=CO fun i o ho=>by
   obtain⟨hi,rfl⟩:=hget i o ho
   exact(hf i hi).1
  refine⟨(List.range len).map f,some a,cap,by rw[hlen],hS,fun o ho=> ?_,.inr ⟨D,(List.range (m-len)).map fun j=>D (len+j),by rw[hlen],fun i o ho=> ?_⟩⟩
  ·obtain⟨i,hi⟩:=List.getElem?_of_mem ho
   obtain⟨hi2,rfl⟩:=hget i o hi
   exact(hf i hi2).2.2
  ·obtain⟨hi,rfl⟩:=hget i o ho
   exact(hf i hi).2.1
theorem Bg {o:OpD} {d:DataW H} (h:wL o d) (hw:∀n∈d.weights Tryz.prog 30,n≤reachBytes):o.s.length≤140737488355328∧o.c.name.length≤140737488355328∧o.c.digest.length≤140737488355328:=by
 obtain⟨x0,x1,x2,x3,rfl,y0,y1,y2,y3,y4,y5,rfl⟩:=h
 simp only[DataW.weights,Tryz.underlying30,Tryz.underlying28]at hw
 have e:reachBytes=140737488351232:=rfl
 rw[e]at hw
 have hc:∀n,n∈(DataW.agg [y0,.lit (.string o.c.name),y1,.lit (.string o.c.digest),y2,y3,y4,y5]:DataW H).weights Tryz.prog 28→n≤140737488351232:=fun n hn=>hw n (DataW.weights_mem_each (j:=3) (t:=28) rfl rfl n hn)
 simp only[DataW.weights,Tryz.underlying28]at hc
 have a1:=hw o.s.length (DataW.weights_mem_each (j:=4) (t:=9) rfl rfl _ (by simp[DataW.weights]))
 have a2:=hc o.c.name.length (DataW.weights_mem_each (j:=1) (t:=9) rfl rfl _ (by simp[DataW.weights]))
 have a3:=hc o.c.digest.length (DataW.weights_mem_each (j:=3) (t:=9) rfl rfl _ (by simp[DataW.weights]))
 omega
theorem DG {ops:List OpD} {d:DataW H} (hd:ops=[]∨∃(E:Nat→DataW H) (rest:List (DataW H)),d= .slice ((List.range ops.length).map E) rest∧∀(i:Nat) (o:OpD),ops[i]? =some o→wL o (E i))
 (hw:(DataW.weightsEach Tryz.prog [22] [d]).all (· ≤reachBytes)=true):ops.length≤140737488355328∧IT ops:=by
 rcases hd with rfl|⟨E,rest,rfl,hE⟩
 ·exact⟨Nat.zero_le _,fun o ho=>nomatch ho⟩
 have hw':∀n∈DataW.weightsEach Tryz.prog [22] [.slice ((List.range ops.length).map E) rest],n≤reachBytes:=fun n hn=>by simpa using List.all_eq_true.1 hw n hn
 have hs:=sized_slice hw (j:=0) rfl rfl Tryz.underlying22
 have hb:Tryz.prog.bytesOf 30=120:=by kernel_rfl
 rw[hb]at hs
 have e:reachBytes=140737488351232:=rfl
 refine⟨by simp at hs;omega,fun o ho=> ?_⟩
 obtain⟨i,hi⟩:=List.getElem?_of_mem ho
 have hi2:i<ops.length:=by
  rcases Nat.lt_or_ge i ops.length with h1|h1
  ·exact h1
  ·rw[List.getElem?_eq_none h1]at hi;cases hi
 refine Bg (hE i o hi) fun n hn=>hw' n ?_
 refine DataW.weights_mem_each (j:=0) rfl rfl n ?_
 simp only[DataW.weights,Tryz.underlying22,List.mem_cons,List.mem_append]
 exact .inr (.inl (yK (List.mem_map.2 ⟨i,List.mem_range.2 hi2,rfl⟩) n hn))
end
end Go.Proofs.YtcllkmllflheiaaGreatDoor
set_option maxRecDepth 20000
namespace Go.Proofs.YtcllkmllflheiaaGreatDoor
open Go.RowKit Go.Proofs Go.ChangeShapes Go.WideShapes
section
variable {H:Type} {enc:TypeId×Value→H} {W:World}
theorem Gc {n:Nat} {cs:List Value} {y:DataW H×List MemPlace} (h:DataW.trod enc Tryz.prog W 0 (fun _=>true) true n 30 cs=some y):
 ∃o:OpD,cs=(opC o).toList∧wL o y.1∧(-9223372036854775808≤o.a∧o.a≤9223372036854775807)∧o.n≤9223372036854775807:=by
 obtain⟨xs,k,_,hx,hl,hxl,hf⟩:=DataW.trod_struct Tryz.underlying30 h
 have hcl:Tryz.prog.cellsOf 30=17:=by kernel_rfl
 have hcm:Tryz.prog.cellsOf 28=13:=by kernel_rfl
 have hci:Tryz.prog.cellsOf 3=1:=by kernel_rfl
 have hcs:Tryz.prog.cellsOf 9=1:=by kernel_rfl
 rw[hcl]at hl
 match cs,hl,xs,hxl with
 |[b0,b1,b2,c0,c1,c2,c3,c4,c5,c6,c7,c8,c9,c10,c11,c12,b4],_,[y0,y1,y2,y3,y4],_=>
  have g0:=hf 0 _ rfl
  have g1:=hf 1 _ rfl
  have g2:=hf 2 _ rfl
  have g3:=hf 3 _ rfl
  have g4:=hf 4 _ rfl
  obtain⟨z0,rfl,_⟩:=jE Tryz.underlying3 (yJ (c:=b0) (y:=y0) hci g0)
  obtain⟨z1,rfl,r1⟩:=jE Tryz.underlying3 (yJ (c:=b1) (y:=y1) hci g1)
  obtain⟨z2,rfl,_,r2⟩:=jE Tryz.underlying3 (yJ (c:=b2) (y:=y2) hci g2)
  obtain⟨c,hc,hd⟩:=C0 (cs:=[c0,c1,c2,c3,c4,c5,c6,c7,c8,c9,c10,c11,c12]) (y:=y3) (Ix (k:=13) hcm g3)
  obtain⟨s,rfl,e4⟩:=yP Tryz.underlying9 (yJ (c:=b4) (y:=y4) hcs g4)
  refine⟨⟨z0,z1,z2,c,s⟩,?_,⟨y0.1,y1.1,y2.1,y3.1,?_,hd⟩,r1,r2⟩
  ·show [.int .i64 z0,.int .i64 z1,.int .i64 z2]++[c0,c1,c2,c3,c4,c5,c6,c7,c8,c9,c10,c11,c12]++[.string (bs s)]=_
   rw[hc];simp[opC]
  ·rw[hx]
   show DataW.agg [y0.1,y1.1,y2.1,y3.1,y4.1]=_
   rw[e4]
theorem DR {n:Nat} {c:Value} {y:DataW H×List MemPlace} (h:DataW.trod enc Tryz.prog W 0 (fun _=>true) true n 22 [c]=some y):
 ∃(ops:List OpD) (A:Option Addr) (cap:Nat),c= .slice A ops.length cap∧SlR W noB 17 A ops.length (AH ops)∧(∀o∈ops,(-9223372036854775808≤o.a∧o.a≤9223372036854775807)∧o.n≤9223372036854775807)∧
  (ops=[]∨∃(E:Nat→DataW H) (rest:List (DataW H)),y.1= .slice ((List.range ops.length).map E) rest∧∀(i:Nat) (o:OpD),ops[i]? =some o→wL o (E i)):=by
 have hco:Tryz.prog.cellsOf 30=17:=by kernel_rfl
 rcases Go.Deep.open_slice Tryz.underlying22 h with⟨hc,rfl⟩|⟨a,len,cap,m,n',D,Pl,hc,_,hlc,_,hm,rfl,hel⟩
 ·injection hc with hc _
  subst hc
  exact⟨[],none,0,rfl,SlR.nil,(fun o ho=>nomatch ho),.inl rfl⟩
 ·injection hc with hc _
  subst hc
  have hlm:len≤m:=by simp at hm;omega
  have each:∀i,i<len→∃o:OpD,(∀(j:Nat) (u:Value),(opC o).toList[j]? =some u→W.cell? ((a.add (i*17)).add j)=some u)∧wL o (D i)∧(-9223372036854775808≤o.a∧o.a≤9223372036854775807)∧o.n≤9223372036854775807:=by
   intro i hi
   obtain⟨cs,h1,h2⟩:=hel i (by omega)
   rw[hco]at h1
   obtain⟨_,hlen,hcell⟩:=World.cells?_some h1
   obtain⟨o,rfl,hd,hr⟩:=Gc h2
   refine⟨o,fun j u hu=> ?_,hd,hr⟩
   have hj:j<17:=by
    rcases Nat.lt_or_ge j 17 with h3|h3
    ·exact h3
    ·rw[List.getElem?_eq_none (by rw[hlen];exact h3)]at hu;cases hu
   rw[hcell j hj];exact hu
  haveI:Inhabited OpD:=⟨⟨0,0,0,⟨(0,0,0,0,0,0),[],0,[],0,0,0,0⟩,[]⟩⟩
  obtain⟨f,hf⟩:=Go.Deep.choose_lt (α:=OpD) each
  have hlen:((List.range len).map f).length=len:=by simp
  have hget:∀i o,((List.range len).map f)[i]? =some o→i<len∧o=f i:=by
   intro i o h
   rw[List.getElem?_map]at h
   rcases Nat.lt_or_ge i len with hi|hi
   ·rw[List.getElem?_range hi]at h;simp at h;exact⟨hi,h.symm⟩
   ·rw[List.getElem?_eq_none (by simpa using hi)]at h;simp at h
  have hS:SlR W noB 17 (some a) ((List.range len).map f).length (AH ((List.range len).map f)):=CO fun i o ho=>by
   obtain⟨hi,rfl⟩:=hget i o ho
   exact(hf i hi).1
  refine⟨(List.range len).map f,some a,cap,by rw[hlen],hS,fun o ho=> ?_,.inr ⟨D,(List.range (m-len)).map fun j=>D (len+j),by rw[hlen],fun i o ho=> ?_⟩⟩
  ·obtain⟨i,hi⟩:=List.getElem?_of_mem ho
   obtain⟨hi2,rfl⟩:=hget i o hi
   exact(hf i hi2).2.2
  ·obtain⟨hi,rfl⟩:=hget i o ho
   exact(hf i hi).2.1
end
end Go.Proofs.YtcllkmllflheiaaGreatDoor
