/- Parts of the walk; written by programs, merged. -/
import Derived.Test.YtcbkaiakdhiloacGreatDoorRau
set_option linter.unusedSimpArgs false
set_option linter.unusedVariables false
set_option maxRecDepth 20000
set_option maxHeartbeats 8000000
namespace Go.Proofs.YtcbkaiakdhiloacGreatDoor
open Go.RowKit Go.Proofs
def sH (w:World) (base:Nat) (e:TypeId) (A:Option Addr) (cap:Nat) (xs:List Value):Prop:=
 (A=none∧cap=0∧xs=[])∨∃g off cur,A=some ⟨g,off,none⟩∧base≤g∧Bk w g e cur∧xs.length≤cap∧off+cap≤cur.size∧∀j u,xs[j]? =some u→cur[off+j]? =some u
section
variable {P:Program} {w w':World} {base:Nat} {e:TypeId} {A:Option Addr} {cap:Nat} {xs:List Value}
theorem sH.of_own {n:Nat} (h:w.ownsRow base e 1 (.slice A n cap) n xs):sH w base e A cap xs:=by
 have hl:xs.length=n:=by simpa using h.1
 rcases h.2 with⟨hv,hx⟩|⟨g,c,cur,hv,hb,hg,hn,_,hs,ht⟩
 ·cases hv;exact .inl ⟨rfl,rfl,List.eq_nil_of_length_eq_zero hl⟩
 ·cases hv
  refine .inr ⟨g,0,cur,rfl,hb,hg,by omega,by omega,fun j u hu=> ?_⟩
  rw[Nat.zero_add,←Array.getElem?_toList]
  have hj:j<n:=by
   rcases Nat.lt_or_ge j n with h1|h1
   ·exact h1
   ·rw[List.getElem?_eq_none (by omega)]at hu;cases hu
  rw[Nat.mul_one]at ht
  rw[←ht,List.getElem?_take_of_lt hj]at hu
  exact hu
theorem sH.keep {S:Nat→Prop} (h:sH w base e A cap xs) (hf:Fr S w w') (hS:∀a,A=some a→¬S a.block):sH w' base e A cap xs:=by
 rcases h with h|⟨g,off,cur,hA,hb,hg,h1⟩
 ·exact .inl h
 ·exact .inr ⟨g,off,cur,hA,hb,hg.keep hf (hS _ hA),h1⟩
theorem sH.lt (h:sH w base e A cap xs):∀a,A=some a→base≤a.block∧a.block<w.heap.size:=by
 rcases h with⟨hA,_⟩|⟨g,off,cur,hA,hb,hg,_⟩
 ·intro a ha;rw[hA]at ha;cases ha
 ·intro a ha;rw[hA]at ha;cases ha;exact⟨hb,hg.lt⟩
theorem sH.head {x:Value} (h:sH w base e A cap (x::xs)):∃g off,A=some ⟨g,off,none⟩∧w.cell? ⟨g,off,none⟩=some x∧xs.length+1≤cap:=by
 rcases h with⟨_,_,hx⟩|⟨g,off,cur,hA,hb,hg,hl,hs,hc⟩
 ·cases hx
 ·exact⟨g,off,hA,(hg.cell off).trans (hc 0 x rfl),by simpa using hl⟩
theorem sH.tail {x:Value} {g off:Nat} (h:sH w base e (some ⟨g,off,none⟩) cap (x::xs)):sH w base e (some (if cap-1=0 then⟨g,off,none⟩else⟨g,off+1,none⟩)) (cap-1) xs:=by
 rcases h with⟨hA,_⟩|⟨g',off',cur,hA,hb,hg,hl,hs,hc⟩
 ·cases hA
 ·cases hA
  have hl':xs.length+1≤cap:=by simpa using hl
  by_cases h0:cap-1=0
  ·rw[if_pos h0]
   have:xs=[]:=List.eq_nil_of_length_eq_zero (by omega)
   subst this
   exact .inr ⟨g,off,cur,rfl,hb,hg,by simp,by omega,fun j u hu=>by simp at hu⟩
  ·rw[if_neg h0]
   exact .inr ⟨g,off+1,cur,rfl,hb,hg,by omega,by omega,fun j u hu=>by rw[show off+1+j=off+(j+1) by omega];exact hc (j+1) u (by simpa using hu)⟩
theorem Jn (t ty:TypeId) (i:TypeInfo) (z:Value) (bytes:Nat) (ht:P.underlying t=some (.slice e)) (hi:P.info? e=some i) (hz:i.zero=some z) (hsize:i.size=1) (hby:i.bytes=bytes) (hzs:z.cells.size=1)
 (hR:sH w base e A cap xs) (S:Nat→Prop) (B:Option Addr) (m c:Nat) (news:List Value) (hr:SlR w S 1 B m news) (h1:∀u∈news,u.oneCell'=true)
 (h63:xs.length+m≤maxLen) (hbytes:(xs.length+m)*bytes≤140737488355328) (hbase:base≤w.heap.size):
 ∃A' cap' w',(Builtin.append_ #[t,t] ty #[.slice A xs.length cap,.slice B m c]).run P w= .ok (.slice A' (xs.length+m) cap') w'∧sH w' base e A' cap' (xs++news)∧Fr (fun k=>∃a,A=some a∧a.block=k) w w'∧(∀a',A'=some a'→w.heap.size≤a'.block∨∃a,A=some a∧a.block=a'.block):=by
 have hsmall:xs.length+m≤9223372036854775807:=by simp only[maxLen]at h63;omega
 have hnl:news.length=m:=by simpa using hr.1
 rcases B with _|ad
 ·have hm:m=0:=by
   rcases Nat.eq_zero_or_pos m with h0|h0
   ·exact h0
   ·obtain⟨ad,h,_⟩:=hr.2 h0;cases h
  subst hm
  have hn:news=[]:=List.eq_nil_of_length_eq_zero hnl
  subst hn
  refine⟨A,cap,w,?_,by rw[List.append_nil];exact hR,Fr.refl _ _,fun a' h=> .inr ⟨a',h,rfl⟩⟩
  rcases hR with⟨rfl,rfl,rfl⟩|⟨g,off,cur,rfl,hb,hg,hl,hs,hc⟩
  ·simp[Builtin.append_,run_underlying ht,sizeOf,typeInfo,hi,Builtin.lenOf,Builtin.firstCells]
  ·simp[Builtin.append_,run_underlying ht,sizeOf,typeInfo,hi,Builtin.lenOf,Builtin.firstCells,hl,storeCells]
 ·have hcells:∀j u,news[j]? =some u→w.cell? (ad.add j)=some u:=by
   intro j u hu
   rcases Nat.eq_zero_or_pos m with h0|h0
   ·subst h0
    have hn:news=[]:=List.eq_nil_of_length_eq_zero hnl
    subst hn;simp at hu
   ·obtain⟨ad',h,_,_,hc⟩:=hr.2 h0
    injection h with h;subst h
    exact hc j u hu
  have grown:∀old,old<xs.length+m→sH (w.drew.alloc (.cells (xs.toArray++news.toArray++Builtin.zeroCells z.cells (grownCap w (xs.length+m) old e-(xs.length+m))) e)) base e (some ⟨w.heap.size,0,none⟩) (grownCap w (xs.length+m) old e) (xs++news)∧Fr (fun k=>∃a,A=some a∧a.block=k) w (w.drew.alloc (.cells (xs.toArray++news.toArray++Builtin.zeroCells z.cells (grownCap w (xs.length+m) old e-(xs.length+m))) e)):=by
   intro old ho
   have hge:=grownCap_ge w (xs.length+m) old e
   refine⟨.inr ⟨w.heap.size,0,_,rfl,hbase,heap_alloc_new w.drew _,by rw[List.length_append];omega,?_,fun j u hu=> ?_⟩,((Fr.refl _ _).drew).alloc _⟩
   ·simp only[Array.size_append,List.size_toArray,size_zeroCells,hzs];omega
   ·rw[Nat.zero_add]
    have hj:j<(xs++news).length:=by
     rcases Nat.lt_or_ge j (xs++news).length with h1|h1
     ·exact h1
     ·rw[List.getElem?_eq_none h1]at hu;cases hu
    rw[Array.getElem?_append_left (by simpa using hj)]
    simpa using hu
  rcases hR with⟨rfl,rfl,rfl⟩|⟨g,off,cur,rfl,hb,hg,hl,hs,hc⟩
  ·by_cases hm:m=0
   ·subst hm
    have hn:news=[]:=List.eq_nil_of_length_eq_zero hnl
    subst hn
    refine⟨none,0,w,?_,.inl ⟨rfl,rfl,rfl⟩,Fr.refl _ _,fun a' h=>by cases h⟩
    simp[Builtin.append_,run_underlying ht,sizeOf,typeInfo,hi,Builtin.lenOf,Builtin.firstCells,loadCells,loadCellsFrom]
   ·have hrn:=run_append_nil (P:=P) w t ty e i z ht hi hz ad m c news (by rw[hnl,hsize,Nat.mul_one]) hcells (by omega) (by simp at hsmall;omega) (by simp at hbytes;rw[hby];omega)
    have hgr:=grown 0 (by simp;omega)
    simp only[List.length_nil,Nat.zero_add,List.nil_append,Array.empty_append]at hgr hrn⊢
    exact⟨_,_,_,hrn,hgr.1,hgr.2,fun a' h=>by cases h;exact .inl (Nat.le_refl _)⟩
  ·by_cases hroom:xs.length+m≤cap
   ·have hf:=run_firstCells_some (P:=P) w i.size m ad m c news (by rw[hnl,hsize,Nat.mul_one]) hcells
    rw[hsize]at hf
    have hst:=run_storeCells_at P g (off+xs.length) e news 0 cur w hg (by omega) h1
    simp only[Nat.add_zero]at hst
    have hcl:cur.toList.length=cur.size:=Array.length_toList
    have htl:(cur.toList.take (off+xs.length)).length=off+xs.length:=by rw[List.length_take,hcl];omega
    refine⟨some ⟨g,off,none⟩,cap,w.setRow g (cur.toList.take (off+xs.length)++news++cur.toList.drop (off+xs.length+news.length)).toArray,?_,?_,?_,fun a' h=> .inr ⟨a',h,rfl⟩⟩
    rotate_left
    ·refine .inr ⟨g,off,_,rfl,hb,setRow_heap w g cur (cur.toList.take (off+xs.length)++news++cur.toList.drop (off+xs.length+news.length)).toArray e _ hg,by rw[List.length_append];omega,?_,fun j u hu=> ?_⟩
     ·simp only[List.size_toArray,List.length_append,List.length_take,List.length_drop,Array.length_toList];omega
     ·rw[List.getElem?_toArray]
      rcases Nat.lt_or_ge j xs.length with hj|hj
      ·rw[List.getElem?_append_left hj]at hu
       have hcj:=hc j u hu
       rw[List.append_assoc,List.getElem?_append_left (by rw[htl];omega),List.getElem?_take_of_lt (by omega),Array.getElem?_toList]
       exact hcj
      ·rw[List.getElem?_append_right hj]at hu
       have hjn:j-xs.length<news.length:=by
        rcases Nat.lt_or_ge (j-xs.length) news.length with h1|h1
        ·exact h1
        ·rw[List.getElem?_eq_none h1]at hu;cases hu
       rw[List.append_assoc,List.getElem?_append_right (by rw[htl];omega),htl,List.getElem?_append_left (by omega),show off+j-(off+xs.length)=j-xs.length by omega]
       exact hu
    ·refine⟨rfl,rfl,rfl,by simp[World.setRow],fun k hk hS=>setRow_other w g k _ (fun e=>hS ⟨_,rfl,e.symm⟩)⟩
    ·simp[Builtin.append_,run_underlying ht,sizeOf,typeInfo,hi,Builtin.lenOf,hroom,hf,Addr.add_lit,hsize,hst]
   ·have holds:∀j u,xs[j]? =some u→w.cell? ((⟨g,off,none⟩:Addr).add j)=some u:=fun j u hu=>by
     rw[Addr.add_lit,hg.cell];exact hc j u hu
    have hrg:=run_append_grow (P:=P) w t ty e i z ht hi hz ⟨g,off,none⟩ xs.length cap xs (by rw[hsize,Nat.mul_one]) holds ad m c news (by rw[hnl,hsize,Nat.mul_one]) hcells (by omega) (by omega) (growslice_fits (by omega) (by rw[hby];exact hbytes))
    exact⟨_,_,_,hrg,(grown cap (by omega)).1,(grown cap (by omega)).2,fun a' h=>by cases h;exact .inl (Nat.le_refl _)⟩
end
section
variable {P:Program} {w:World} {Q:Exit→Act→World→Prop} {opl rest:List Oper} {o:Oper} {n d:Nat} {u:Nat→Value} {l:List (Nat×Value)}
theorem sO {base bytes:Nat} {e ty:TypeId} {z:Value} {A B:Option Addr} {k0 cap m cc:Nat} {xs news:List Value} {R:Nat→Prop} {x y:Operand} {vx vy:Value} (hown:sH w base e A cap xs) (hk0:xs.length=k0) (hr:SlR w R 1 B m news) (h1:∀u∈news,u.oneCell'=true) (ht:P.underlying ty=some (.slice e)) (h63:k0+m≤maxLen) (hbytes:(k0+m)*bytes≤140737488355328) (hbase:base≤w.heap.size)
 (h:∀A' cap' w',sH w' base e A' cap' (xs++news)→Fr (fun k=>∃a,A=some a∧a.block=k) w w'→(∀a',A'=some a'→w.heap.size≤a'.block∨∃a,A=some a∧a.block=a'.block)→wl P opl Q rest (F n u ((d,.slice A' (k0+m) cap')::l)) w') (hg:o.guard=none:=by rfl) (ho:o.op= .call {callee:= .builtin .append,args:= #[x,y],argTypes:= #[ty,ty]}:=by rfl) (hd:o.dst=some d:=by rfl)
 (hi:(P.info? e).map (fun i=>(i.zero,i.size,i.bytes))=some (some z,1,bytes):=by kernel_rfl) (hzs:z.cells.size=1:=by rfl)
 (hx:(F n u l).eval x=vx:=by go_simp;((try with_reducible rfl);done)) (hx':vx= .slice A k0 cap:=by rfl) (hy:(F n u l).eval y=vy:=by go_simp;((try with_reducible rfl);done)) (hy':vy= .slice B m cc:=by rfl):wl P opl Q (o::rest) (F n u l) w:=by
 obtain⟨i,hi,hz,hs,hby⟩:=info_parts hi
 subst hk0
 obtain⟨A',cap',w',hrun,h2,h3,h4⟩:=Jn (P:=P) ty o.type i z bytes ht hi hz hs hby hzs hown R B m cc news hr h1 h63 hbytes hbase
 rw[eI]
 refine jB hg x y ty ty ho hrun (hx.trans hx') (hy.trans hy') ?_
 rw[hd,fI,←eI]
 exact h A' cap' w' h2 h3 h4
end
end Go.Proofs.YtcbkaiakdhiloacGreatDoor
namespace Go.Proofs.YtcbkaiakdhiloacGreatDoor
open Go.RowKit Go.Proofs
attribute [local simp] ibq ibn eqN ltN leN eqL ltL gtL leL geL
attribute [local go_sem] aG aD aC aE
instance:Kp0 fun _=>True:=⟨fun _ _ h _=>h⟩
theorem cvB {w:World} {g:Nat} {t:TypeId} {cs:Array Value} (l:List UInt8) (k:Nat) (hB:Bk w g t cs) (hc:cs.toList=l.map fun c=> .int .u8 (c.toNat:Int)) (cap:Nat) (hk:l.length=k:=by rfl):
 (convert 102 9 (.slice (some ⟨g,0,none⟩) k cap)).run Tryz.prog w= .ok (.string (bs l)) w:=by
 have h:=Lib.run_convert_whole (P:=Tryz.prog) w 102 5 9 Tryz.underlying102 Tryz.underlying5 Tryz.underlying9 g 0 (bs l) (fun i h=>by
  have hi:i<l.length:=by rwa [aG]at h
  rw[Nat.zero_add,hB.cell i,←Array.getElem?_toList,hc,List.getElem?_map,List.getElem?_eq_getElem hi,jZ l i h]
  rfl) cap
 rwa [aG,hk]at h
theorem MD (n:Nat):(big 4 n).map (fun c=>Value.int .u8 (c.toNat:Int))=[.int .u8 (IntKind.u8.wrap ((n:Int)/16777216)),.int .u8 (IntKind.u8.wrap ((n:Int)/65536)),.int .u8 (IntKind.u8.wrap ((n:Int)/256)),.int .u8 (IntKind.u8.wrap (n:Int))]:=by
 simp[big,IntKind.wrap_u8']
 omega
theorem By (n:Nat) (hn:n<4294967296) (w:World):Calls Tryz.prog 107 #[.int .u32 (n:Int)] w fun e w'=>e= .returned (.string (bs (big 4 n)))∧Fr noB w w':=by
 refine en Tryz.func107 Tryz.ntmps107 ?_
 refine W ?_
 refine sA ?_
 intro w1 hB f
 have hcv:=cvB (big 4 n) 4 hB (MD n).symm 4
 refine W ?_
 exact⟨rfl,f⟩
theorem uB (A:Option Addr) (n cap:Nat) (os:List bK) (c:UInt8) (w:World) (hA:SlR w noB 2 A n (fY os)) (hn:n≤4611686018427387904):
 Calls Tryz.prog 105 #[.slice A n cap,.int .u8 (c.toNat:Int)] w fun e w'=>e= .returned (.string (bs (FT os c)))∧Fr noB w w':=by
 have hlen:=hA.opt
 refine en Tryz.func105 Tryz.ntmps105 ?_
 refine W ?_
 refine cL (fun i=>n-i) (fun i=>[(1,.int .u8 (c.toNat:Int)),(7,.slice A n cap),(8,.int .i64 (n:Int)),(9,.int .i64 ((i:Nat):Int))]) (fun i w'=>i≤n∧eF os c=eF (os.drop i) c∧Fr noB w w') 0 (mt (p:=True) trivial).1 ⟨Nat.zero_le _,rfl,Fr.refl _ _⟩ ?_
 rintro i u w1 ⟨hi,ha,f1⟩
 refine W ?_
 by_cases hlt:i<n
 rotate_left
 ·refine W ?_
  refine⟨?_,f1⟩
  unfold FT
  rw[ha,List.drop_of_length_le (by omega)];rfl
 obtain⟨o,ho⟩:∃o,os[i]? =some o:=⟨_,List.getElem?_eq_getElem (by omega)⟩
 obtain⟨ad,rfl,c1,c2⟩:=(hA.keep f1).optAt ho
 have ha2:=ha.trans (uN ho c)
 clear ha ho
 refine W ?_
 refine sA ?_
 intro w2 hB f2
 refine W ?_
 refine sT ?_
 intro w3 hB f3
 replace f3:=f1.none (bP f2 (Nat.le_refl _) f3)
 refine W ?_
 by_cases he:o.code.toNat=c.toNat
 ·have he':=UInt8.toNat_inj.1 he
  rw[if_pos he']at ha2
  refine W ?_
  refine⟨?_,f3⟩
  unfold FT
  rw[ha2];rfl
 ·rw[if_neg (fun h=>he (by rw[h]))]at ha2
  have hi1:IntKind.i64.wrap ((i:Int)+1)=((i+1:Nat):Int):=(IntWalk.i64_in _ (by omega)).trans (by omega)
  refine W ?_
  exact⟨i+1,(mt (p:=True) trivial).1,⟨by omega,ha2,f3⟩,by omega⟩
theorem JK (c:UInt8):IntKind.u8.wrap ((c.toNat:Int)-48)=(((c-48).toNat:Nat):Int):=by
 rw[IntKind.wrap_u8',UInt8.toNat_sub]
 have h:=c.toNat_lt
 rw[show(48:UInt8).toNat=48 from rfl]
 omega
theorem F3 (v:List UInt8) (c:UInt8) (n:Int):Gk (v++[c]) n=wrap64 (wrap64 (10*Gk v n)+((c-48).toNat:Int)):=by
 unfold Gk;rw[List.foldl_append];rfl
theorem tT (A:Option Addr) (n cap:Nat) (fs:List eH) (nm:List UInt8) (w:World) (hA:SlR w noB 2 A n (gJ fs)) (hn:n≤4611686018427387904) (hv:wtF fs≤4611686018427387904):
 Calls Tryz.prog 110 #[.slice A n cap,.string (bs nm)] w fun e w'=>e= .returned (.int .i64 (cH nm fs))∧Fr noB w w':=by
 have hlen:=hA.fld
 refine en Tryz.func110 Tryz.ntmps110 ?_
 refine W ?_
 refine cL (fun i=>n-i) (fun i=>[(1,.string (bs nm)),(5,.int .i64 (cH nm (fs.take i))),(9,.slice A n cap),(10,.int .i64 (n:Int)),(11,.int .i64 ((i:Nat):Int))]) (fun i w'=>i≤n∧Fr noB w w') 0 (mt (p:=True) trivial).1 ⟨Nat.zero_le _,Fr.refl _ _⟩ ?_
 rintro i u w1 ⟨hi,f1⟩
 refine W ?_
 by_cases hlt:i<n
 rotate_left
 ·refine W ?_
  rw[List.take_of_length_le (by omega)]
  exact⟨rfl,f1⟩
 obtain⟨o,ho⟩:∃o,fs[i]? =some o:=⟨_,List.getElem?_eq_getElem (by omega)⟩
 obtain⟨ad,rfl,c1,c2⟩:=(hA.keep f1).fldAt ho
 have hw:=BB _ _ _ ho
 have hT:fs.take (i+1)=fs.take i++[o]:=by rw[List.take_add_one,ho];rfl
 have hi1:IntKind.i64.wrap ((i:Int)+1)=((i+1:Nat):Int):=(IntWalk.i64_in _ (by omega)).trans (by omega)
 have hN:cH nm (fs.take (i+1))=if o.name=nm then Gk o.value (cH nm (fs.take i))else cH nm (fs.take i):=by
  rw[hT];unfold cH;rw[List.foldl_append];rfl
 generalize cH nm (fs.take i)=x at*
 clear hT ho hA
 refine W ?_
 refine sA ?_
 intro w2 hB f2
 refine W ?_
 refine sT ?_
 intro w3 hB f3
 replace f3:=f1.none (bP f2 (Nat.le_refl _) f3)
 refine W ?_
 by_cases he:o.name=nm
 rotate_left
 ·rw[if_neg he]at hN
  have hb:(o.name==nm)=false:=by simpa using he
  clear he
  refine W ?_
  refine⟨i+1,?_,⟨by omega,f3⟩,by omega⟩
  rw[hN]
  exact(mt (p:=True) trivial).1
 rw[if_pos he]at hN
 have hb:(o.name==nm)=true:=by simpa using he
 clear he
 refine W ?_
 obtain⟨v,hvv⟩:∃v,o.value=v:=⟨_,rfl⟩
 rw[hvv]at hN hw c2 hB⊢
 refine cL (fun j=>v.length-j) (fun j=>[(1,.string (bs nm)),(5,.int .i64 (Gk (v.take j) x)),(7,.pointer (some ⟨w1.heap.size,0,none⟩)),(9,.slice (some ad) n cap),(10,.int .i64 (n:Int)),(11,.int .i64 ((i:Nat):Int)),(21,.int .i64 (v.length:Int)),(22,.int .i64 ((j:Nat):Int))]) (fun j w'=>j≤v.length∧w'=w3) 0 (mt (p:=True) trivial).1 ⟨Nat.zero_le _,rfl⟩ ?_
 rintro j u2 _ ⟨hj,rfl⟩
 refine W ?_
 by_cases hlj:j<v.length
 rotate_left
 ·refine W ?_
  refine⟨i+1,?_,⟨by omega,f3⟩,by omega⟩
  rw[List.take_of_length_le (Nat.le_of_not_lt hlj),←hN]
  exact(mt (p:=True) trivial).1
 obtain⟨c,hc⟩:∃c,v[j]? =some c:=⟨_,List.getElem?_eq_getElem hlj⟩
 have hg:∀h:j<(bs v).size,(bs v)[j]'h=c:=fun h=>by rw[jZ v j h];rw[List.getElem?_eq_getElem hlj]at hc;injection hc
 have hq:=JK c
 have hD:Gk (v.take (j+1)) x=wrap64 (wrap64 (10*Gk (v.take j) x)+((c-48).toNat:Int)):=by rw[List.take_add_one,hc];exact F3 _ c x
 have hj1:IntKind.i64.wrap ((j:Int)+1)=((j+1:Nat):Int):=(IntWalk.i64_in _ (by omega)).trans (by omega)
 generalize Gk (v.take j) x=y at*
 have hcl:=(c-48).toNat_lt
 have hc0:=c.toNat_lt
 generalize(c-48).toNat=z at*
 have hz:IntKind.i64.wrap (z:Int)=z:=IntWalk.i64_in _ ⟨by omega,by omega⟩
 clear hc hN hvv
 refine W ?_
 refine⟨j+1,?_,⟨by omega,rfl⟩,by omega⟩
 rw[hD,mM,mM]
 exact(mt (p:=True) trivial).1
theorem DY:∀(f g n:Nat),n<f→n<g→wN f n=wN g n
 |f+1,g+1,n,h1,h2=>by
  unfold wN
  split
  ·rfl
  ·rw[DY f g (n/10) (by omega) (by omega)]
theorem KL (n:Nat) (h:n<10):dec n=[UInt8.ofNat (48+n)]:=by unfold dec wN;rw[if_pos h]
theorem KC (n:Nat) (h:¬n<10):dec n=dec (n/10)++[UInt8.ofNat (48+n%10)]:=by
 unfold dec
 rw[wN,if_neg h,DY n (n/10+1) (n/10) (by omega) (by omega)]
theorem EG:∀f n:Nat,(wN f n).length≤f
 |0,_=>Nat.le_refl _
 |f+1,n=>by
  unfold wN
  split
  ·simp
  ·rw[List.length_append];have:=EG f (n/10);simp;omega
theorem JJ (n:Nat) (h:n<10):IntKind.u8.wrap (IntKind.i64.wrap (48+(n:Int)))=(((UInt8.ofNat (48+n)).toNat:Nat):Int):=by
 rw[IntWalk.i64_in _ ⟨by omega,by omega⟩,IntKind.wrap_u8',UInt8.toNat_ofNat']
 omega
theorem oL (n:Nat) (hn:n≤4611686018427387904):∀w:World,Calls Tryz.prog 113 #[.int .i64 (n:Int)] w fun e w'=>e= .returned (.string (bs (dec n)))∧Fr noB w w':=by
 induction n using Nat.strongRecOn with
 |_ n ih=>
  intro w
  refine en Tryz.func113 Tryz.ntmps113 ?_
  refine W ?_
  by_cases h:n<10
  ·have hd:=JJ n h
   rw[KL n h]
   generalize UInt8.ofNat (48+n)=c at*
   refine W ?_
   refine sA ?_
   intro w1 hB f
   have hcv:=cvB [c] 1 hB rfl 1
   refine W ?_
   exact⟨rfl,f⟩
  ·have hI1:(n:Int).tdiv 10=((n/10:Nat):Int):=by rw[Int.tdiv_eq_ediv_of_nonneg (by omega)];omega
   have hI2:(n:Int).tmod 10=((n%10:Nat):Int):=by rw[Int.tmod_eq_emod_of_nonneg (by omega)];omega
   have hd:=JJ (n%10) (by omega)
   have hI3:IntKind.i64.wrap ((n/10:Nat):Int)=((n/10:Nat):Int):=IntWalk.i64_in _ ⟨by omega,by omega⟩
   have ih:=ih (n/10) (by omega) (by omega)
   have hl:(dec (n/10)).length≤9223372036854775806:=by have:=EG (n/10+1) (n/10);unfold dec;omega
   rw[KC n h]
   generalize n/10=q at*
   generalize n%10=r at*
   generalize UInt8.ofNat (48+r)=c at*
   refine W ?_
   refine dI (S:=fun _=>True) trivial [] [0,1,3,4,5,6,2000,2,7,4008,9,10,3000,7,2000,2,4008,9,10,3000,4008,2,9,10] (h:= ?_)
   intro w1 _ f1
   refine D ?_
   refine dF (tB:=[7,2000,2,4008,9,10,3000,4008,2,9,10]) ?_ ?_
   ·refine dC (ih _) (fun _ _=>trivial) ?_
    intro w2 f2 _
    refine D ?_
    refine dA2 inferInstance trivial ?_
    intro w3 _ hB f3
    have hcv:=cvB [c] 1 hB rfl 1
    refine D ?_
    refine dU (h:= ?_) (fun _=>trivial)
    refine dV (v:= .string (bs (dec q++[c]))) (h:= ?_)
    refine D ?_
    refine W ?_
    exact⟨rfl,(f1.none f2).none f3⟩
   refine dA2 inferInstance trivial ?_
   intro w2 _ hB f2
   refine D ?_
   refine dF (tB:=[4008,2,9,10]) ?_ ?_
   ·refine dC (ih _) (fun _ _=>trivial) ?_
    intro w3 f3 _
    have hcv:=cvB [c] 1 (hB.keep f3 id) rfl 1
    refine D ?_
    refine dU (h:= ?_) (fun _=>trivial)
    refine dV (v:= .string (bs (dec q++[c]))) (h:= ?_)
    refine D ?_
    refine W ?_
    exact⟨rfl,(f1.none f2).none f3⟩
   have hcv:=cvB [c] 1 hB rfl 1
   refine dU (h:= ?_) (fun _=>trivial)
   refine D ?_
   refine dC (ih _) (fun _ _=>trivial) ?_
   intro w3 f3 _
   refine D ?_
   refine dV (v:= .string (bs (dec q++[c]))) (h:= ?_)
   refine D ?_
   refine W ?_
   exact⟨rfl,(f1.none f2).none f3⟩
end Go.Proofs.YtcbkaiakdhiloacGreatDoor
namespace Go.Proofs.YtcbkaiakdhiloacGreatDoor
open Go.RowKit Go.Proofs
attribute [local go_sem] aG aD aC aE
theorem mQ (op bk:Nat) (tx dt:List UInt8) (fs:List eH) (Ao:Option Addr) (cap:Nat) (w:World)
 (hop:op<65536) (hbk:bk<65536) (hA:SlR w noB 2 Ao fs.length (gJ fs)) (hnc:fs.length≤cap) (hwt:wtF fs≤1048576) (htx:tx.length≤1048576) (hdt:dt.length≤1048576) (hT:lY w):
 Calls Tryz.prog 112 #[.agg #[.int .u16 (op:Int),.int .u16 (bk:Int),.string (bs tx),.string (bs dt),.slice Ao fs.length cap]] w (fX (bU ⟨op,bk,tx,dt,fs⟩) w):=by
 have hpa:=(Bk.new w 123 #[.int .u16 (op:Int),.int .u16 (bk:Int),.string (bs tx),.string (bs dt),.slice Ao fs.length cap]).cells
 have hf0:Fr noB w (w.alloc (.cells #[.int .u16 (op:Int),.int .u16 (bk:Int),.string (bs tx),.string (bs dt),.slice Ao fs.length cap] 123)):=(Fr.refl _ _).alloc _
 have hA1:=hA.keep hf0
 have hT1:=hT.none hf0
 go_enter Tryz.func112,Tryz.ntmps112
 go_wp2_with fail
 refine(rR op bk tx dt fs Ao cap _ hop hbk hA1 hnc hwt htx hdt hT1).mono ?_
 rintro e w2 ⟨rfl,hf2⟩
 generalize bU ⟨op,bk,tx,dt,fs⟩=R at*
 go_wp2_with fail
 go_ret2
 exact⟨rfl,hf0.none hf2⟩
end Go.Proofs.YtcbkaiakdhiloacGreatDoor
namespace Go.Proofs.YtcbkaiakdhiloacGreatDoor
open Go.RowKit Go.Proofs
attribute [local go_sem] aG aD aC aE
def gW (h:aK):Array Value:= #[.string (bs h.image),.int .u32 (h.lease:Int),.int .u32 (h.next:Int),.bool h.options,.int .u16 (h.port:Int),.int .i64 (h.block:Int),.int .i64 (h.window:Int),.int .i64 (h.sent:Int),.int .i64 h.last,.int .i64 h.whn,.int .i64 h.now,.int .u16 (h.id:Int)]
attribute [local simp] gW ibq ibn eqN ltN leN eqL ltL gtL leL geL
structure aK.Ok (h:aK):Prop where
 image:h.image.length≤1048576
 lease:h.lease<4294967296
 next:h.next<4294967296
 port:h.port<65536
 id:h.id<65536
 block:h.block≤70000
 window:h.window≤70000
 sent:h.sent≤2097152
structure Ir (w:World):Prop where
 card:Fq w 0 #[.int .u8 2,.int .u8 0,.int .u8 0,.int .u8 0,.int .u8 0,.int .u8 42]
 other:Fq w 1 #[.int .u8 2,.int .u8 0,.int .u8 0,.int .u8 0,.int .u8 0,.int .u8 7]
 tabs:lY w
def glK (b:Nat):Prop:=b=0∨b=1∨b=7∨b=8
theorem Ir.keep {w w':World} {S:Nat→Prop} (h:Ir w) (hf:Fr S w w') (hS:∀b,glK b→¬S b):Ir w':=
 ⟨h.card.keep hf (hS _ (.inl rfl)),h.other.keep hf (hS _ (.inr (.inl rfl))),h.tabs.keep hf (hS _ (.inr (.inr (.inl rfl)))) (hS _ (.inr (.inr (.inr rfl))))⟩
theorem Ir.lt {w:World} (h:Ir w):0<w.heap.size∧1<w.heap.size∧7<w.heap.size∧8<w.heap.size:=⟨h.card.1,h.other.1,h.tabs.lt⟩
structure HAt (w:World) (q:Nat) (h:aK):Prop where
 bk:Bk w q 72 (gW h)
 gl:Ir w
 gq:¬glK q
 ok:h.Ok
theorem HAt.none {w w':World} {q:Nat} {h:aK} (k:HAt w q h) (f:Fr noB w w'):HAt w' q h:=⟨k.bk.keep f id,k.gl.keep f (fun _ _=>id),k.gq,k.ok⟩
instance (q:Nat) (h:aK):Kp0 fun w=>HAt w q h:=⟨fun _ _ k f=>k.none f⟩
theorem HAt.put {w w':World} {q:Nat} {h h':aK} (k:HAt w q h) (b:Bk w' q 72 (gW h')) (f:Fr (aI q) w w') (ok:h'.Ok):HAt w' q h':=
 ⟨b,k.gl.keep f (fun b hb e=>k.gq (by have e':b=q:=e;exact e'▸hb)),k.gq,ok⟩
theorem Fm (n:Nat):IntKind.u16.wrap ((n:Int)+1)=(((n+1)%65536:Nat):Int):=by rw[IntKind.wrap_u16];omega
theorem pK (n:Nat):n%65536<65536:=Nat.mod_lt _ (by decide)
theorem wY (q:Nat) (h:aK) (fm tp fi ti:Nat) (ld:List UInt8) (w:World) (hA:HAt w q h) (hfm:fm<65536) (htp:tp<65536) (hfi:fi<4294967296) (hti:ti<4294967296) (hld:ld.length≤1048576):
 Calls Tryz.prog 108 #[.pointer (some ⟨q,0,none⟩),.agg #[.int .u16 (fm:Int),.int .u16 (tp:Int),.string (bs ld)],.int .u32 (fi:Int),.int .u32 (ti:Int)] w fun e w'=>e= .returned (.string (bs (h.wrap fm tp ld fi ti).2))∧HAt w' q (h.wrap fm tp ld fi ti).1∧Fr (aI q) w w':=by
 have hu:=Fm h.id
 have hi:(h.id+1)%65536<65536:=pK _
 unfold aK.wrap
 dsimp only
 generalize(h.id+1)%65536=i at*
 have hql:=hA.bk.lt
 refine en Tryz.func108 Tryz.ntmps108 ?_
 refine W ?_
 refine sA ?_
 intro w1 hU f1
 replace hA:=hA.none f1
 have hB:=hA.bk
 refine W ?_
 refine sK (gW {h with id:=i}) hB ?_
 intro w2 hB f2
 have hqu:q≠w.heap.size:=Nat.ne_of_lt hql
 replace hA:=hA.put hB f2 {hA.ok with id:=hi}
 replace hU:=hU.keep f2 (fun e=>hqu e.symm)
 have f:=(f1.of_no (aI q)).trans f2
 clear hB f1 f2 hu
 refine W ?_
 refine sC (zX fm tp fi ti ld _ hfm htp hfi hti (by omega)) ?_
 intro w3 f3
 generalize hp1:jC fm tp fi ti ld=p1 at*
 replace hA:=hA.none f3
 replace f:=f.none f3
 have hB:=hA.bk
 refine W ?_
 have h9:((9:UInt8).toNat:Int)=9:=rfl
 have h17:((17:UInt8).toNat:Int)=17:=rfl
 have hl1:p1.1.length≤9223372036854775807:=by rw[←hp1];have:=rU fm tp fi ti ld;omega
 refine sC (AE i fi ti 9 17 p1.1 _ hi hfi hti hl1) ?_
 intro w4 f4
 have hl2:=Cb i 9 17 fi ti p1.1
 generalize vC i 9 17 fi ti p1.1=p2 at*
 replace hA:=hA.none f4
 replace f:=f.none f4
 have c0:=hA.gl.card.2 0 _ rfl
 have c1:=hA.gl.card.2 1 _ rfl
 have c2:=hA.gl.card.2 2 _ rfl
 have c3:=hA.gl.card.2 3 _ rfl
 have c4:=hA.gl.card.2 4 _ rfl
 have c5:=hA.gl.card.2 5 _ rfl
 have d0:=hA.gl.other.2 0 _ rfl
 have d1:=hA.gl.other.2 1 _ rfl
 have d2:=hA.gl.other.2 2 _ rfl
 have d3:=hA.gl.other.2 3 _ rfl
 have d4:=hA.gl.other.2 4 _ rfl
 have d5:=hA.gl.other.2 5 _ rfl
 clear hB
 refine W ?_
 refine sC (lQ 2048 p2.1 2 0 0 0 0 42 2 0 0 0 0 7 w4 (by decide) (by omega)) ?_
 intro w5 f5
 refine W ?_
 exact⟨rfl,hA.none f5,f.none f5⟩
end Go.Proofs.YtcbkaiakdhiloacGreatDoor
namespace Go.Proofs.YtcbkaiakdhiloacGreatDoor
open Go.RowKit Go.Proofs
section
variable {x c':Code} {P:Program} {K:Act→World→Prop} {Q:Exit→Act→World→Prop} {n:Nat} {u:Nat→Value} {l:List (Nat×Value)} {w:World}
theorem cW {K:KT} {a:Act} (H:cw P c' K a w) (hc:x=c':=by conv=>lhs;whnf):cw P x K a w:=by subst hc;exact H
theorem cBk {lI lO:List (Nat×Value)} {K:KT} (Φ:World→Prop) (hb:∀(K:KT) (u:Nat→Value),(∀u' w',Φ w'→K .normal (F n u' lO) w')→cw P c' K (F n u lI) w) (h2:∀u' w',Φ w'→K .normal (F n u' lO) w') (hc:c'=x:=by conv=>lhs;whnf) (h:∀x∈lI,gx u l x.1=x.2:=by(repeat' (first|exact List.forall_mem_nil _|refine List.forall_mem_cons.2 ⟨?_,?_⟩));all_goals first|rfl|(go_simp<;>fail)):cw P x K (F n u l) w:=by
 subst hc
 obtain⟨u1,e⟩:=Lj h
 rw[e]
 exact hb _ u1 fun u' w' hp=>h2 u' w' hp
theorem mtK {lO:List (Nat×Value)} {K:KT} {Φ:World→Prop} (hK:∀u' w',Φ w'→K .normal (F n u' lO) w') (hp:Φ w) (h:∀x∈lO,gx u l x.1=x.2:=by(repeat' (first|exact List.forall_mem_nil _|refine List.forall_mem_cons.2 ⟨?_,?_⟩));all_goals first|rfl|(go_simp<;>fail)):K .normal (F n u l) w:=by
 obtain⟨u1,e⟩:=Lj h
 rw[e]
 exact hK u1 w hp
end
end Go.Proofs.YtcbkaiakdhiloacGreatDoor
namespace Go.Proofs.YtcbkaiakdhiloacGreatDoor
open Go.RowKit Go.Proofs
attribute [local go_sem] aG aD aC aE
attribute [local simp] ibq ibn eqN ltN leN eqL ltL gtL leL geL
theorem Ia (a b c d e f g h:Int) (w:World):(Instr.field 40 (.agg #[.int .i64 a,.int .i64 b,.int .i64 c,.int .u32 d,.int .i64 e,.int .i64 f,.int .i64 g,.int .i64 h]) 1).run Tryz.prog w= .ok (.int .i64 b) w:=by kernel_rfl
theorem Lc (a b c d e f g h:Int) (w:World):(Instr.field 40 (.agg #[.int .i64 a,.int .i64 b,.int .i64 c,.int .u32 d,.int .i64 e,.int .i64 f,.int .i64 g,.int .i64 h]) 3).run Tryz.prog w= .ok (.int .u32 d) w:=by kernel_rfl
def aY (Y:Nat→Prop) (A:Option Addr) (b:Nat):Prop:=Y b∨∃a,A=some a∧a.block=b
structure RF (Y:Nat→Prop) (q:Nat):Prop where
 yq:Y q
 gq:¬glB q
 gk:∀b,glK b→Y b
 gb:∀b,glB b→Y b
structure RK (Y:Nat→Prop) (p q:Nat) (A:Option Addr) (cap:Nat) (out:List (List UInt8)) (s:St) (h:aK) (w:World):Prop where
 m:MX (aY Y A) p s w
 hh:HAt w q h
 off:sH w 0 9 A cap (txV out)
 ap:∀a,A=some a→¬Y a.block
section
variable {Y:Nat→Prop} {p q cap:Nat} {A:Option Addr} {out:List (List UInt8)} {s s':St} {h h':aK} {w w':World}
theorem RK.none (k:RK Y p q A cap out s h w) (f:Fr noB w w'):RK Y p q A cap out s h w':=⟨k.m.none f,k.hh.none f,k.off.keep f (fun _ _=>id),k.ap⟩
theorem RK.mach (k:RK Y p q A cap out s h w) (F:RF Y q) (m:MX (aY Y A) p s' w') (f:Fr (DI (aY Y A)) w w'):RK Y p q A cap out s' h w':=
 ⟨m,⟨k.hh.bk.keep f fun x=>x (.inl F.yq),k.hh.gl.keep f fun b hb x=>x (.inl (F.gk b hb)),k.hh.gq,k.hh.ok⟩,k.off.keep f fun a ha x=>x (.inr ⟨a,ha,rfl⟩),k.ap⟩
theorem RK.host (k:RK Y p q A cap out s h w) (F:RF Y q) (m:HAt w' q h') (f:Fr (aI q) w w'):RK Y p q A cap out s h' w':=
 ⟨k.m.keep f (fun b e=>by obtain rfl:b=q:=e;exact .inl F.yq) (fun b hb e=>by obtain rfl:b=q:=e;exact F.gq hb),m,k.off.keep f (fun a ha e=>k.ap a ha (by have e':a.block=q:=e;rw[e'];exact F.yq)),k.ap⟩
end
theorem Gz {Y:Nat→Prop} (p q t:Nat) (lA A:Option Addr) (lc cap:Nat) (v1 v5 v160:Value) (l out:List (List UInt8)) (d:RnD) (x:RnD×List (List UInt8)) (w0:World) (G:RF Y q) (B:RK Y p q A cap out d.s d.h w0) (hl:SlR w0 (DI Y) 1 lA l.length (txV l)) (hll:l.length≤1048576) (hx:fE t l d out=some x)
 (K:KT) (u:Nat→Value) (hK:∀(A':Option Addr) (cap':Nat) u' w',RK Y p q A' cap' x.2 x.1.s x.1.h w'∧Fr (DI Y) w0 w'→K .normal (F 215 u' [(1,v1),(5,v5),(6,.pointer (some ⟨p,0,none⟩)),(8,.pointer (some ⟨q,0,none⟩)),(9,.int .i64 (x.1.bound:Int)),(10,.int .i64 (x.1.asked:Int)),(11,.int .i64 (x.1.slow:Int)),(12,.int .i64 (t:Int)),(13,.slice A' x.2.length cap')]) w'):
 cw Tryz.prog (fR Tryz.f7 4) K (F 215 u [(1,v1),(5,v5),(6,.pointer (some ⟨p,0,none⟩)),(8,.pointer (some ⟨q,0,none⟩)),(9,.int .i64 (d.bound:Int)),(10,.int .i64 (d.asked:Int)),(11,.int .i64 (d.slow:Int)),(12,.int .i64 (t:Int)),(13,.slice A out.length cap),(160,.slice lA l.length lc),(161,.int .i64 (l.length:Int)),(162,.int .i64 0)]) w0:=by
 refine cW ?_
 refine W ?_
 refine cL (fun i=>l.length-i.1) (fun(i:Nat×RnD×List (List UInt8)×Option Addr×Nat)=>[(1,v1),(5,v5),(6,.pointer (some ⟨p,0,none⟩)),(8,.pointer (some ⟨q,0,none⟩)),(9,.int .i64 (i.2.1.bound:Int)),(10,.int .i64 (i.2.1.asked:Int)),(11,.int .i64 (i.2.1.slow:Int)),(12,.int .i64 (t:Int)),(13,.slice i.2.2.2.1 i.2.2.1.length i.2.2.2.2),(160,.slice lA l.length lc),(161,.int .i64 (l.length:Int)),(162,.int .i64 (i.1:Int))])
  (fun i w'=>i.1≤l.length∧RK Y p q i.2.2.2.1 i.2.2.2.2 i.2.2.1 i.2.1.s i.2.1.h w'∧SlR w' (DI Y) 1 lA l.length (txV l)∧Fr (DI Y) w0 w'∧fE t (l.drop i.1) i.2.1 i.2.2.1=some x)
  (0,d,out,A,cap) (mt (p:=True) trivial).1 ⟨Nat.zero_le _,B,hl,Fr.refl _ _,hx⟩ ?_
 clear B hl hx
 rintro⟨i,d,out,A,cap⟩ u w1 ⟨hi,B,hl,f,hx⟩
 dsimp only at hi B hx⊢
 by_cases hlt:i<l.length
 rotate_left
 ·rw[List.drop_of_length_le (by omega)]at hx
  obtain rfl:=Option.some.inj hx
  refine W ?_
  exact mtK (hK A cap) ⟨B,f⟩
 obtain⟨ad,y,rfl,hy,hc⟩:=hl.at_ hlt
 rw[List.drop_eq_getElem_cons hlt]at hx
 obtain⟨fr,hfr⟩:∃fr,l[i]=fr:=⟨_,rfl⟩
 rw[hfr]at hx
 obtain rfl: .string (bs fr)=y:=by unfold txV at hy;rw[List.getElem?_map,List.getElem?_eq_getElem hlt,hfr]at hy;exact Option.some.inj hy
 clear hy hfr
 obtain⟨s,h,bd,ak,sl⟩:=d
 dsimp only at B hx⊢
 unfold fE at hx
 dsimp only at hx
 split at hx
 rotate_left
 ·cases hx
 rename_i hcm
 split at hx
 rotate_left
 ·cases hx
 rename_i hok
 obtain⟨htx,hol⟩:=hok
 have i1:IntKind.i64.wrap ((i:Int)+1)=((i+1:Nat):Int):=(IntWalk.i64_in _ (by omega)).trans (by omega)
 have hlk:=mU B.m
 unfold FH at hlk
 have hpt:=fun w' (hM:MX (aY Y A) p s w')=>Gt fr hM
 generalize s.put fr=ps at*
 obtain⟨s1,pb⟩:=ps
 dsimp only at hx hcm htx hpt
 have hcr:=St.calm_rest hcm
 have hpl:∀w',MX (aY Y A) p s1 w'→Calls Tryz.prog 17 #[.pointer (some ⟨p,0,Option.none⟩),.int .i64 1] w' (Dv (aY Y A) p (lM 1 s1 0).1 w' (.int .i64 ((lM 1 s1 0).2:Int))):=fun w' hM=>E9 1 hM (by decide) hcr.1 hcr.2
 generalize lM 1 s1 0=pr at*
 obtain⟨s2,kk⟩:=pr
 dsimp only at hx htx hpl
 clear hcr hcm
 obtain⟨ls,hls⟩:∃ls,s.lease=ls:=⟨_,rfl⟩
 rw[hls]at hlk hx
 have hfd:=fun w=>Ia s.now (ls:Int) (s.phase:Int) (s.address:Int) s.boots (s.image.length:Int) s.lost (s.cache.length:Int) w
 refine W ?_
 refine sC hlk ?_
 intro w2 f2
 clear hlk hls
 replace B:=B.none f2
 replace hl:=hl.keep (f2.of_no _)
 replace f:=f.none f2
 clear f2 hc
 refine W ?_
 clear hfd
 refine sX (hpt w2 B.m) ?_
 rintro e w3 ⟨rfl,hM,f3⟩
 refine⟨_,rfl,?_⟩
 replace B:=B.mach G hM f3
 replace f:=f.trans (f3.mono fun b _ x y=>x (.inl y))
 replace hl:=hl.keep (f3.mono fun b _ x y=>x (.inl y))
 clear hM f3 hpt
 refine W ?_
 refine sX (hpl w3 B.m) ?_
 rintro e w4 ⟨rfl,hM,f4⟩
 refine⟨_,rfl,?_⟩
 replace B:=B.mach G hM f4
 replace f:=f.trans (f4.mono fun b _ x y=>x (.inl y))
 replace hl:=hl.keep (f4.mono fun b _ x y=>x (.inl y))
 clear hM f4 hpl
 obtain⟨b,hb⟩:∃b,b=decide (ls=2∧s2.lease=3):=⟨_,rfl⟩
 rw[←hb]at hx
 refine V ?_
 refine cS ?_
 refine cM [1,5,6,8,11,12,13,160,161,162] [(9,.int .i64 ((if b then t else bd:Nat):Int)),(10,.int .i64 ((if b then 0 else ak:Nat):Int))] (fun w'=>Fr noB w4 w') ?_ ?_
 ·have hlk:=mU B.m
  unfold FH at hlk
  clear hx hl
  obtain⟨l2,hl2⟩:∃l2,s2.lease=l2:=⟨_,rfl⟩
  rw[hl2]at hb hlk
  have hfd:=fun w=>Ia s2.now (l2:Int) (s2.phase:Int) (s2.address:Int) s2.boots (s2.image.length:Int) s2.lost (s2.cache.length:Int) w
  by_cases e2:ls=2
  rotate_left
  ·obtain rfl:b=false:=by rw[hb];simp[e2]
   clear hb hlk hfd hl2
   refine W ?_
   exact mt (Fr.refl _ _)
  ·subst e2
   refine W ?_
   refine sC hlk ?_
   intro w5 f5
   clear hlk hl2
   refine W ?_
   clear hfd
   by_cases e3:l2=3
   ·subst e3
    obtain rfl:b=true:=by rw[hb];rfl
    clear hb
    refine W ?_
    exact mt f5
   ·obtain rfl:b=false:=by rw[hb];simp[e3]
    clear hb
    refine W ?_
    exact mt f5
 rintro u w5 f5
 replace B:=B.none f5
 replace hl:=hl.keep (f5.of_no _)
 replace f:=f.none f5
 clear f5 hb
 refine W ?_
 refine sX (uI B.m htx) ?_
 rintro e w6 ⟨v,rfl,hov,hM,f6⟩
 refine⟨_,rfl,?_⟩
 have hlt6:=B.m.lt
 replace B:=B.mach G (hM.mono fun b hb=> .inl hb) f6
 replace f:=f.trans (f6.mono fun b _ x y=>x (.inl y))
 replace hl:=hl.keep (f6.mono fun b _ x y=>x (.inl y))
 obtain⟨vA,vc,rfl,_⟩:=eS hov
 have hvr:=mJ hov
 have hvn:∀b,JE (.slice vA s2.tx.length vc) b→w5.heap.size≤b:=fun b hb=>(hov.lt b hb).1
 clear hov f6
 have htl:(txV out).length=out.length:=by simp[txV]
 refine W ?_
 refine sO (hi:=Fb) B.off htl hvr (by simp[txV,Value.oneCell']) Tryz.underlying73 (by unfold maxLen;omega) (by omega) (Nat.zero_le _) ?_
 intro A' cap' w7 ho f7 hat
 have hrow:txV (out++s2.tx)=txV out++txV s2.tx:=by simp[txV]
 rw[←hrow]at ho
 have hA7:∀a,A=some a→a.block<w6.heap.size:=fun a ha=>(B.off.lt a ha).2
 have f7Y:Fr (DI Y) w6 w7:=f7.mono fun b _ h y=>by
  obtain⟨a,ha,rfl⟩:=h
  exact B.ap a ha y
 have ap':∀a,A'=some a→¬Y a.block:=fun a' ha y=>by
  rcases hat a' ha with h|⟨a,h1,h2⟩
  ·have:=hlt6 _ (.inl y);have:=hM.lt _ (.inl (.inl y));omega
  ·rw[←h2]at y;exact B.ap a h1 y
 have hnA:∀b,Y b→¬(∃a,A=some a∧a.block=b):=fun b hb h=>by
  obtain⟨a,ha,rfl⟩:=h
  exact B.ap a ha hb
 have B':RK Y p q A' cap' (out++s2.tx) {s2 with tx:=[]} h w7:=by
  refine⟨?_,⟨B.hh.bk.keep f7 (hnA q G.yq),B.hh.gl.keep f7 fun b hb=>hnA b (G.gk b hb),B.hh.gq,B.hh.ok⟩,ho,ap'⟩
  refine MX.add hM f7 (fun b hb=> .inl (.inr hb)) (fun b hb=>hnA b (G.gb b hb)) fun b hb=> ?_
  rcases hb with hb|⟨a',ha,rfl⟩
  ·exact .inl (.inl (.inl hb))
  ·rcases hat a' ha with h1|⟨a,h1,h2⟩
   ·exact .inr ⟨h1,(ho.lt a' ha).2⟩
   ·exact .inl (.inl (.inr ⟨a,h1,h2⟩))
 clear B hM hvr
 refine W ?_
 refine⟨(i+1,⟨{s2 with tx:=[]},h,if b then t else bd,if b then 0 else ak,sl⟩,out++s2.tx,A',cap'),?_,⟨hlt,B',hl.keep f7Y,f.trans f7Y,hx⟩,by dsimp only;omega⟩
 dsimp only
 rw[List.length_append]
 exact(mt (p:=True) trivial).1
end Go.Proofs.YtcbkaiakdhiloacGreatDoor
namespace Go.Proofs.YtcbkaiakdhiloacGreatDoor
open Go.RowKit Go.Proofs
attribute [local go_sem] aG aD aC aE
attribute [local simp] ibq ibn eqN ltN leN eqL ltL gtL leL geL
def Nz (l:List Int):List Value:=l.map fun x=> .int .i64 x
structure K6 (w:World) (g:Nat) (A:Option Addr) (cap:Nat) (d:CQ):Prop where
 bk:Bk w g 129 #[.slice A d.loss.length cap,.int .i64 (d.n:Int),.int .i64 (d.lost:Int),.int .i64 d.was.now,.int .i64 (d.was.lease:Int),.int .i64 (d.was.phase:Int),.int .u32 (d.was.address:Int),.int .i64 d.was.boots,.int .i64 (d.was.bytes:Int),.int .i64 d.was.lost,.int .i64 (d.was.cached:Int)]
 row:SlR w (aI g) 1 A d.loss.length (Nz d.loss)
 len:d.loss.length≤1048576
end Go.Proofs.YtcbkaiakdhiloacGreatDoor
namespace Go.Proofs.YtcbkaiakdhiloacGreatDoor
open Go.RowKit Go.Proofs
attribute [local go_sem] aG aD aC aE gK
attribute [local simp] gW ibq ibn eqN ltN leN eqL ltL gtL leL geL
theorem tQ (q:Nat) (h:aK) (fm tp:Nat) (ld:List UInt8) (w:World) (hA:HAt w q h) (hfm:fm<65536):
 Calls Tryz.prog 111 #[.pointer (some ⟨q,0,none⟩),.agg #[.int .u16 (fm:Int),.int .u16 (tp:Int),.string (bs ld)]] w fun e w'=>∃v,e= .returned v∧w'.ownsRow w.heap.size 9 1 v (h.blocks fm).2.length (txV (h.blocks fm).2)∧HAt w' q (h.blocks fm).1∧Fr (aI q) w w':=by
 obtain⟨r,hr⟩:∃r,h.blocks fm=r:=⟨_,rfl⟩
 rw[hr]
 unfold aK.blocks at hr
 have hql:=hA.bk.lt
 have hg0:=hA.gl.lt
 refine en Tryz.func111 Tryz.ntmps111 ?_
 refine W ?_
 refine sA ?_
 intro w1 hU f1
 have hUl:=hU.lt
 replace hA:=hA.none f1
 have hB:=hA.bk
 have hok:=hA.ok
 have hbm:∀k,k≤3000000→k*h.block≤3000000*70000:=fun k hk=>Nat.mul_le_mul hk hok.block
 refine W ?_
 refine cL (fun i=>h.window-i.1) (fun(i:Nat×Nat×Value×List (List UInt8))=>[(0,.pointer (some ⟨q,0,none⟩)),(3,.pointer (some ⟨w.heap.size,0,none⟩)),(5,i.2.2.1),(6,.int .i64 ((h.sent+i.1:Nat):Int))])
  (fun i w'=>i.1≤h.window∧HAt w' q {h with id:=i.2.1}∧w'.ownsRow w1.heap.size 9 1 i.2.2.1 i.2.2.2.length (txV i.2.2.2)∧i.2.2.2.length≤i.1∧Bk w' w.heap.size 57 #[.int .u16 (fm:Int),.int .u16 (tp:Int),.string (bs ld)]∧Fr (aI q) w1 w'∧aK.blockN fm (h.window-i.1) (h.sent+i.1) {h with id:=i.2.1} i.2.2.2=r)
  (0,h.id,.slice none 0 0,[]) (mt (p:=True) trivial).1 ⟨Nat.zero_le _,hA,⟨rfl,.inl ⟨rfl,rfl⟩⟩,Nat.le_refl _,hU,Fr.refl _ _,hr⟩ ?_
 rintro⟨i,j,v,out⟩ u w2 ⟨hi,hA,hov,hol,hU,f2,hr⟩
 dsimp only at hi hA hov hol hr⊢
 have hB:=hA.bk
 have hwn:=hok.window
 have hsn:=hok.sent
 obtain⟨k,hk⟩:∃k,h.sent+i=k:=⟨_,rfl⟩
 rw[hk]at hr⊢
 have hkm:k≤2200000:=by omega
 have hb2:=hbm k (by omega)
 have hb3:=hbm (k+1) (by omega)
 have hMM:k*h.block≤(k+1)*h.block:=Nat.mul_le_mul_right _ (by omega)
 have hi1:IntKind.i64.wrap ((k:Int)+1)=((k+1:Nat):Int):=(IntWalk.i64_in _ (by omega)).trans (by omega)
 have eN:IntKind.i64.wrap ((h.sent:Int)+(h.window:Int))=((h.sent+h.window:Nat):Int):=(IntWalk.i64_in _ (by omega)).trans (by omega)
 have eM:IntKind.i64.wrap ((k:Int)*(h.block:Int))=((k*h.block:Nat):Int):=by rw[←Int.natCast_mul];exact IntWalk.i64_in _ ⟨by omega,by omega⟩
 have eM2:IntKind.i64.wrap (((k+1:Nat):Int)*(h.block:Int))=(((k+1)*h.block:Nat):Int):=by rw[←Int.natCast_mul];exact IntWalk.i64_in _ ⟨by omega,by omega⟩
 obtain⟨M,hM⟩:∃M,k*h.block=M:=⟨_,rfl⟩
 obtain⟨k1,hk1⟩:∃k1,k+1=k1:=⟨_,rfl⟩
 rw[hk1]at eM2 hi1 hb3 hMM
 obtain⟨M2,hM2⟩:∃M,k1*h.block=M:=⟨_,rfl⟩
 obtain⟨N,hN⟩:∃N,h.sent+h.window=N:=⟨_,rfl⟩
 rw[hM]at eM hb2 hMM
 rw[hM2]at eM2 hb3 hMM
 rw[hN]at eN
 have hlt:i<h.window↔k<N:=by omega
 have HK:=Lib.hid (And.intro hM (And.intro hM2 (And.intro hN (And.intro hk hk1))))
 clear hM hM2 hN hk hk1
 obtain⟨b,hb⟩:∃b,b=decide (k<N∧M≤h.image.length):=⟨_,rfl⟩
 refine cS (cS ?_)
 refine cM [0,3,5,6] [(37,.bool b)] (fun w'=>Fr noB w2 w') ?_ ?_
 ·refine dI hB [] (up 25 0) (h:= ?_)
  intro w3 hB f3
  by_cases a1:k<N<;>by_cases a2:M≤h.image.length<;>refine D ?_<;>refine tN ?_<;>subst hb<;>exact mt f3
 rintro u w3 f3
 clear hB
 replace hA:=hA.none f3
 replace hov:=eW hov f3 (fun _ _ x=>x)
 replace hU:=hU.keep f3 id
 replace f2:=f2.none f3
 refine cC (fun e=> ?_) fun e=> ?_
 rotate_left
 ·have hn:=of_decide_eq_false (hb.symm.trans e)
  have hr:(({h with id:=j}:aK),out)=r:=by
   rw[←hr]
   obtain⟨m,hm⟩:∃m,h.window-i=m:=⟨_,rfl⟩
   rw[hm]
   cases m with
   |zero=>rfl
   |succ m=>
    unfold aK.blockN
    rw[if_neg]
    intro hle
    exact hn ⟨by omega,by rw[←HK.out.1];exact hle⟩
  clear hb hn
  refine W ?_
  refine⟨v,rfl,?_⟩
  subst hr
  exact⟨⟨hov.1,hov.2.imp id fun⟨g,c,cur,h1,h2,h3⟩=>⟨g,c,cur,h1,Nat.le_trans f1.size h2,h3⟩⟩,hA,(f1.of_no _).trans f2⟩
 obtain⟨hkN,hMl⟩:=of_decide_eq_true (hb.symm.trans e)
 have hiw:i<h.window:=hlt.2 hkN
 obtain⟨m,hm⟩:∃m,h.window-i=m+1:=⟨h.window-i-1,by omega⟩
 rw[hm]at hr
 unfold aK.blockN at hr
 rw[if_pos (by show k*h.block≤h.image.length;rw[HK.out.1];exact hMl)]at hr
 dsimp only at hr
 obtain⟨m2,hm2⟩:∃m2,min h.image.length M2=m2:=⟨_,rfl⟩
 have hmin:min (h.image.length:Int) (M2:Int)=(m2:Int):=by omega
 have hm2a:M≤m2:=by omega
 have hm2b:m2≤h.image.length:=by omega
 have hpt:aK.part ({h with id:=j}:aK) k=(h.image.take m2).drop M:=by
  unfold aK.part
  show sub h.image (k*h.block) (min h.image.length ((k+1)*h.block))=_
  rw[HK.out.1,HK.out.2.2.2.2,HK.out.2.1,hm2];rfl
 rw[hpt,HK.out.2.2.2.2]at hr
 have hbk:k1%65536<65536:=pK _
 have ebk:IntKind.u16.wrap (k1:Int)=((k1%65536:Nat):Int):=by rw[IntKind.wrap_u16];omega
 generalize k1%65536=bk at*
 have hT:=hA.gl.tabs
 have hB:=hA.bk
 have hplen:((h.image.take m2).drop M).length≤1048576:=by have:=hok.image;rw[List.length_drop,List.length_take];omega
 generalize hpd:(h.image.take m2).drop M=pd at*
 clear hb e hm2 hpt hlt
 refine W ?_
 refine dI hB [] (up 34 0) (h:= ?_)
 intro w4 hB4 f4
 refine D ?_
 refine dC (mQ 3 bk [] pd [] none 0 w4 (by decide) hbk SlR.nil (Nat.zero_le _) (Nat.zero_le _) (Nat.zero_le _) hplen (hT.none f4)) ?_ ?_
 ·intro w' f'
  exact hB4.keep f' id
 intro w5 f5 hB5
 have hx0:=oN ⟨3,bk,[],pd,[]⟩
 generalize bU ⟨3,bk,[],pd,[]⟩=x0 at*
 refine D ?_
 refine W ?_
 replace f5:=f4.none f5
 replace hA:=hA.none f5
 replace hov:=eW hov f5 (fun _ _ x=>x)
 replace hU:=hU.keep f5 id
 replace f2:=f2.none f5
 have hw1:=f2.size
 clear hB hB4 hB5 f5 f4 hpd hplen
 obtain⟨A,c2,rfl,_⟩:=eS hov
 refine dI (An hA.bk (An hU hA)) [14,15,16] (up 18 0) (h:= ?_)
 rintro w6 ⟨hB6,hU6,hA6⟩ f6
 replace hov:=eW hov f6 (fun _ _ x=>x)
 replace f2:=f2.none f6
 have hql2:=hB6.lt
 refine D ?_
 refine dD (wY q _ h.port fm h.next 167772215 x0.1 w6 hA6 hok.port hfm hok.next (by decide) (by omega)) ?_
 rintro w7 ⟨hA7,f7⟩
 replace hov:=eW hov f7 (fun b hb e=>by have e':b=q:=e;omega)
 replace hU:=hU6.keep f7 (fun e=>by have e':w.heap.size=q:=e;omega)
 replace f2:=f2.trans f7
 have hr:aK.blockN fm m k1 (aK.wrap ({h with id:=j}:aK) h.port fm x0.1 h.next 167772215).1 (out++[(aK.wrap ({h with id:=j}:aK) h.port fm x0.1 h.next 167772215).2])=r:=hr
 obtain⟨j2,hj2⟩:∃j2,(aK.wrap ({h with id:=j}:aK) h.port fm x0.1 h.next 167772215).1=({h with id:=j2}:aK):=⟨_,rfl⟩
 rw[hj2]at hr hA7
 generalize(aK.wrap ({h with id:=j}:aK) h.port fm x0.1 h.next 167772215).2=fx at*
 clear hA hA6 hB6 hU6 hj2 f7 f6
 refine D ?_
 refine dA ?_
 intro w8 hE f8
 replace hA7:=hA7.none f8
 replace hov:=eW hov f8 (fun _ _ x=>x)
 replace hU:=hU.keep f8 id
 refine D ?_
 refine dAp (hi:=Fb) hov (SlR.of_bk (S:=noB) hE id rfl) (by simp[Value.oneCell']) Tryz.underlying73 (by unfold maxLen;omega) (by omega) (Nat.le_trans f2.size f8.size) ?_
 intro A' cap' w9 ha
 refine⟨nofun,?_⟩
 refine D ?_
 refine W ?_
 have hge:∀b,(∃a,A=some a∧a.block=b)→w1.heap.size≤b:=fun b ⟨a,hA,e⟩=>e▸(hov.lt _ (by rw[hA];rfl)).1
 have f9:=ha.fr
 have hk1:h.sent+(i+1)=k1:=by have:=HK.out;omega
 have hm1:h.window-(i+1)=m:=by omega
 have hq9:¬∃a,A=some a∧a.block=q:=fun x=>absurd (hge _ x) (by omega)
 have hgl:∀b,glK b→¬∃a,A=some a∧a.block=b:=fun b hb x=>by
  have h1:=hge _ x
  have h2:b<w.heap.size:=by
   rcases hb with rfl|rfl|rfl|rfl
   ·exact hg0.1
   ·exact hg0.2.1
   ·exact hg0.2.2.1
   ·exact hg0.2.2.2
  omega
 refine⟨(i+1,j2,.slice A' (out.length+1) cap',out++[fx]),?_,⟨by dsimp only;omega,⟨hA7.bk.keep f9 hq9,hA7.gl.keep f9 hgl,hA7.gq,hA7.ok⟩,?_,?_,?_,?_,?_⟩,by dsimp only;omega⟩
 ·dsimp only
  rw[hk1]
  exact(mt (p:=True) trivial).1
 ·dsimp only
  unfold txV
  rw[List.length_append,List.map_append]
  exact ha.own
 ·dsimp only
  rw[List.length_append];simp;omega
 ·exact hU.keep f9 fun x=>absurd (hge _ x) (by omega)
 ·exact(f2.none f8).trans' f9 fun b hb x=>absurd (hge _ x) (by omega)
 ·dsimp only
  rw[hk1,hm1];exact hr
end Go.Proofs.YtcbkaiakdhiloacGreatDoor
namespace Go.Proofs.YtcbkaiakdhiloacGreatDoor
open Go.RowKit Go.Proofs
attribute [local go_sem] aG aD aC aE
theorem wO (rp:Bool) (xid client yours next:Nat) (m0 m1 m2 m3 m4 m5:UInt8) (os:List bK) (Ao:Option Addr) (cap:Nat) (w:World)
 (hxid:xid<4294967296) (hcl:client<4294967296) (hyo:yours<4294967296) (hnx:next<4294967296) (hA:SlR w noB 2 Ao os.length (fY os)) (hwt:wtO os≤2097152):
 Calls Tryz.prog 106 #[.agg #[.bool rp,.int .u32 (xid:Int),.int .u32 (client:Int),.int .u32 (yours:Int),.int .u32 (next:Int),.int .u8 (m0.toNat:Int),.int .u8 (m1.toNat:Int),.int .u8 (m2.toNat:Int),.int .u8 (m3.toNat:Int),.int .u8 (m4.toNat:Int),.int .u8 (m5.toNat:Int),.slice Ao os.length cap]] w (fX (fP rp xid client yours next [m0,m1,m2,m3,m4,m5] os) w):=by
 have hpa:=(Bk.new w 62 #[.bool rp,.int .u32 (xid:Int),.int .u32 (client:Int),.int .u32 (yours:Int),.int .u32 (next:Int),.int .u8 (m0.toNat:Int),.int .u8 (m1.toNat:Int),.int .u8 (m2.toNat:Int),.int .u8 (m3.toNat:Int),.int .u8 (m4.toNat:Int),.int .u8 (m5.toNat:Int),.slice Ao os.length cap]).cells
 have hf0:Fr noB w (w.alloc (.cells #[.bool rp,.int .u32 (xid:Int),.int .u32 (client:Int),.int .u32 (yours:Int),.int .u32 (next:Int),.int .u8 (m0.toNat:Int),.int .u8 (m1.toNat:Int),.int .u8 (m2.toNat:Int),.int .u8 (m3.toNat:Int),.int .u8 (m4.toNat:Int),.int .u8 (m5.toNat:Int),.slice Ao os.length cap] 62)):=(Fr.refl _ _).alloc _
 have hA1:=hA.keep hf0
 go_enter Tryz.func106,Tryz.ntmps106
 go_wp2_with fail
 refine(yY rp xid client yours next m0 m1 m2 m3 m4 m5 os Ao cap _ hxid hcl hyo hnx hA1 hwt).mono ?_
 rintro e w2 ⟨rfl,hf2⟩
 generalize fP rp xid client yours next [m0,m1,m2,m3,m4,m5] os=R at*
 go_wp2_with fail
 go_ret2
 exact⟨rfl,hf0.none hf2⟩
end Go.Proofs.YtcbkaiakdhiloacGreatDoor
namespace Go.Proofs.YtcbkaiakdhiloacGreatDoor
open Go.RowKit Go.Proofs
attribute [local go_sem] aG aD aC aE
theorem Ad (l:List UInt8) (w:World) (hl:l.length≤1099511000000):
 Calls Tryz.prog 22 #[.string (bs l)] w (Eh l w):=by
 go_enter Tryz.func22,Tryz.ntmps22
 go_wp2_with fail
 have hx0:=Bk.new w 62 (rdZ 4)
 have hf0:Fr noB w (w.alloc (.cells (rdZ 4) 62)):=(Fr.refl _ _).alloc _
 have hsz:(w.alloc (.cells (rdZ 4) 62)).heap.size=w.heap.size+1:=by simp
 simp only[rdZ]at hx0 hf0 hsz
 generalize w.alloc (.cells #[.bool false,.int .u32 0,.int .u32 0,.int .u32 0,.int .u32 0,.int .u8 0,.int .u8 0,.int .u8 0,.int .u8 0,.int .u8 0,.int .u8 0,.slice none 0 0] 62)=w1 at*
 have Hsz:=Lib.hid hsz
 clear hsz
 refine(B9 l w1 hl).mono ?_
 rintro e w2 ⟨⟨A,cap,rfl,hA⟩,hf1⟩
 have hx1:=hx0.keep hf1 (fun x=>x)
 generalize hr:aQ l=r at*
 have Hr:=Lib.hid hr
 clear hr
 have hin:=Lib.hid (Cx r.1 A cap)
 have hon:=Lib.hid (vF r.1 A cap)
 have hsz:=Lib.hid (qI r.1 A cap)
 generalize hc:yF r.1 A cap=c at*
 have Hc:=Lib.hid hc
 clear hc
 go_wp2_with ((refine aN rfl 62 (.tmp 2) (.tmp 6) rfl w.heap.size _ _ c rfl rfl hx1 hsz.out hin.out hon.out ?_);intro w9 hx9 hf9)
 refine bodyPost_ret (aX Tryz.results22 _ w9 w.heap.size _ c _ _ rfl rfl hx9 Tryz.underlying62 rfl hin.out) rfl ?_
 refine⟨⟨A,cap,by rw[Hr.out,Hc.out];rfl,?_⟩,(hf0.none hf1).trans' hf9 (fun b hb e=>by unfold aI at e;omega)⟩
 rw[Hr.out]
 exact(hA.keep (hf9.mono fun b hb e=>by unfold aI at e;have:=Hsz.out;omega)).sub (fun b hb h=>by have:=Hsz.out;omega)
end Go.Proofs.YtcbkaiakdhiloacGreatDoor
