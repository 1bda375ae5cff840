/- Parts of the walk; written by programs, merged. -/
import Derived.Test.YtcllkmllflheiaaGreatDoorProg
import Derived.Test.YtcllkmllflheiaaGreatDoorRows
import Derived.WalkKit
import Derived.WalkLawsBesides
import Derived.WalkSpells
import Derived.Deep.AppendLies
import Derived.Deep.DrawnRows
import Derived.Maps.AppendAt
import Derived.StillTailTactics
import Derived.Lib.Hide
import Derived.Lib.AppendStr
import Derived.Lib.Strings
import Derived.Laws.MakeOwn
import Derived.Laws.OwnMore
import Derived.Laws.BitsAllLaws
import Derived.ProofKit
import Derived.OpenVars
import Derived.Carry
import Derived.Orders
import Derived.Deep.MidRow
set_option linter.unusedSimpArgs false
set_option linter.unusedVariables false
set_option maxRecDepth 20000
set_option maxHeartbeats 8000000
namespace Go.Proofs.YtcllkmllflheiaaGreatDoor
open Go.RowKit Go.Proofs
structure Fr (S:Nat→Prop) (w w':World):Prop where
 os:w'.os=w.os
 tape:w'.tape=w.tape
 output:w'.output=w.output
 size:w.heap.size≤w'.heap.size
 block:∀k,k<w.heap.size→¬S k→w'.heap[k]? =w.heap[k]?
def noB:Nat→Prop:=fun _=>False
def aJ (p:Nat):Nat→Prop:=fun k=>k=p
def fL (B:Nat):Nat→Prop:=fun k=>B≤k
section
variable {S T:Nat→Prop} {w w' w1 w2:World}
theorem Fr.refl (S:Nat→Prop) (w:World):Fr S w w:=⟨rfl,rfl,rfl,Nat.le_refl _,fun _ _ _=>rfl⟩
theorem Fr.trans' (h:Fr S w w1) (k:Fr T w1 w2) (hT:∀b,b<w.heap.size→T b→S b):Fr S w w2:=
 ⟨k.os.trans h.os,k.tape.trans h.tape,k.output.trans h.output,Nat.le_trans h.size k.size,fun b hb hS=>
  (k.block b (Nat.lt_of_lt_of_le hb h.size) (fun hTb=>hS (hT b hb hTb))).trans (h.block b hb hS)⟩
theorem Fr.trans (h:Fr S w w1) (k:Fr S w1 w2):Fr S w w2:=h.trans' k fun _ _ x=>x
theorem Fr.none (h:Fr S w w1) (k:Fr noB w1 w2):Fr S w w2:=h.trans' k fun _ _ x=>x.elim
theorem Fr.mono (h:Fr S w w1) (hT:∀b,b<w.heap.size→S b→T b):Fr T w w1:=
 ⟨h.os,h.tape,h.output,h.size,fun b hb hS=>h.block b hb (fun x=>hS (hT b hb x))⟩
theorem Fr.of_no (h:Fr noB w w1) (T:Nat→Prop):Fr T w w1:=h.mono fun _ _ x=>x.elim
theorem Fr.drew (h:Fr S w w1):Fr S w w1.drew:=⟨h.os,h.tape,h.output,h.size,h.block⟩
theorem Fr.drewN (h:Fr S w w1) (n:Nat):Fr S w (w1.drewN n):=⟨h.os,h.tape,h.output,h.size,h.block⟩
theorem Fr.alloc (h:Fr S w w1) (o:Obj):Fr S w (w1.alloc o):=
 ⟨h.os,h.tape,h.output,Nat.le_trans h.size (by simp),fun b hb hS=>(Below.heap_alloc w1 o b (Nat.lt_of_lt_of_le hb h.size)).trans (h.block b hb hS)⟩
theorem Fr.setCell (h:Fr S w w1) {p:Addr} (hp:p.block<w.heap.size→S p.block) (u:Value):Fr S w (w1.setCell p u):=
 ⟨h.os,h.tape,h.output,by simpa[World.setCell]using h.size,fun b hb hS=>(Below.heap_setCell w1 p u b (by rintro rfl;exact hS (hp hb))).trans (h.block b hb hS)⟩
theorem Fr.grown (h:Fr S w w1) {row:Option Nat} (k:w1.grownBy w2 row) (hr:∀g,row=some g→g<w.heap.size→S g):Fr S w w2:=
 h.trans' (T:=fun b=>row=some b) ⟨k.os,k.tape,k.output,k.size,fun b hb hn=>k.block b hb (fun e=>hn e.symm)⟩ fun b hb e=>hr b e hb
theorem Fr.cell (h:Fr S w w') {a:Addr} (hb:a.block<w.heap.size) (hS:¬S a.block):w'.cell? a=w.cell? a:=World.cell?_of_block (h.block _ hb hS)
theorem Fr.belowAll (h:Fr noB w w'):Below w.heap.size w w':=⟨h.os,h.tape,h.output,h.size,fun k hk=>h.block k hk (fun x=>x)⟩
end
def Bk (w:World) (g:Nat) (t:TypeId) (cs:Array Value):Prop:=w.heap[g]? =some (.cells cs t (0,0))
section
variable {S:Nat→Prop} {w w':World} {g:Nat} {t:TypeId} {cs:Array Value}
theorem Bk.lt (h:Bk w g t cs):g<w.heap.size:=by
 rcases Nat.lt_or_ge g w.heap.size with hlt|hge
 ·exact hlt
 ·unfold Bk at h;rw[Array.getElem?_eq_none hge]at h;cases h
theorem Bk.cell (h:Bk w g t cs) (i:Nat):w.cell? ⟨g,i,none⟩=cs[i]? :=cell_of_row w g i cs t (0,0) h
theorem Bk.free (h:Bk w g t cs) (i:Nat):w.frozen? ⟨g,i,none⟩=false:=by
 unfold Bk at h;simp[World.frozen?,h]
theorem Bk.new (w:World) (t:TypeId) (cs:Array Value):Bk (w.alloc (.cells cs t)) w.heap.size t cs:=heap_alloc_new w _
theorem Bk.drew (h:Bk w g t cs):Bk w.drew g t cs:=h
theorem Bk.drewN (h:Bk w g t cs) (n:Nat):Bk (w.drewN n) g t cs:=h
theorem Bk.alloc (h:Bk w g t cs) (o:Obj):Bk (w.alloc o) g t cs:=(Below.heap_alloc w o g h.lt).trans h
theorem Bk.set (h:Bk w g t cs) (i:Nat) (u:Value):Bk (w.setCell ⟨g,i,none⟩ u) g t (cs.setIfInBounds i u):=by
 unfold Bk at h⊢;simp[World.setCell,Array.getElem?_modify,h]
theorem Bk.far (h:Bk w g t cs) {p:Addr} (hp:g≠p.block) (u:Value):Bk (w.setCell p u) g t cs:=(Below.heap_setCell w p u g hp).trans h
theorem Bk.keep (h:Bk w g t cs) (hf:Fr S w w') (hg:¬S g):Bk w' g t cs:=(hf.block g h.lt hg).trans h
theorem Bk.grown (h:Bk w g t cs) {row:Option Nat} (hb:w.grownBy w' row) (hg:some g≠row):Bk w' g t cs:=(hb.block g h.lt hg).trans h
end
def bs (l:List UInt8):ByteArray:=⟨l.toArray⟩
theorem xC (l:List UInt8):(bs l).data.toList=l:=by simp[bs]
theorem xP (s:ByteArray):bs s.data.toList=s:=by cases s;simp[bs]
theorem aG (l:List UInt8):(bs l).size=l.length:=by simp[bs,ByteArray.size]
theorem aF (l:List UInt8):(bs l).toList=l:=by
 rw[Go.Lib.toList_data];simp[bs]
theorem aD (a b:List UInt8):bs a++bs b=bs (a++b):=by
 have h:(bs a++bs b).data=(bs (a++b)).data:=by rw[ByteArray.data_append];simp[bs]
 cases hx:bs a++bs b;cases hy:bs (a++b);rw[hx,hy]at h;simp at h;rw[h]
theorem aE (l:List UInt8) (i j:Nat):(bs l).extract i j=bs ((l.take j).drop i):=by
 have h:((bs l).extract i j).data=(bs ((l.take j).drop i)).data:=by rw[ByteArray.data_extract];simp[bs,List.drop_take]
 cases hx:(bs l).extract i j;cases hy:bs ((l.take j).drop i);rw[hx,hy]at h;simp at h;rw[h]
theorem gW (l:List UInt8) (i:Nat) (h:i<(bs l).size):(bs l)[i]=l[i]'(by rw[aG]at h;exact h):=by
 simp only[bs,ByteArray.getElem_eq_getElem_data];simp
def sub (l:List UInt8) (i j:Nat):List UInt8:=(l.take j).drop i
theorem cV (l:List UInt8) (i j:Nat):(bs l).extract i j=bs (sub l i j):=aE l i j
theorem pU (l:List UInt8) (i j:Nat) (h:j≤l.length):(sub l i j).length=j-i:=by simp[sub,List.length_drop,List.length_take];omega
theorem iM (l:List UInt8) (i j:Nat):(sub l i j).length≤j-i:=by simp[sub,List.length_drop,List.length_take];omega
theorem iF (l:List UInt8) (i:Nat):sub l i l.length=l.drop i:=by simp[sub]
def u8v (b:UInt8):Value:= .int .u8 (b.toNat:Int)
def u8s (l:List UInt8):List Value:=l.map u8v
theorem Al (a b:List UInt8):u8s (a++b)=u8s a++u8s b:=by simp[u8s]
theorem fP (a:List UInt8):(u8s a).length=a.length:=by simp[u8s]
theorem qY (a:List UInt8):∀u∈u8s a,u.oneCell'=true:=by
 intro u hu;simp only[u8s,List.mem_map]at hu;obtain⟨b,_,rfl⟩:=hu;rfl
theorem GO {n:Int} (h0:0≤n) (h1:n≤4611686018427387904):wrap64 n=n:=IntWalk.wrap64_in n ⟨by omega,by omega⟩
theorem Cw (x:Nat) (h:x<65536):65535^^^x=65535-x:=by
 have h1:(BitVec.allOnes 16^^^BitVec.ofNat 16 x)= ~~~(BitVec.ofNat 16 x):=by rw[BitVec.xor_comm,BitVec.xor_allOnes]
 have h2:=congrArg BitVec.toNat h1
 rw[BitVec.toNat_xor,BitVec.toNat_not,BitVec.toNat_ofNat,BitVec.toNat_allOnes,Nat.mod_eq_of_lt (by omega:x<2^16)]at h2
 simpa using h2
theorem vR (a:Addr) (n:Nat):(a.add n).block=a.block:=by unfold Addr.add;split<;>rfl
theorem add_add (a:Addr) (i j:Nat):(a.add i).add j=a.add (i+j):=by
 unfold Addr.add
 by_cases hi:i=0<;>by_cases hj:j=0<;>simp[hi,hj,Nat.add_assoc]
theorem jR (b o n:Nat):(⟨b,o,none⟩:Addr).add n=⟨b,o+n,none⟩:=by
 unfold Addr.add;split<;>simp_all
def SlR (w:World) (S:Nat→Prop) (size:Nat) (A:Option Addr) (n:Nat) (xs:List Value):Prop:=
 xs.length=n*size∧(0<n→∃ad,A=some ad∧ad.block<w.heap.size∧¬S ad.block∧∀j u,xs[j]? =some u→w.cell? (ad.add j)=some u)
section
variable {S T:Nat→Prop} {w w':World} {size n:Nat} {A:Option Addr} {xs:List Value}
theorem SlR.nil:SlR w S size A 0 []:=⟨by simp,fun h=>absurd h (by omega)⟩
theorem SlR.at_ {k:Nat} (h:SlR w S 1 A n xs) (hk:k<n):∃ad u,A=some ad∧xs[k]? =some u∧w.cell? (ad.add k)=some u:=by
 obtain⟨ad,e,hb,_,hc⟩:=h.2 (by omega)
 have hl:k<xs.length:=by have:=h.1;omega
 exact⟨ad,xs[k],e,List.getElem?_eq_getElem hl,hc k _ (List.getElem?_eq_getElem hl)⟩
theorem SlR.keep (h:SlR w S size A n xs) (hf:Fr S w w'):SlR w' S size A n xs:=
 ⟨h.1,fun hn=>by
  obtain⟨ad,e,hb,hS,hc⟩:=h.2 hn
  exact⟨ad,e,Nat.lt_of_lt_of_le hb hf.size,hS,fun j u hu=>(hf.cell (by rw[vR];exact hb) (by rw[vR];exact hS)).trans (hc j u hu)⟩⟩
theorem SlR.sub (h:SlR w S size A n xs) (hT:∀b,b<w.heap.size→T b→S b):SlR w T size A n xs:=
 ⟨h.1,fun hn=>by
  obtain⟨ad,e,hb,hS,hc⟩:=h.2 hn
  exact⟨ad,e,hb,fun x=>hS (hT _ hb x),hc⟩⟩
theorem SlR.of_bk {g:Nat} {t:TypeId} {cs:Array Value} (h:Bk w g t cs) (hS:¬S g) (hn:cs.size=n*size):SlR w S size (some ⟨g,0,none⟩) n cs.toList:=by
 refine⟨by simpa using hn,fun _=>⟨_,rfl,h.lt,hS,fun j u hu=> ?_⟩⟩
 rw[jR,Nat.zero_add,h.cell j];simpa using hu
end
theorem Cx {P:Program} (w:World) (base:Nat) (t ty e:TypeId) (i:TypeInfo) (z:Value) (size bytes:Nat) (ht:P.underlying t=some (.slice e)) (hi:P.info? e=some i) (hz:i.zero=some z)
 (hsize:i.size=size) (hby:i.bytes=bytes) (hzs:z.cells.size=size) (hsz:0<size)
 (v:Value) (n:Nat) (xs:List Value) (hown:w.ownsRow base e size v n xs) (S:Nat→Prop)
 (A:Option Addr) (m c:Nat) (news:List Value) (hr:SlR w S size A m news) (h1:∀u∈news,u.oneCell'=true)
 (h63:n+m≤maxLen) (hbytes:(n+m)*bytes≤140737488355328) (hbase:base≤w.heap.size):
 ∃v' w',(Builtin.append_ #[t,t] ty #[v,.slice A m c]).run P w= .ok v' w'∧w'.ownsRow base e size v' (n+m) (xs++news)∧w.grownBy w' v.ownBlock∧
  (v'.ownBlock=v.ownBlock∨v'.ownBlock=some w.heap.size):=by
 rcases A with _|ad
 ·have hm:m=0:=by
   rcases Nat.eq_zero_or_pos m with h0|h0
   ·exact h0
   ·obtain⟨ad,h,_⟩:=hr.2 h0;cases h
  subst hm
  have hn:news=[]:=List.eq_nil_of_length_eq_zero (by simpa using hr.1)
  subst hn
  refine⟨v,w,?_,by simpa using hown,⟨rfl,rfl,rfl,Nat.le_refl _,fun _ _ _=>rfl⟩,.inl rfl⟩
  rcases hown.2 with⟨rfl,rfl⟩|⟨g,cap,cur,rfl,_,_,hnc,_⟩
  ·simp[Builtin.append_,run_underlying ht,sizeOf,typeInfo,hi,Builtin.lenOf,Builtin.firstCells]
  ·simp[Builtin.append_,run_underlying ht,sizeOf,typeInfo,hi,Builtin.lenOf,Builtin.firstCells,hnc,storeCells]
 ·have hcells:∀j u,news[j]? =some u→w.cell? (ad.add j)=some u:=by
   intro j u hu
   rcases Nat.eq_zero_or_pos m with h0|h0
   ·subst h0
    have hn:news=[]:=List.eq_nil_of_length_eq_zero (by simpa using hr.1)
    subst hn;simp at hu
   ·obtain⟨ad',h,_,_,hc⟩:=hr.2 h0
    injection h with h;subst h
    exact hc j u hu
  obtain⟨v',w',hrun,h2,h3,_,h5⟩:=run_append_own_at (P:=P) w base t ty e i z size bytes ht hi hz hsize hby hzs hsz v n xs hown ad m c news hr.1 hcells h1 h63 hbytes hbase
  exact⟨v',w',hrun,h2,h3,h5⟩
structure Apd (w w':World) (base:Nat) (e:TypeId) (size:Nat) (A:Option Addr) (A':Option Addr) (cap' n:Nat) (xs:List Value):Prop where
 own:w'.ownsRow base e size (.slice A' n cap') n xs
 fr:Fr (fun k=>∃a,A=some a∧a.block=k) w w'
 at_:∀a',A'=some a'→(w.heap.size≤a'.block∨∃a,A=some a∧a.block=a'.block)
theorem fW {w:World} {base:Nat} {e:TypeId} {size:Nat} {v:Value} {n:Nat} {xs:List Value} (h:w.ownsRow base e size v n xs):∃A cap,v= .slice A n cap∧(A=none∨∃g,A=some ⟨g,0,none⟩):=by
 rcases h.2 with⟨rfl,rfl⟩|⟨g,cap,cur,rfl,_⟩
 ·exact⟨none,0,rfl,.inl rfl⟩
 ·exact⟨_,cap,rfl,.inr ⟨g,rfl⟩⟩
theorem ED {P:Program} {w:World} {o:Oper} {a:Act} {K:Act→World→Prop} {Q:Exit→Act→World→Prop} (s x:Operand) (t:TypeId)
 (ho:o.op= .call {callee:= .builtin .append,args:= #[s,x],argTypes:= #[t,t]})
 (base:Nat) (e:TypeId) (i:TypeInfo) (z:Value) (size bytes:Nat) (ht:P.underlying t=some (.slice e)) (hi:P.info? e=some i) (hz:i.zero=some z)
 (hsize:i.size=size) (hby:i.bytes=bytes) (hzs:z.cells.size=size) (hsz:0<size)
 (A0:Option Addr) (n cap:Nat) (xs:List Value) (hs:a.eval s= .slice A0 n cap) (hown:w.ownsRow base e size (.slice A0 n cap) n xs) (S:Nat→Prop)
 (A:Option Addr) (m c:Nat) (news:List Value) (hx:a.eval x= .slice A m c) (hr:SlR w S size A m news) (h1:∀u∈news,u.oneCell'=true)
 (h63:n+m≤maxLen) (hbytes:(n+m)*bytes≤140737488355328) (hbase:base≤w.heap.size)
 (h:∀A' cap' w',Apd w w' base e size A0 A' cap' (n+m) (xs++news)→K (a.put o.dst (.slice A' (n+m) cap')) w'):o.wp P a w K Q:=by
 obtain⟨v',w',hrun,h2,h3,h4⟩:=Cx (P:=P) w base t o.type e i z size bytes ht hi hz hsize hby hzs hsz _ n xs hown S A m c news hr h1 h63 hbytes hbase
 obtain⟨A',cap',rfl,hA'⟩:=fW h2
 unfold Oper.wp execOp
 simp only[ho,resolve,invoke,builtin,Sem.run_bind,Sem.run_pure,Result.andThen_ok,List.map_toArray,List.map_cons,List.map_nil,hs,hx,hrun]
 have hA0:∀g,(Value.slice A0 n cap).ownBlock=some g→∃a,A0=some a∧a.block=g:=by
  intro g hg;cases A0 with
  |none=>cases hg
  |some a=>exact⟨a,rfl,by simpa[Value.ownBlock]using hg⟩
 refine h A' cap' w' ⟨h2,(Fr.refl _ _).grown h3 fun g hg _=>hA0 g hg,?_⟩
 rintro a' rfl
 rcases h4 with h4|h4
 ·exact .inr (hA0 _ h4.symm)
 ·simp[Value.ownBlock]at h4;exact .inl (by omega)
theorem eU {P:Program} {w:World} {ops:Array Oper} {rest:List Oper} {o:Oper} {a:Act} {Q:Exit→Act→World→Prop} (hgd:o.guard=none) (s x:Operand) (t:TypeId)
 (ho:o.op= .call {callee:= .builtin .append,args:= #[s,x],argTypes:= #[t,t]})
 (base:Nat) (e:TypeId) (i:TypeInfo) (z:Value) (size bytes:Nat) (ht:P.underlying t=some (.slice e)) (hi:P.info? e=some i) (hz:i.zero=some z)
 (hsize:i.size=size) (hby:i.bytes=bytes) (hzs:z.cells.size=size) (hsz:0<size)
 (A0:Option Addr) (n cap:Nat) (xs:List Value) (hs:a.eval s= .slice A0 n cap) (hown:w.ownsRow base e size (.slice A0 n cap) n xs) (S:Nat→Prop)
 (A:Option Addr) (m c:Nat) (news:List Value) (hx:a.eval x= .slice A m c) (hr:SlR w S size A m news) (h1:∀u∈news,u.oneCell'=true)
 (h63:n+m≤maxLen) (hbytes:(n+m)*bytes≤140737488355328) (hbase:base≤w.heap.size)
 (h:∀A' cap' w',Apd w w' base e size A0 A' cap' (n+m) (xs++news)→wpList P ops Q rest (a.put o.dst (.slice A' (n+m) cap')) w'):wpList P ops Q (o::rest) a w:=
 wpList_plain hgd fun K hK=>ED s x t ho base e i z size bytes ht hi hz hsize hby hzs hsz A0 n cap xs hs hown S A m c news hx hr h1 h63 hbytes hbase fun A' cap' w' h'=>hK _ _ (h A' cap' w' h')
theorem zP {P:Program} {w:World} {ops:Array Oper} {o:Oper} {a:Act} {K:Act→World→Prop} {Q:Exit→Act→World→Prop} {E:Prop} (hgd:o.guard=none) (s x:Operand) (t:TypeId)
 (ho:o.op= .call {callee:= .builtin .append,args:= #[s,x],argTypes:= #[t,t]})
 (base:Nat) (e:TypeId) (i:TypeInfo) (z:Value) (size bytes:Nat) (ht:P.underlying t=some (.slice e)) (hi:P.info? e=some i) (hz:i.zero=some z)
 (hsize:i.size=size) (hby:i.bytes=bytes) (hzs:z.cells.size=size) (hsz:0<size)
 (A0:Option Addr) (n cap:Nat) (xs:List Value) (hs:a.eval s= .slice A0 n cap) (hown:w.ownsRow base e size (.slice A0 n cap) n xs) (S:Nat→Prop)
 (A:Option Addr) (m c:Nat) (news:List Value) (hx:a.eval x= .slice A m c) (hr:SlR w S size A m news) (h1:∀u∈news,u.oneCell'=true)
 (h63:n+m≤maxLen) (hbytes:(n+m)*bytes≤140737488355328) (hbase:base≤w.heap.size)
 (h:∀A' cap' w',Apd w w' base e size A0 A' cap' (n+m) (xs++news)→K (a.put o.dst (.slice A' (n+m) cap')) w'):
 if Region.wanted o (yielded ops a.tmps)=true then Oper.wp P o a w K Q else E:=by
 have hw:Region.wanted o (yielded ops a.tmps)=true:=by simp[Region.wanted,hgd]
 rw[if_pos hw]
 exact ED s x t ho base e i z size bytes ht hi hz hsize hby hzs hsz A0 n cap xs hs hown S A m c news hx hr h1 h63 hbytes hbase h
theorem xM (l:List UInt8):Go.Lib.strCells (bs l)=u8s l:=by simp[Go.Lib.strCells,bs,u8s,u8v]
theorem yG {P:Program} (w:World) (base:Nat) (t u ty e:TypeId) (i:TypeInfo) (ht:P.underlying t=some (.slice e)) (hu:P.underlying u=some .string) (hi:P.info? e=some i) (hz:i.zero=some (.int .u8 0))
 (hsize:i.size=1) (hby:i.bytes=1) (v:Value) (n:Nat) (xs:List Value) (hown:w.ownsRow base e 1 v n xs) (s:ByteArray)
 (h63:n+s.size≤maxLen) (hbytes:n+s.size≤140737488355328) (hbase:base≤w.heap.size):
 ∃v' w',(Builtin.append_ #[t,u] ty #[v,.string s]).run P w= .ok v' w'∧w'.ownsRow base e 1 v' (n+s.size) (xs++Go.Lib.strCells s)∧w.grownBy w' v.ownBlock∧
  (v'.ownBlock=v.ownBlock∨v'.ownBlock=some w.heap.size):=by
 have hsmall:n+s.size≤9223372036854775807:=by simp only[maxLen]at h63;omega
 obtain⟨v',w',hrun,h1,h2,h3⟩:=Go.Lib.run_append_own_string (P:=P) w base t u ty e i ht hu hi hz hsize hby v n xs hown s h63 hbytes hbase
 refine⟨v',w',hrun,h1,h2,?_⟩
 have hxl:xs.length=n:=by simpa using hown.1
 rcases hown.2 with⟨rfl,rfl⟩|⟨g,cap,cur,rfl,hbg,hg,hnc,hcm,hcs,htake⟩
 ·by_cases hm:s.size=0
  ·have:=h3.2 ⟨rfl,hm⟩;subst this;exact .inl rfl
  ·rcases h1.2 with⟨rfl,hn⟩|⟨g,cap,cur,rfl,_⟩
   ·omega
   ·have hr:=run_append_nil_string (P:=P) w t u ty e i (.int .u8 0) ht hu hi hz s (by omega) (by omega) (by rw[hby];omega)
    rw[hr]at hrun
    injection hrun with hv _
    right;rw[←hv];rfl
 ·by_cases hroom:n+s.size≤cap
  ·have hr:=Go.Lib.run_append_room_string (P:=P) w t u ty e i ht hu hi hsize g n cap cur hg s hroom (by simp at hcs;omega)
   rw[hr]at hrun
   injection hrun with hv _
   left;rw[←hv];rfl
  ·have holds:∀j u,xs[j]? =some u→w.cell? ((⟨g,0,none⟩:Addr).add j)=some u:=hown.cells (g:=g) rfl
   have hr:=Go.Lib.run_append_grow_string (P:=P) w t u ty e i (.int .u8 0) ht hu hi hz ⟨g,0,none⟩ n cap xs (by rw[hsize];simpa using hxl) holds s (by omega) (by omega) (by rw[hby];exact growslice_fits (by omega) (by omega))
   rw[hr]at hrun
   injection hrun with hv _
   right;rw[←hv];rfl
theorem pE {P:Program} {w:World} {ops:Array Oper} {rest:List Oper} {o:Oper} {a:Act} {Q:Exit→Act→World→Prop} (hgd:o.guard=none) (sl x:Operand) (t u:TypeId)
 (ho:o.op= .call {callee:= .builtin .append,args:= #[sl,x],argTypes:= #[t,u]})
 (base:Nat) (e:TypeId) (i:TypeInfo) (ht:P.underlying t=some (.slice e)) (hu:P.underlying u=some .string) (hi:P.info? e=some i) (hz:i.zero=some (.int .u8 0))
 (hsize:i.size=1) (hby:i.bytes=1) (A0:Option Addr) (n cap:Nat) (xs:List Value) (hs:a.eval sl= .slice A0 n cap) (hown:w.ownsRow base e 1 (.slice A0 n cap) n xs)
 (s:List UInt8) (hx:a.eval x= .string (bs s)) (h63:n+s.length≤maxLen) (hbytes:n+s.length≤140737488355328) (hbase:base≤w.heap.size)
 (h:∀A' cap' w',Apd w w' base e 1 A0 A' cap' (n+s.length) (xs++u8s s)→wpList P ops Q rest (a.put o.dst (.slice A' (n+s.length) cap')) w'):wpList P ops Q (o::rest) a w:=by
 refine wpList_plain hgd fun K hK=> ?_
 obtain⟨v',w',hrun,h2,h3,h4⟩:=yG (P:=P) w base t u o.type e i ht hu hi hz hsize hby _ n xs hown (bs s) (by rw[aG];exact h63) (by rw[aG];exact hbytes) hbase
 rw[xM,aG]at h2
 obtain⟨A',cap',rfl,hA'⟩:=fW h2
 unfold Oper.wp execOp
 simp only[ho,resolve,invoke,builtin,Sem.run_bind,Sem.run_pure,Result.andThen_ok,List.map_toArray,List.map_cons,List.map_nil,hs,hx,hrun]
 have hA0:∀g,(Value.slice A0 n cap).ownBlock=some g→∃a,A0=some a∧a.block=g:=by
  intro g hg;cases A0 with
  |none=>cases hg
  |some a=>exact⟨a,rfl,by simpa[Value.ownBlock]using hg⟩
 refine hK _ _ (h A' cap' w' ⟨h2,(Fr.refl _ _).grown h3 fun g hg _=>hA0 g hg,?_⟩)
 rintro a' rfl
 rcases h4 with h4|h4
 ·exact .inr (hA0 _ h4.symm)
 ·simp[Value.ownBlock]at h4;exact .inl (by omega)
theorem gT {P:Program} (w:World) (src dst e:TypeId) (hs:P.underlying src=some (.slice e)) (he:P.underlying e=some (.int .u8)) (hd:P.underlying dst=some .string) (S:Nat→Prop)
 (A:Option Addr) (n c:Nat) (l:List UInt8) (hr:SlR w S 1 A n (u8s l)) (hA:A=none∨∃g o,A=some ⟨g,o,none⟩):(convert src dst (.slice A n c)).run P w= .ok (.string (bs l)) w:=by
 have hn:l.length=n:=by have:=hr.1;rw[fP]at this;omega
 rcases hA with rfl|⟨g,o,rfl⟩
 ·have h0:n=0:=by
   rcases Nat.eq_zero_or_pos n with h|h
   ·exact h
   ·obtain⟨_,h,_⟩:=hr.2 h;cases h
  subst h0
  have hl:l=[]:=List.eq_nil_of_length_eq_zero hn
  subst hl
  have h:=run_convert_bytes_nil (P:=P) (w:=w) src e hs he 0 c dst hd
  exact h
 ·have hb:strOfNums (l.map fun b=>(b.toNat:Int))=bs l:=by
   have h1:(strOfNums (l.map fun b=>(b.toNat:Int))).data.toList=(bs l).data.toList:=by
    rw[strOfNums_data,xC,List.map_map]
    conv=>rhs;rw[←List.map_id l]
    apply List.map_congr_left;intro b _;simp
   have h2:=congrArg bs h1
   rw[xP,xP]at h2;exact h2
  have h:=run_convert_bytes_arg (P:=P) (w:=w) src e hs he g o n c (l.map fun b=>(b.toNat:Int)) (by simpa using hn) ?_ dst hd
  ·rw[hb]at h;exact h
  ·intro i hi
   obtain⟨ad,hA,_,_,hc⟩:=hr.2 (by omega)
   injection hA with hA;subst hA
   have hx:(u8s l)[i]? =some (.int .u8 ((l.map fun b=>(b.toNat:Int)).getD i 0)):=by
    have hi':i<l.length:=by omega
    simp[u8s,u8v,hi',List.getD]
   have h:=hc i _ hx
   rwa [jR]at h
theorem pD {P:Program} (t e:TypeId) (i:TypeInfo) (ht:P.underlying t=some (.slice e)) (hi:P.info? e=some i) (hz:i.zero=some (.int .u8 0)) (hs:i.size=1) (hb:i.bytes=1)
 (n:Nat) (hn:n≤1000000000) (w:World):
 (Instr.makeSlice t (.int .i64 (n:Int)) (.int .i64 (n:Int))).run P w= .ok (.slice (some ⟨w.heap.size,0,none⟩) n n) (w.alloc (.cells (List.replicate n (Value.int .u8 0)).toArray e)):=by
 have h:=run_make (P:=P) (w:=w) t e i _ ht hi hz .i64 .i64 (n:Int) (n:Int) (by omega) (by omega) (by rw[hb];omega) (by omega)
 rw[h,Int.toNat_natCast,hs,Nat.mul_one]
 congr 3
 apply Array.ext'
 rw[show(Value.int IntKind.u8 0).cells= #[Value.int IntKind.u8 0]from rfl,toList_madeCells_one]
theorem CH (n:Nat):u8s (List.replicate n 0)=List.replicate n (Value.int .u8 0):=by simp[u8s,u8v]
theorem tE (w:World) (o:Obj):(w.alloc o).heap.size=w.heap.size+1:=Array.size_push _
theorem iC {P:Program} {w:World} {o:Oper} {a:Act} {K:Act→World→Prop} {Q:Exit→Act→World→Prop} (s x:Operand) (t u:TypeId)
 (ho:o.op= .call {callee:= .builtin .append,args:= #[s,x],argTypes:= #[t,u]}) {v y v':Value} {w':World}
 (hrun:(Builtin.append_ #[t,u] o.type #[v,y]).run P w= .ok v' w') (hs:a.eval s=v) (hx:a.eval x=y) (h:K (a.put o.dst v') w'):o.wp P a w K Q:=by
 unfold Oper.wp execOp
 simp only[ho,resolve,invoke,builtin,Sem.run_bind,Sem.run_pure,Result.andThen_ok,List.map_toArray,List.map_cons,List.map_nil,hs,hx,hrun]
 exact h
theorem gV {P:Program} {w:World} {ops:Array Oper} {rest:List Oper} {o:Oper} {a:Act} {Q:Exit→Act→World→Prop} (hgd:o.guard=none) (s x:Operand) (t u:TypeId)
 (ho:o.op= .call {callee:= .builtin .append,args:= #[s,x],argTypes:= #[t,u]}) {v y v':Value} {w':World}
 (hrun:(Builtin.append_ #[t,u] o.type #[v,y]).run P w= .ok v' w') (hs:a.eval s=v) (hx:a.eval x=y) (h:wpList P ops Q rest (a.put o.dst v') w'):wpList P ops Q (o::rest) a w:=
 wpList_plain hgd fun K hK=>iC s x t u ho hrun hs hx (hK _ _ h)
end Go.Proofs.YtcllkmllflheiaaGreatDoor
namespace Go.Proofs.YtcllkmllflheiaaGreatDoor
open Go.RowKit Go.Proofs Go.ChangeShapes Go.WideShapes Go.ChangeAt
open Go.WideMaps Go.WideElems
open Go.ChangeMaps (open_string shut_string)
section
variable {H:Type} {enc:TypeId×Value→H} {P:Program} {W W':World}
theorem kU (hl:laidOutB P=true) (hb:Below W.heap.size W W'):∀{ts:List TypeId} {vs:List Value} {ds:List (DataW H)} {ps:List MemPlace},
 (∀t∈ts,P.readableRec t=true∧t<P.types.size)→DataW.TrodAll enc P W 0 (fun _=>true) true ts vs ds ps→(∀x∈ps,x.block<W.heap.size)→
 DataW.TrodAll enc P W' 0 (fun b=>decide (b<W.heap.size)) true ts vs ds ps
 |[],vs,ds,ps,_,h,_=>by
  obtain⟨rfl,rfl,rfl⟩:=trodAll_nil h;exact trodAll_mk0
 |t::ts,vs,ds,ps,ht,h,hlt=>by
  obtain⟨v,vs',d,ds',p,q,rfl,rfl,rfl,h1,h2⟩:=trodAll_cons h
  exact⟨p,q,Below.trod hl (ht t (by simp)).1 (ht t (by simp)).2 h1 hb (fun x hx=>hlt x (by simp[hx])),
   kU hl hb (fun u hu=>ht u (by simp[hu])) h2 (fun x hx=>hlt x (by simp[hx])),rfl⟩
theorem DY {f:Func} {s:ChangeSpec} {apart:Bool} {args:Array Value} {ds gs:List (DataW H)} {before:List MemPlace} {tb:TypeId}
 (hl:laidOutB P=true) (ht:∀t∈f.params.toList,P.readableRec t=true∧t<P.types.size) (hv:varsRowed P s.vars=true)
 (hW:DataW.Whole enc P f.params.toList s.vars apart W args.toList ds gs before)
 (hr:(s.fn H (ds++gs)).results=[.lit (.bool true)]) (ha:(s.fn H (ds++gs)).args=ds) (hg:(s.fn H (ds++gs)).vars=gs)
 (hrt:f.resultTypes= #[tb]) (htb:P.underlying tb=some .bool) (hb:Below W.heap.size W W'):
 s.post enc P f apart true false false W args (.bool true) W':=by
 have hlt:∀p∈before,p.block<W.heap.size:=fun p hp=>hW.lt p hp
 obtain⟨pa,pv,hA,hV,rfl,hz,hn⟩:=id hW
 refine⟨ds,gs,pa++pv,[],pa,pv,hW,?_,?_,?_,hb.frame _,fun h=>by cases h⟩
 ·rw[hr,hrt];exact trodAll_mk1 (shut_bool htb true)
 ·rw[ha];exact kU hl hb ht hA (fun x hx=>hlt x (by simp[hx]))
 ·rw[hg];exact hb.trodVars hl hv hV
end
theorem own:ownKnob Tryz.prog.godebug=none:=by kernel_rfl
theorem Fh:laidOutB Tryz.prog=true:=by kernel_rfl
end Go.Proofs.YtcllkmllflheiaaGreatDoor
namespace Go.Proofs.YtcllkmllflheiaaGreatDoor
open Go.RowKit Go.Proofs
section
variable {P:Program} {w:World} {r:Reach} {base:Nat} {t u:TypeId} {v c:Value}
theorem GB {fs:Array Field} (ht:P.underlying t=some (.struct fs)) (h:Value.okWide P w r base t v):
 ∃l:List Value,v= .agg l.toArray∧l.length=P.cellsOf t∧Row.okWide P w r base t l.toArray:=by
 unfold Value.okWide at h
 rw[ht]at h
 obtain⟨cs,rfl,h1,h2⟩:=h
 exact⟨cs.toList,by simp,by simpa using h1,by simpa using h2⟩
theorem Jc {l:List Value} {ts:List TypeId} (h:Row.okWide P w r base t l.toArray) (hts:P.cellTypes P.depth t=some ts) (i:Nat) (hc:l[i]? =some c) (hu:ts[i]? =some u):Cell.okWide P w r base u c:=by
 obtain⟨ts',e,_,hall⟩:=h
 rw[hts]at e
 injection e with e
 subst e
 obtain⟨u',h1,h2⟩:=hall i c (by simpa using hc)
 have hi:i<ts.length:=by
  rcases Nat.lt_or_ge i ts.length with h|h
  ·exact h
  ·rw[List.getElem?_eq_none h]at hu;cases hu
 rw[Nat.mod_eq_of_lt hi,hu]at h1
 injection h1 with h1
 rw[h1];exact h2
theorem rW {k:IntKind} (ht:P.underlying u=some (.int k)) (h:Cell.okWide P w r base u c):∃n:Int,c= .int k n∧k.has n:=by
 unfold Cell.okWide at h
 rw[ht]at h
 have h':Cell.ok P w r base u c:=by cases c<;>simpa using h
 unfold Cell.ok at h'
 rw[ht]at h'
 cases c<;>simp at h'
 obtain⟨rfl,h2⟩:=h'
 exact⟨_,rfl,h2⟩
theorem Jl (ht:P.underlying u=some (.int .u8)) (h:Cell.okWide P w r base u c):∃b:UInt8,c= .int .u8 (b.toNat:Int):=by
 obtain⟨n,rfl,hn⟩:=rW ht h
 obtain⟨h1,h2⟩:=hn
 have e1:IntKind.u8.min=0:=by decide
 have e2:IntKind.u8.max=255:=by decide
 refine⟨UInt8.ofNat n.toNat,?_⟩
 rw[UInt8.toNat_ofNat']
 congr 1
 omega
theorem Iq (ht:P.underlying u=some (.int .u16)) (h:Cell.okWide P w r base u c):∃n:Nat,n<65536∧c= .int .u16 (n:Int):=by
 obtain⟨n,rfl,hn⟩:=rW ht h
 obtain⟨h1,h2⟩:=hn
 have e1:IntKind.u16.min=0:=by decide
 have e2:IntKind.u16.max=65535:=by decide
 exact⟨n.toNat,by omega,by congr 1;omega⟩
theorem Iu (ht:P.underlying u=some (.int .u32)) (h:Cell.okWide P w r base u c):∃n:Nat,n<4294967296∧c= .int .u32 (n:Int):=by
 obtain⟨n,rfl,hn⟩:=rW ht h
 obtain⟨h1,h2⟩:=hn
 have e1:IntKind.u32.min=0:=by decide
 have e2:IntKind.u32.max=4294967295:=by decide
 exact⟨n.toNat,by omega,by congr 1;omega⟩
theorem It (ht:P.underlying u=some .string) (h:Cell.okWide P w r base u c):∃l:List UInt8,l.length≤9223372036854775807∧c= .string (bs l):=by
 unfold Cell.okWide at h
 rw[ht]at h
 have h':Cell.ok P w r base u c:=by cases c<;>simpa using h
 unfold Cell.ok at h'
 rw[ht]at h'
 cases c<;>simp at h'
 rename_i s
 have e2:IntKind.i64.max=9223372036854775807:=by decide
 have hz:=aG s.data.toList
 rw[xP]at hz
 exact⟨s.data.toList,by omega,by rw[xP]⟩
theorem EQ {k:IntKind} (ht:P.underlying t=some (.int k)) (h:Value.okWide P w r base t v):Cell.okWide P w r base t v:=by
 unfold Value.okWide at h
 rw[ht]at h
 exact h
end
end Go.Proofs.YtcllkmllflheiaaGreatDoor
namespace Go.Proofs.YtcllkmllflheiaaGreatDoor
open Go.RowKit Go.Proofs
def nE (ops:Array Oper):Bool:=(List.range ops.size).all fun i=>match ops[i]? with|some o=>o.after.toList.all fun e=> !Region.binds .any e||decide (e.on<i)|none=>true
section
variable {P:Program} {ops:Array Oper} {Q:Exit→Act→World→Prop}
theorem vM {md:Region.Mode} {listed:Array Bool} {i:Nat} (h:i∈Region.ready md ops listed):
 ∃o,ops[i]? =some o∧listed.getD i true=false∧∀e∈o.after.toList,Region.binds md e=true→listed.getD e.on false=true:=by
 unfold Region.ready at h
 simp only[List.mem_filter,List.mem_range,Bool.and_eq_true,Bool.not_eq_true']at h
 obtain⟨hi,h1,h2⟩:=h
 have ho:ops[i]? =some ops[i]:=Array.getElem?_eq_getElem hi
 rw[ho]at h2
 refine⟨_,ho,h1,fun e he hb=> ?_⟩
 simp only[Option.map_some,Option.getD_some,Array.all_eq_true']at h2
 have:=h2 e (by simpa using he)
 simpa[hb]using this
theorem iK {listed:Array Bool} (hb:nE ops=true) (hs:listed.size=ops.size) (h:Region.ready .any ops listed=[]):
 ∀i,i<ops.size→listed.getD i false=true:=by
 intro i
 induction i using Nat.strongRecOn with
 |ind i ih=>
  intro hi
  rcases hx:listed.getD i false with _|_
  ·exfalso
   have ho:ops[i]? =some ops[i]:=Array.getElem?_eq_getElem hi
   have hmem:i∈Region.ready .any ops listed:=by
    unfold Region.ready
    simp only[List.mem_filter,List.mem_range,Bool.and_eq_true,Bool.not_eq_true']
    refine⟨hi,?_,?_⟩
    ·have hl:i<listed.size:=by omega
     simp only[Array.getD,hl,dif_pos]at hx⊢;exact hx
    ·rw[ho]
     simp only[Option.map_some,Option.getD_some,Array.all_eq_true']
     intro e he
     unfold nE at hb
     have h1:=List.all_eq_true.1 hb i (by simpa using hi)
     rw[ho]at h1
     have h2:=List.all_eq_true.1 h1 e (by simpa using he)
     rcases hbe:Region.binds .any e with _|_
     ·simp
     ·have hlt:e.on<i:=by simpa[hbe]using h2
      simp[ih e.on hlt (by omega)]
   rw[h]at hmem;cases hmem
  ·rfl
def oF (listed:Array Bool):Nat:=(listed.toList.filter fun b=> !b).length
theorem qB {listed:Array Bool} {i:Nat} (h:listed.getD i true=false):oF (listed.setIfInBounds i true)+1=oF listed:=by
 have hl:i<listed.size:=by
  rcases Nat.lt_or_ge i listed.size with h1|h1
  ·exact h1
  ·simp[Array.getD,Nat.not_lt.2 h1]at h
 unfold oF
 obtain⟨l⟩:=listed
 simp only[List.setIfInBounds_toArray]at*
 induction l generalizing i with
 |nil=>simp at hl
 |cons b r ih=>
  rcases i with _|i
  ·have hb:b=false:=by simpa[Array.getD]using h
   subst hb
   simp
  ·have:=ih (i:=i) (by simpa[Array.getD]using h) (by simpa using hl)
   cases b<;>simp at this⊢<;>omega
theorem uF (n:Nat):oF (Array.replicate n false)=n:=by simp[oF]
theorem mP {md:Region.Mode} {listed:Array Bool} (h:oF listed=0) (hs:listed.size=ops.size):Region.ready md ops listed=[]:=by
 cases hr:Region.ready md ops listed with
 |nil=>rfl
 |cons i r=>
  obtain⟨o,ho,h1,_⟩:=vM (md:=md) (listed:=listed) (ops:=ops) (i:=i) (by rw[hr];simp)
  have:=qB h1
  omega
theorem uU (I:(Nat→Bool)→Act→World→Prop) (hb:nE ops=true)
 (hstep:∀L a w i o,I L a w→ops[i]? =some o→L i=false→(∀e∈o.after.toList,Region.binds .any e=true→L e.on=true)→
  wpOp P ops Q i (fun a' w'=>I (fun j=>if j=i then true else L j) a' w') a w)
 (hend:∀L a w,I L a w→(∀i,i<ops.size→L i=true)→Q .normal a w):
 ∀(fuel:Nat) (listed:Array Bool) (a:Act) (w:World),listed.size=ops.size→oF listed=fuel→I (fun j=>listed.getD j false) a w→wpAny P .any ops Q fuel listed a w
 |0,listed,a,w,hs,hf,h=>by
  have hr:=mP (md:= .any) (ops:=ops) hf hs
  exact⟨hr,hend _ _ _ h (iK hb hs hr)⟩
 |fuel+1,listed,a,w,hs,hf,h=>by
  refine⟨fun hr=>hend _ _ _ h (iK hb hs hr),fun i hi=> ?_⟩
  obtain⟨o,ho,h1,h2⟩:=vM hi
  have hl:i<listed.size:=by
   rcases Nat.lt_or_ge i listed.size with h3|h3
   ·exact h3
   ·simp[Array.getD,Nat.not_lt.2 h3]at h1
  have hLi:listed.getD i false=false:=by simp only[Array.getD,hl,dif_pos]at h1⊢;exact h1
  refine wpOp_mono (fun a' w' h'=> ?_) (hstep _ a w i o h ho hLi h2)
  refine uU I hb hstep hend fuel _ a' w' (by simpa using hs) (by have:=qB h1;omega) ?_
  have e:(fun j=>(listed.setIfInBounds i true).getD j false)=fun j=>if j=i then true else listed.getD j false:=by
   funext j
   by_cases hj:j=i
   ·subst hj;simp[Array.getD,hl]
   ·have hj':¬i=j:=fun x=>hj x.symm
    simp only[hj,if_false]
    by_cases hjs:j<listed.size<;>simp[Array.getD,hjs,hj',Array.getElem_setIfInBounds]
  rw[e];exact h'
theorem iI {id:Nat} {a:Act} {w:World} (hm:P.follows .mixedOrders=true) (I:(Nat→Bool)→Act→World→Prop) (hb:nE ops=true)
 (h0:I (fun _=>false) a w.drew)
 (hstep:∀L a w i o,I L a w→ops[i]? =some o→L i=false→(∀e∈o.after.toList,Region.binds .any e=true→L e.on=true)→
  wpOp P ops Q i (fun a' w'=>I (fun j=>if j=i then true else L j) a' w') a w)
 (hend:∀L a w,I L a w→(∀i,i<ops.size→L i=true)→Q .normal a w):(Code.region id ops true).wp P Q a w:=by
 refine wp_region_any hm (uU I hb hstep hend ops.size _ a _ (by simp) (uF _) ?_)
 have e:(fun j=>(Array.replicate ops.size false).getD j false)=fun _=>false:=by
  funext j;by_cases hj:j<ops.size<;>simp[Array.getD,hj]
 rw[e];exact h0
def upd (u:Nat→Value) (i:Nat) (v:Value):Nat→Value:=fun j=>if j=i then v else u j
theorem aQ {u:Nat→Value} {i:Nat} {v:Value} (h:u i=v):u=upd u i v:=by
 funext j;unfold upd;split
 ·next e=>rw[e,h]
 ·rfl
def mark (L:Nat→Bool) (i:Nat):Nat→Bool:=fun j=>if j=i then true else L j
theorem yA {i:Nat} {o:Oper} {K:Act→World→Prop} {a:Act} {w:World} (ho:ops[i]? =some o) (hg:o.guard=none) (h:o.wp P a w K Q):wpOp P ops Q i K a w:=by
 unfold wpOp;rw[ho]
 simp only[Region.wanted,hg,if_true]
 exact .inl h
theorem rK {id:Nat} {w:World} (hm:P.follows .mixedOrders=true) (hb:nE ops=true) (hgd:(List.range ops.size).all (fun i=>match ops[i]? with|some o=>o.guard.isNone|none=>true)=true)
 (fr:(Nat→Value)→Act) (Φ:Nat→Value→World→Prop) (G:(Nat→Bool)→World→Prop) (u0:Nat→Value) (h0:G (fun _=>false) w.drew)
 (hstep:∀L u w i o,G L w→(∀j,L j=true→Φ j (u j) w)→ops[i]? =some o→L i=false→(∀e∈o.after.toList,Region.binds .any e=true→L e.on=true)→
  ∀K:Act→World→Prop,(∀v w',Φ i v w'→G (mark L i) w'→(∀j x,L j=true→Φ j x w→Φ j x w')→K (fr (upd u i v)) w')→o.wp P (fr u) w K Q)
 (hend:∀u w,(∀i,i<ops.size→Φ i (u i) w)→(∀L,(∀i,i<ops.size→L i=true)→G L w→Q .normal (fr u) w)):(Code.region id ops true).wp P Q (fr u0) w:=by
 refine iI hm (fun L a w=>∃u,a=fr u∧(∀j,L j=true→Φ j (u j) w)∧G L w) hb ⟨u0,rfl,(fun j h=>by cases h),h0⟩ ?_ ?_
 ·rintro L a w i o ⟨u,rfl,hΦ,hG⟩ ho hL hd
  have hi:i<ops.size:=by
   rcases Nat.lt_or_ge i ops.size with h|h
   ·exact h
   ·rw[Array.getElem?_eq_none h]at ho;cases ho
  have hg:o.guard=none:=by
   have h1:=List.all_eq_true.1 hgd i (by simpa using hi)
   rw[ho]at h1
   simpa using h1
  refine yA ho hg (hstep L u w i o hG hΦ ho hL hd _ fun v w' h1 h2 h3=>⟨upd u i v,rfl,fun j hj=> ?_,h2⟩)
  by_cases hji:j=i
  ·subst hji;simpa[upd]using h1
  ·simp only[upd,hji,if_false]at hj⊢
   exact h3 j _ hj (hΦ j hj)
 ·rintro L a w ⟨u,rfl,hΦ,hG⟩ hall
  exact hend u w (fun i hi=>hΦ i (hall i hi)) L hall hG
end
def Cl (ops:Array Oper) (L:Nat→Bool):Prop:=∀i o,ops[i]? =some o→L i=true→∀e∈o.after.toList,Region.binds .any e=true→L e.on=true
theorem Cl.start (ops:Array Oper):Cl ops (fun _=>false):=fun _ _ _ h=>by cases h
theorem Cl.mark {ops:Array Oper} {L:Nat→Bool} {i:Nat} {o:Oper} (h:Cl ops L) (ho:ops[i]? =some o) (hd:∀e∈o.after.toList,Region.binds .any e=true→L e.on=true):Cl ops (mark L i):=by
 intro j p hp hj e he hb
 unfold Go.Proofs.YtcllkmllflheiaaGreatDoor.mark at hj⊢
 by_cases hji:j=i
 ·subst hji
  rw[ho]at hp;injection hp with hp;subst hp
  by_cases hei:e.on=j
  ·simp[hei]
  ·simp only[hei,if_false];exact hd e he hb
 ·simp only[hji,if_false]at hj
  by_cases hei:e.on=i
  ·simp[hei]
  ·simp only[hei,if_false];exact h j p hp hj e he hb
theorem Cl.dep {ops:Array Oper} {L:Nat→Bool} (h:Cl ops L) (i k:Nat) (hi:L i=true) (hk:((ops[i]?).any fun o=>o.after.toList.any fun e=>e.on==k&&Region.binds .any e)=true):L k=true:=by
 cases ho:ops[i]? with
 |none=>rw[ho]at hk;cases hk
 |some o=>
  rw[ho]at hk
  simp only[Option.any_some,List.any_eq_true,Bool.and_eq_true,beq_iff_eq]at hk
  obtain⟨e,he,rfl,hb⟩:=hk
  exact h i o ho hi e he hb
theorem Bk.cells {w:World} {g:Nat} {t:TypeId} {cs:Array Value} (h:Bk w g t cs):∀j,w.cell? ⟨g,j,none⟩=cs[j]? :=fun j=>h.cell j
theorem Bk.frees {w:World} {g:Nat} {t:TypeId} {cs:Array Value} (h:Bk w g t cs):∀j,w.frozen? ⟨g,j,none⟩=false:=fun j=>h.free j
theorem Bk.setMany {g:Nat} {t:TypeId}:∀(vs:List Value) (o:Nat) (w:World) (cs:Array Value),Bk w g t cs→o+vs.length≤cs.size→
 ∃cs',Bk (w.setCells g o vs) g t cs'∧cs'.size=cs.size∧∀j,cs'[j]? =if o≤j∧j<o+vs.length then vs[j-o]? else cs[j]?
 |[],o,w,cs,h,_=>⟨cs,h,rfl,fun j=>by
  rw[if_neg (by rintro⟨h1,h2⟩;simp at h2;omega)]⟩
 |v::r,o,w,cs,h,hl=>by
  simp only[List.length_cons]at hl
  obtain⟨cs',h1,h2,h3⟩:=Bk.setMany r (o+1) _ _ (h.set o v) (by simpa using (by omega:o+1+r.length≤cs.size))
  refine⟨cs',h1,by simpa using h2,fun j=> ?_⟩
  rw[h3 j]
  by_cases hj:j=o
  ·subst hj
   have e1:¬(j+1≤j∧j<j+1+r.length):=by omega
   have e2:j≤j∧j<j+(v::r).length:=by simp
   rw[if_neg e1,if_pos e2]
   simp[Array.getElem?_setIfInBounds,(by omega:j<cs.size)]
  ·by_cases hin:o+1≤j∧j<o+1+r.length
   ·rw[if_pos hin,if_pos (by simp;omega),show j-o=(j-(o+1))+1 by omega,List.getElem?_cons_succ]
   ·rw[if_neg hin,if_neg (by simp;omega),Array.getElem?_setIfInBounds_ne (fun e=>hj e.symm)]
theorem Bk.setAll {w:World} {g:Nat} {t:TypeId} {cs cells:Array Value} (h:Bk w g t cs) (hs:cells.size=cs.size):Bk (w.setCells g 0 cells.toList) g t cells:=by
 obtain⟨cs',h1,h2,h3⟩:=Bk.setMany cells.toList 0 w cs h (by simp[hs])
 have e:cs'=cells:=by
  apply Array.ext_getElem?
  intro j
  rw[h3 j]
  by_cases hj:j<cells.size
  ·simp[hj]
  ·simp[hj,Array.getElem?_eq_none (Nat.not_lt.1 hj),Array.getElem?_eq_none (by omega:cs.size≤j)]
 subst e;exact h1
theorem kE {S:Nat→Prop} {g:Nat} {w0:World} (hg:g<w0.heap.size→S g):∀(vs:List Value) (o:Nat) (w:World),Fr S w0 w→Fr S w0 (w.setCells g o vs)
 |[],_,_,h=>h
 |v::r,o,w,h=>kE hg r (o+1) _ (h.setCell (p:=⟨g,o,none⟩) hg v)
theorem eH {P:Program} {o:Oper} {a:Act} {w:World} {K:Act→World→Prop} {Q:Exit→Act→World→Prop} (ty:TypeId) (x y:Operand) (ho:o.op= .store ty x y)
 (g:Nat) (t:TypeId) (cs cells:Array Value) (hx:a.eval x= .pointer (some ⟨g,0,none⟩)) (hy:a.eval y= .agg cells) (hb:Bk w g t cs) (hs:cells.size=cs.size)
 (hi:(P.info? ty).map (·.size)=some cells.size) (h1:cells.all (·.oneCell')=true)
 (h:∀w',Bk w' g t cells→Fr (aJ g) w w'→K (a.put o.dst undef) w'):o.wp P a w K Q:=
 wp_store_mid ty x y ho g 0 cells hx hy (fun j hj=>⟨by rw[Nat.zero_add,hb.cell j,Array.getElem?_eq_getElem (by omega)];rfl,hb.free _⟩) hi h1
  (h _ (hb.setAll hs) (kE (S:=aJ g) (fun _=>rfl) _ _ _ (Fr.refl (aJ g) w)))
theorem aP {P:Program} {ops:Array Oper} {rest:List Oper} {o:Oper} {a:Act} {w:World} {Q:Exit→Act→World→Prop} (hgd:o.guard=none) (ty:TypeId) (x y:Operand) (ho:o.op= .store ty x y)
 (g:Nat) (t:TypeId) (cs cells:Array Value) (hx:a.eval x= .pointer (some ⟨g,0,none⟩)) (hy:a.eval y= .agg cells) (hb:Bk w g t cs) (hs:cells.size=cs.size)
 (hi:(P.info? ty).map (·.size)=some cells.size) (h1:cells.all (·.oneCell')=true)
 (h:∀w',Bk w' g t cells→Fr (aJ g) w w'→wpList P ops Q rest (a.put o.dst undef) w'):wpList P ops Q (o::rest) a w:=
 wpList_plain hgd fun K hK=>eH ty x y ho g t cs cells hx hy hb hs hi h1 fun w' h2 h3=>hK _ _ (h w' h2 h3)
end Go.Proofs.YtcllkmllflheiaaGreatDoor
namespace Go.Proofs.YtcllkmllflheiaaGreatDoor
open Go.RowKit Go.Proofs
section
variable {P:Program} {ops:Array Oper} {Q:Exit→Act→World→Prop}
theorem gQ {id:Nat} {w:World} (hm:P.follows .mixedOrders=true) (hb:nE ops=true) (hgd:(List.range ops.size).all (fun i=>match ops[i]? with|some o=>o.guard.isNone|none=>true)=true)
 (fr:(Nat→Value)→Act) (Φ:Nat→Value→World→Prop) (G:(Nat→Bool)→(Nat→Value)→World→Prop) (u0:Nat→Value) (h0:G (fun _=>false) u0 w.drew)
 (hstep:∀L u w i o,G L u w→(∀j,L j=true→Φ j (u j) w)→ops[i]? =some o→L i=false→(∀e∈o.after.toList,Region.binds .any e=true→L e.on=true)→
  ∀K:Act→World→Prop,(∀v w',Φ i v w'→G (mark L i) (upd u i v) w'→(∀j x,L j=true→Φ j x w→Φ j x w')→K (fr (upd u i v)) w')→o.wp P (fr u) w K Q)
 (hend:∀u w,(∀i,i<ops.size→Φ i (u i) w)→(∀L,(∀i,i<ops.size→L i=true)→G L u w→Q .normal (fr u) w)):(Code.region id ops true).wp P Q (fr u0) w:=by
 refine iI hm (fun L a w=>∃u,a=fr u∧(∀j,L j=true→Φ j (u j) w)∧G L u w) hb ⟨u0,rfl,(fun j h=>by cases h),h0⟩ ?_ ?_
 ·rintro L a w i o ⟨u,rfl,hΦ,hG⟩ ho hL hd
  have hi:i<ops.size:=by
   rcases Nat.lt_or_ge i ops.size with h|h
   ·exact h
   ·rw[Array.getElem?_eq_none h]at ho;cases ho
  have hg:o.guard=none:=by
   have h1:=List.all_eq_true.1 hgd i (by simpa using hi)
   rw[ho]at h1
   simpa using h1
  refine yA ho hg (hstep L u w i o hG hΦ ho hL hd _ fun v w' h1 h2 h3=>⟨upd u i v,rfl,fun j hj=> ?_,h2⟩)
  by_cases hji:j=i
  ·subst hji;simpa[upd]using h1
  ·simp only[upd,hji,if_false]at hj⊢
   exact h3 j _ hj (hΦ j hj)
 ·rintro L a w ⟨u,rfl,hΦ,hG⟩ hall
  exact hend u w (fun i hi=>hΦ i (hall i hi)) L hall hG
theorem pJ {id:Nat} {w:World} (hm:P.follows .mixedOrders=true) (hb:nE ops=true) (hgd:(List.range ops.size).all (fun i=>match ops[i]? with|some o=>o.guard.isNone|none=>true)=true)
 (fr:(Nat→Value)→Act) (Φ:Nat→Value→World→Prop) (G:(Nat→Bool)→(Nat→Value)→World→Prop) (u0:Nat→Value) (h0:G (fun _=>false) u0 w.drew)
 (hstep:∀L u w i o,Cl ops L→G L u w→(∀j,L j=true→Φ j (u j) w)→ops[i]? =some o→L i=false→(∀e∈o.after.toList,Region.binds .any e=true→L e.on=true)→
  ∀K:Act→World→Prop,(∀v w',Φ i v w'→G (mark L i) (upd u i v) w'→(∀j x,L j=true→Φ j x w→Φ j x w')→K (fr (upd u i v)) w')→o.wp P (fr u) w K Q)
 (hend:∀u w,(∀i,i<ops.size→Φ i (u i) w)→(∀L,(∀i,i<ops.size→L i=true)→G L u w→Q .normal (fr u) w)):(Code.region id ops true).wp P Q (fr u0) w:=
 gQ hm hb hgd fr Φ (fun L u w=>Cl ops L∧G L u w) u0 ⟨Cl.start ops,h0⟩
  (fun L u w i o hG hΦ ho hL hd K hK=>hstep L u w i o hG.1 hG.2 hΦ ho hL hd K fun v w' h1 h2 h3=>hK v w' h1 ⟨hG.1.mark ho hd,h2⟩ h3)
  (fun u w h1 L h2 h3=>hend u w h1 L h2 h3.2)
theorem jW {id:Nat} {w:World} (hm:P.follows .mixedOrders=true) (hb:nE ops=true) (hgd:(List.range ops.size).all (fun i=>match ops[i]? with|some o=>o.guard.isNone|none=>true)=true)
 (fr:(Nat→Value)→Act) (Φ:Nat→Value→World→Prop) (G:(Nat→Bool)→(Nat→Value)→World→Prop) (u0:Nat→Value) (h0:G (fun _=>false) u0 w)
 (hstep:∀L u w i o,G L u w→(∀j,L j=true→Φ j (u j) w)→ops[i]? =some o→L i=false→(∀e∈o.after.toList,Region.binds .any e=true→L e.on=true)→
  ∀K:Act→World→Prop,(∀v w',Φ i v w'→G (mark L i) (upd u i v) w'→(∀j x,L j=true→Φ j x w→Φ j x w')→K (fr (upd u i v)) w')→o.wp P (fr u) w K Q)
 (hend:∀u w,(∀i,i<ops.size→Φ i (u i) w)→(∀L,(∀i,i<ops.size→L i=true)→G L u w→Q .normal (fr u) w)):(Code.region id ops false).wp P Q (fr u0) w:=by
 refine wp_region_list ?_
 have key:∀(rest:List Oper) (k:Nat) (u:Nat→Value) (w:World),ops.toList.drop k=rest→k≤ops.size→G (fun j=>decide (j<k)) u w→(∀j,j<k→Φ j (u j) w)→wpList P ops Q rest (fr u) w:=by
  intro rest
  induction rest with
  |nil=>
   intro k u w hk hle hG hΦ
   have hkl:k=ops.size:=by
    have:=List.drop_eq_nil_iff.1 hk
    simp at this;omega
   subst hkl
   exact hend u w hΦ _ (fun i hi=>by simpa using hi) hG
  |cons o rest ih=>
   intro k u w hk hle hG hΦ
   have hlt:k<ops.size:=by
    rcases Nat.lt_or_ge k ops.size with h|h
    ·exact h
    ·rw[List.drop_eq_nil_of_le (by simpa using h)]at hk;cases hk
   have ho:ops[k]? =some o:=by
    have h1:(ops.toList.drop k)[0]? =some o:=by rw[hk];rfl
    rw[List.getElem?_drop]at h1
    simpa using h1
   have hr:ops.toList.drop (k+1)=rest:=by
    have h1:(ops.toList.drop k).drop 1=rest:=by rw[hk];rfl
    rw[List.drop_drop]at h1
    exact h1
   have hg:o.guard=none:=by
    have h1:=List.all_eq_true.1 hgd k (by simpa using hlt)
    rw[ho]at h1
    simpa using h1
   refine wpList_plain hg fun K hK=> ?_
   refine hstep (fun j=>decide (j<k)) u w k o hG (fun j hj=>hΦ j (by simpa using hj)) ho (by simp) ?_ K ?_
   ·intro e he hbe
    unfold nE at hb
    have h1:=List.all_eq_true.1 hb k (by simpa using hlt)
    rw[ho]at h1
    have h2:=List.all_eq_true.1 h1 e he
    simpa[hbe]using h2
   ·intro v w' hv hG' hst
    refine hK _ _ (ih (k+1) (upd u k v) w' hr (by omega) ?_ ?_)
    ·have e1:mark (fun j=>decide (j<k)) k=fun j=>decide (j<k+1):=by
      funext j
      unfold mark
      by_cases hj:j=k
      ·subst hj;simp
      ·simp only[hj,if_false]
       rw[decide_eq_decide];omega
     rw[e1]at hG';exact hG'
    ·intro j hj
     by_cases hjk:j=k
     ·subst hjk;simpa[upd]using hv
     ·simp only[upd,hjk,if_false]
      exact hst j _ (by simp;omega) (hΦ j (by omega))
 exact key ops.toList 0 u0 w (by simp) (by omega) (by simpa using h0) (fun j hj=>by omega)
end
end Go.Proofs.YtcllkmllflheiaaGreatDoor
namespace Go.Proofs.YtcllkmllflheiaaGreatDoor
def rH:Bool→List UInt8→Nat
 |_,[]=>0
 |false,b::r=>b.toNat*256+rH true r
 |true,b::r=>b.toNat+rH false r
def wF (t:Nat):Nat:=if t=0 then 0 else(t-1)%65535+1
def fB (l:List UInt8):Nat:=65535-wF (rH false l)
def fU (st:Bool×Nat) (b:UInt8):Bool×Nat:=
 (!st.1,(st.2+(if st.1 then b.toNat else b.toNat*256))%65536+(st.2+(if st.1 then b.toNat else b.toNat*256))/65536)
def ck (l:List UInt8):Bool×Nat:=l.foldl fU (false,0)
theorem F0 (t:Nat):wF t≤65535:=by unfold wF;split<;>omega
theorem jQ (t:Nat) (h:t≤65535):wF t=t:=by unfold wF;split<;>omega
theorem vH (t:Nat):wF (t%65536+t/65536)=wF t:=by unfold wF;split<;>split<;>omega
theorem Do (a b:Nat):wF (wF a+b)=wF (a+b):=by unfold wF;split<;>split<;>split<;>omega
theorem nL (l:List UInt8):fB l≤65535:=by unfold fB;omega
theorem C1:∀(l:List UInt8) (o:Bool),rH o l≤65280*l.length
 |[],o=>by cases o<;>simp[rH]
 |b::r,o=>by
  have hb:=b.toNat_lt
  have h1:=C1 r true
  have h2:=C1 r false
  cases o<;>simp[rH]<;>omega
theorem BL:∀(l:List UInt8) (st:Bool×Nat),st.2≤65535→
 (l.foldl fU st).2≤65535∧(l.foldl fU st).2=wF (st.2+rH st.1 l)
 |[],st,h=>by simp[rH,jQ _ h];cases st.1<;>simp[rH,jQ _ h,h]
 |b::r,(o,s),h=>by
  have hb:=b.toNat_lt
  have h1:(fU (o,s) b).2≤65535:=by unfold fU;cases o<;>simp at h⊢<;>omega
  obtain⟨h2,h3⟩:=BL r (fU (o,s) b) h1
  refine⟨h2,?_⟩
  rw[List.foldl_cons,h3]
  have h4:(fU (o,s) b).2=wF (s+(if o then b.toNat else b.toNat*256)):=by
   rw[←jQ _ h1];unfold fU;exact vH _
  rw[h4,Do]
  cases o<;>simp[fU,rH,Nat.add_assoc]
theorem HJ (l:List UInt8):(ck l).2≤65535:=(BL l (false,0) (by simp)).1
theorem Ew (l:List UInt8):65535-(ck l).2=fB l:=by
 unfold fB ck;rw[(BL l (false,0) (by simp)).2];simp
theorem Fb (l:List UInt8) (b:UInt8):ck (l++[b])=fU (ck l) b:=by simp[ck]
def jG:List UInt8→Nat
 |a::b::r=>a.toNat*256+b.toNat+jG r
 |_=>0
def gS (l:List UInt8):List UInt8:=if l.length%2=1 then l++[0]else l
theorem mG:∀(l:List UInt8),l.length%2=0→rH false l=jG l
 |[],_=>rfl
 |[_],h=>by simp at h
 |a::b::r,h=>by
  have:=mG r (by simp at h;omega)
  simp[rH,jG,this];omega
theorem wO:∀(l:List UInt8) (o:Bool),rH o (l++[0])=rH o l
 |[],o=>by cases o<;>simp[rH]
 |b::r,o=>by cases o<;>simp[rH,wO r]
theorem vE (l:List UInt8):jG (gS l)=rH false l:=by
 unfold gS
 split
 ·rename_i h;rw[←mG _ (by simp;omega),wO]
 ·rename_i h;rw[mG _ (by omega)]
theorem pT:∀(k:Nat) (l:List UInt8) (a b:UInt8),l[2*k]? =some a→l[2*k+1]? =some b→jG (l.take (2*k+2))=jG (l.take (2*k))+a.toNat*256+b.toNat
 |0,l,a,b,ha,hb=>by
  match l,ha,hb with
  |x::y::r,ha,hb=>simp at ha hb;subst ha hb;simp[jG]
 |k+1,l,a,b,ha,hb=>by
  match l,ha,hb with
  |[],ha,hb=>simp at ha
  |[x],ha,hb=>simp[show 2*(k+1)=2*k+2 by omega]at ha
  |x::y::r,ha,hb=>
   have e1:2*(k+1)=2*k+1+1:=by omega
   have ha':r[2*k]? =some a:=by rw[e1]at ha;simpa using ha
   have hb':r[2*k+1]? =some b:=by rw[show 2*(k+1)+1=2*k+1+1+1 by omega]at hb;simpa using hb
   have:=pT k r a b ha' hb'
   rw[show 2*(k+1)+2=(2*k+2)+1+1 by omega,show 2*(k+1)=(2*k)+1+1 by omega]
   simp only[List.take_succ_cons,jG,this];omega
def E5 (a b:Nat):Prop:=wF a=wF b
theorem E5.step {a b:Nat} (h:E5 a b):E5 (a/65536+a%65536) b:=by
 unfold E5 at*;rw[Nat.add_comm,vH];exact h
theorem E5.done {a b:Nat} (h:E5 a b) (ha:a≤65535):a=wF b:=by
 unfold E5 at h;rw[←h,jQ _ ha]
def big:Nat→Nat→List UInt8
 |0,_=>[]
 |n+1,x=>big n (x/256)++[UInt8.ofNat x]
theorem aH:∀n x,(big n x).length=n
 |0,_=>rfl
 |n+1,x=>by simp[big,aH n]
def num (l:List UInt8):Nat:=l.foldl (fun n b=>256*n+b.toNat) 0
theorem Ag (l:List UInt8) (b:UInt8):num (l++[b])=256*num l+b.toNat:=by simp[num]
end Go.Proofs.YtcllkmllflheiaaGreatDoor
