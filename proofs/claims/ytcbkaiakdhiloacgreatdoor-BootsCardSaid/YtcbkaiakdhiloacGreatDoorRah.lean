/- Parts of the walk; written by programs, merged. -/
import Derived.Test.YtcbkaiakdhiloacGreatDoorRag
import Derived.Test.YtcbkaiakdhiloacGreatDoorShelf
import Derived.Lib.MapLaws
import Derived.Lib.TrimAscii
set_option linter.unusedSimpArgs false
set_option linter.unusedVariables false
set_option maxRecDepth 20000
set_option maxHeartbeats 8000000
namespace Go.Proofs.YtcbkaiakdhiloacGreatDoor
open Go.RowKit Go.Proofs
attribute [local go_sem] aG aD aC aE
def qH (cs:Array Value) (n i:Nat) (q:List (List UInt8)):Prop:=
 (∀k f,q[k]? =some f→cs[(i+k)%n*2]? =some (.bool true)∧cs[(i+k)%n*2+1]? =some (.string (bs f)))∧
 (∀k,q.length≤k→k<n→cs[(i+k)%n*2]? =some (.bool false)∧∃s,cs[(i+k)%n*2+1]? =some (.string s))
def lJ (g n j i:Nat):Array Value:= #[.slice (some ⟨g,0,none⟩) n n,.int .i64 (j:Int),.int .i64 (i:Int)]
def gL (w:World) (r g n:Nat) (q:List (List UInt8)):Prop:=
 ∃(i:Nat) (cs:Array Value),Bk w r 147 (lJ g n ((i+q.length)%n) i)∧Bk w g 151 cs∧cs.size=n*2∧i<n∧q.length≤n∧r≠g∧qH cs n i q
theorem gL.keep {w w':World} {S:Nat→Prop} {r g n:Nat} {q:List (List UInt8)} (h:gL w r g n q) (hf:Fr S w w') (h1:¬S r) (h2:¬S g):gL w' r g n q:=by
 obtain⟨i,cs,a,b,c⟩:=h
 exact⟨i,cs,a.keep hf h1,b.keep hf h2,c⟩
theorem Io {n i k j:Nat} (hn:0<n) (hk:k<n) (hj:j<n) (h:k≠j):(i+k)%n≠(i+j)%n:=by
 intro e
 have h1:(i+k)%n=(i%n+k)%n:=by simp[Nat.add_mod]
 have h2:(i+j)%n=(i%n+j)%n:=by simp[Nat.add_mod]
 have hi:=Nat.mod_lt i hn
 rw[h1,h2]at e
 have f:∀x,x<n→(i%n+x)%n=if i%n+x<n then i%n+x else i%n+x-n:=by
  intro x hx
  split
  ·next h=>exact Nat.mod_eq_of_lt h
  ·next h=>rw[Nat.mod_eq_sub_mod (by omega),Nat.mod_eq_of_lt (by omega)]
 rw[f k hk,f j hj]at e
 split at e<;>split at e<;>omega
theorem EZ {cs:Array Value} {n i:Nat} {q:List (List UInt8)} {f:List UInt8} (hn:0<n) (hs:cs.size=n*2) (hl:q.length<n) (h:qH cs n i q):
 qH ((cs.setIfInBounds ((i+q.length)%n*2) (.bool true)).setIfInBounds ((i+q.length)%n*2+1) (.string (bs f))) n i (q++[f]):=by
 have hm:=Nat.mod_lt (i+q.length) hn
 have other:∀k,k<n→k≠q.length→∀d,d<2→((cs.setIfInBounds ((i+q.length)%n*2) (.bool true)).setIfInBounds ((i+q.length)%n*2+1) (.string (bs f)))[(i+k)%n*2+d]? =cs[(i+k)%n*2+d]? :=by
  intro k hk hne d hd
  have:=Io (i:=i) hn hk hl hne
  rw[Array.getElem?_setIfInBounds_ne (by omega),Array.getElem?_setIfInBounds_ne (by omega)]
 have same0:((cs.setIfInBounds ((i+q.length)%n*2) (.bool true)).setIfInBounds ((i+q.length)%n*2+1) (.string (bs f)))[(i+q.length)%n*2]? =some (.bool true):=by
  rw[Array.getElem?_setIfInBounds_ne (by omega),Array.getElem?_setIfInBounds_self_of_lt (by omega)]
 have same1:((cs.setIfInBounds ((i+q.length)%n*2) (.bool true)).setIfInBounds ((i+q.length)%n*2+1) (.string (bs f)))[(i+q.length)%n*2+1]? =some (.string (bs f)):=by
  rw[Array.getElem?_setIfInBounds_self_of_lt (by simp;omega)]
 refine⟨fun k x hx=> ?_,fun k h1 h2=> ?_⟩
 ·by_cases hk:k=q.length
  ·subst hk
   rw[List.getElem?_append_right (Nat.le_refl _)]at hx
   simp at hx;subst hx
   exact⟨same0,same1⟩
  ·have hlt:k<q.length:=by
    rcases Nat.lt_or_ge k (q++[f]).length with h1|h1
    ·simp at h1;omega
    ·rw[List.getElem?_eq_none h1]at hx;cases hx
   rw[List.getElem?_append_left hlt]at hx
   have:=h.1 k x hx
   have o0:=other k (by omega) hk 0 (by omega)
   have o1:=other k (by omega) hk 1 (by omega)
   simp only[Nat.add_zero]at o0
   rw[o0,o1];exact this
 ·simp only[List.length_append,List.length_cons,List.length_nil]at h1
  have:=h.2 k (by omega) h2
  have o0:=other k h2 (by omega) 0 (by omega)
  have o1:=other k h2 (by omega) 1 (by omega)
  simp only[Nat.add_zero]at o0
  rw[o0,o1];exact this
theorem Dd {cs:Array Value} {n i:Nat} {q:List (List UInt8)} {f:List UInt8} (hn:0<n) (hi:i<n) (hs:cs.size=n*2) (hl:(f::q).length≤n) (h:qH cs n i (f::q)):
 qH ((cs.setIfInBounds (i*2) (.bool false)).setIfInBounds (i*2+1) (.string ⟨#[]⟩)) n ((i+1)%n) q:=by
 simp only[List.length_cons]at hl
 have e:∀k,((i+1)%n+k)%n=(i+(k+1))%n:=fun k=>by rw[Nat.mod_add_mod];congr 1;omega
 have e0:(i+0)%n=i:=by rw[Nat.add_zero,Nat.mod_eq_of_lt hi]
 have other:∀k,k+1<n→∀d,d<2→((cs.setIfInBounds (i*2) (.bool false)).setIfInBounds (i*2+1) (.string ⟨#[]⟩))[(i+(k+1))%n*2+d]? =cs[(i+(k+1))%n*2+d]? :=by
  intro k hk d hd
  have:=Io (i:=i) hn hk hn (Nat.succ_ne_zero k)
  rw[e0]at this
  rw[Array.getElem?_setIfInBounds_ne (by omega),Array.getElem?_setIfInBounds_ne (by omega)]
 refine⟨fun k x hx=> ?_,fun k h1 h2=> ?_⟩
 ·have hlt:k<q.length:=by
   rcases Nat.lt_or_ge k q.length with h1|h1
   ·exact h1
   ·rw[List.getElem?_eq_none h1]at hx;cases hx
  have:=h.1 (k+1) x (by simpa using hx)
  have o0:=other k (by omega) 0 (by omega)
  have o1:=other k (by omega) 1 (by omega)
  simp only[Nat.add_zero]at o0
  rw[e,o0,o1];exact this
 ·rw[e]
  by_cases hk:k+1=n
  ·have e3:(i+(k+1))%n=i:=by rw[hk];simp[Nat.mod_eq_of_lt hi]
   rw[e3,Array.getElem?_setIfInBounds_ne (by omega),Array.getElem?_setIfInBounds_self_of_lt (by omega),Array.getElem?_setIfInBounds_self_of_lt (by simp;omega)]
   exact⟨rfl,_,rfl⟩
  ·have:=h.2 (k+1) (by simp;omega) (by omega)
   have o0:=other k (by omega) 0 (by omega)
   have o1:=other k (by omega) 1 (by omega)
   simp only[Nat.add_zero]at o0
   rw[o0,o1];exact this
def wF (r g n:Nat) (q:List (List UInt8)) (f:List UInt8) (w:World) (e:Ending) (w':World):Prop:=
 e= .returned (.bool (decide (q.length<n)))∧gL w' r g n (if q.length<n then q++[f]else q)∧Fr (fun b=>b=r∨b=g) w w'
def GU (r g n:Nat) (q:List (List UInt8)) (w:World) (e:Ending) (w':World):Prop:=
 e= .returned (.tuple #[.string (bs (q.headD [])),.bool (!q.isEmpty)])∧gL w' r g n q.tail∧Fr (fun b=>b=r∨b=g) w w'
theorem FG (r g n:Nat) (q:List (List UInt8)) (f:List UInt8) (w:World) (hn:0<n) (hn2:n≤1000) (h:gL w r g n q):
 Calls Tryz.prog 39 #[.pointer (some ⟨r,0,none⟩),.string (bs f)] w (wF r g n q f w):=by
 obtain⟨i,cs,hr,hg,hs,hi,hq,hrg,hso⟩:=h
 have hm:=Nat.mod_lt (i+q.length) hn
 obtain⟨j,hj⟩:∃j,(i+q.length)%n=j:=⟨_,rfl⟩
 rw[hj]at hr hm
 have hrc:=hr.cells
 have hgf:=hg.frees
 by_cases hlt:q.length<n
 ·obtain⟨c0,s0,c1⟩:=hso.2 q.length (Nat.le_refl _) hlt
  rw[hj]at c0 c1
  have hg0:w.cell? ⟨g,j*2,none⟩=some (.bool false):=(hg.cell _).trans c0
  have hg1:w.cell? ⟨g,j*2+1,none⟩=some (.string s0):=(hg.cell _).trans c1
  have hne1:¬g=r:=fun x=>hrg x.symm
  unfold lJ at hrc
  have hfr:=hr.frees
  go_enter Tryz.func39,Tryz.ntmps39
  go_wp2_with fail
  go_quiet (fail)
  have hr1:=hr.drewN nq
  have hg1':=hg.drewN nq
  have hf1:Fr (fun b=>b=r∨b=g) w (w.drewN nq):=(Fr.refl _ _).drewN nq
  obtain⟨w1,hw1⟩:∃w1,w.drewN nq=w1:=⟨_,rfl⟩
  rw[hw1]at hr1 hg1' hf1⊢
  clear hw1 hrc hgf hg0 hg1
  have hg0:w1.cell? ⟨g,j*2,none⟩=some (.bool false):=(hg1'.cell _).trans c0
  have hg1:w1.cell? ⟨g,j*2+1,none⟩=some (.string s0):=(hg1'.cell _).trans c1
  have hgf:=hg1'.frees
  go_upto_region 5 with fail
  have hg5:=(hg1'.set (j*2) (.bool true)).set (j*2+1) (.string (bs f))
  have hr5:=(hr1.far (p:=⟨g,j*2,none⟩) hrg (.bool true)).far (p:=⟨g,j*2+1,none⟩) hrg (.string (bs f))
  have hf5:Fr (fun b=>b=r∨b=g) w ((w1.setCell ⟨g,j*2,none⟩ (.bool true)).setCell ⟨g,j*2+1,none⟩ (.string (bs f))):=(hf1.setCell (p:=⟨g,j*2,none⟩) (fun _=> .inr rfl) _).setCell (p:=⟨g,j*2+1,none⟩) (fun _=> .inr rfl) _
  generalize(w1.setCell ⟨g,j*2,none⟩ (.bool true)).setCell ⟨g,j*2+1,none⟩ (.string (bs f))=w5 at*
  clear hg0 hg1 hgf hr1 hg1' hf1 hfr
  have q1:IntKind.i64.wrap ((j:Int)+1)=(j:Int)+1:=IntWalk.i64_in _ (by omega)
  have q3:¬n=0:=by omega
  refine wpr (fun w'=>Bk w' r 147 (lJ g n j i)∧Bk w' g 151 ((cs.setIfInBounds (j*2) (.bool true)).setIfInBounds (j*2+1) (.string (bs f)))∧Fr (fun b=>b=r∨b=g) w w') [14] (.p 0 (.p 1 (.p 2 (.p 3 (.p 6 (.p 7 (.p 8 (.q 4 (.p 5 (.q 9 (.p 10 (.p 11 (.p 12 (.p 13 (.e 14 (.nil)))))))))))))))) (⟨hr5,hg5,hf5.drew⟩) ?_
  intro ops Q' hO hQ' wr1 hR1
  iterate 7 refine pP hO ?_
  refine pQ hO rfl rfl (fun w' hS=>by have hSc:=hS.1.cells;unfold lJ at hSc;exact qd) ?_
  refine pP hO ?_
  refine pQ hO rfl rfl (fun w' hS=>by have hSc:=hS.1.cells;unfold lJ at hSc;exact qd) ?_
  iterate 4 refine pP hO ?_
  refine iL hO rfl rfl rfl (fun K hK=> ?_)
  have hcz:=hR1.1.cells
  have hfz:=hR1.1.frees
  unfold lJ at hcz
  go_simp
  refine hK _ _ ?_
  clear hK K
  refine bL (hQ' _ _ ?_)
  obtain⟨hr6,hg6,hf6⟩:=hR1
  have hr7:=hr6.set 1 (.int .i64 (((j:Int)+1).tmod (n:Int)))
  have hg7:=hg6.far (p:=⟨r,1,none⟩) (fun x=>hrg x.symm) (.int .i64 (((j:Int)+1).tmod (n:Int)))
  have hf7:=hf6.setCell (p:=⟨r,1,none⟩) (fun _=> .inl rfl) (.int .i64 (((j:Int)+1).tmod (n:Int)))
  have hjm:((j:Int)+1).tmod (n:Int)=(((i+(q++[f]).length)%n:Nat):Int):=by
   rw[List.length_append,List.length_cons,List.length_nil,←Nat.add_assoc,←Nat.mod_add_mod,hj];rfl
  have Hjm:=Lib.hid hjm
  have hso2:=EZ (f:=f) hn hs hlt hso
  rw[hj]at hso2
  have Hso2:=Lib.hid hso2
  clear hjm hj hso2
  go_wp2_with fail
  go_ret
  unfold wF
  rw[decide_eq_true hlt,if_pos hlt]
  refine⟨rfl,?_,hf7⟩
  refine⟨i,_,?_,hg7,by simp[hs],hi,by simp;omega,hrg,?_⟩
  ·rw[show lJ g n ((i+(q++[f]).length)%n) i=(lJ g n j i).setIfInBounds 1 (.int .i64 (((i+(q++[f]).length)%n:Nat):Int))from rfl,←Hjm.out];exact hr7
  ·exact Hso2.out
 ·have hqn:q.length=n:=by omega
  obtain⟨f0,q0⟩:∃f0,q[0]? =some f0:=⟨_,List.getElem?_eq_getElem (by omega)⟩
  obtain⟨c0,c1⟩:=hso.1 0 f0 q0
  have hji:j=i:=by rw[←hj,hqn];simp[Nat.mod_eq_of_lt hi]
  rw[Nat.add_zero,Nat.mod_eq_of_lt hi,←hji]at c0
  have hg0:w.cell? ⟨g,j*2,none⟩=some (.bool true):=(hg.cell _).trans c0
  have hpre:=hj
  unfold lJ at hrc
  have Hj:=Lib.hid hj
  have Hlt:=Lib.hid hlt
  clear hj hpre hji c0 c1 hqn q0 hlt
  go_enter Tryz.func39,Tryz.ntmps39
  go_wp2_with fail
  go_quiet (fail)
  go_wp2_with fail
  go_ret
  unfold wF
  rw[decide_eq_false Hlt.out,if_neg Hlt.out]
  exact⟨rfl,⟨i,cs,by rw[Hj.out];exact hr.drewN nq,hg.drewN nq,hs,hi,hq,hrg,hso⟩,(Fr.refl _ _).drewN nq⟩
theorem vU (r g n:Nat) (q:List (List UInt8)) (w:World) (hn:0<n) (hn2:n≤1000) (h:gL w r g n q):
 Calls Tryz.prog 38 #[.pointer (some ⟨r,0,none⟩)] w (GU r g n q w):=by
 obtain⟨i,cs,hr,hg,hs,hi,hq,hrg,hso⟩:=h
 have hm:=Nat.mod_lt (i+q.length) hn
 have hrc:=hr.cells
 unfold lJ at hrc
 cases q with
 |nil=>
  obtain⟨c0,s0,c1⟩:=hso.2 0 (Nat.zero_le _) hn
  rw[Nat.add_zero,Nat.mod_eq_of_lt hi]at c0
  have hg0:w.cell? ⟨g,i*2,none⟩=some (.bool false):=(hg.cell _).trans c0
  clear c0 c1
  go_enter Tryz.func38,Tryz.ntmps38
  go_wp2_with fail
  go_quiet (fail)
  go_wp2_with fail
  go_ret2
  exact⟨rfl,⟨i,cs,hr.drewN nq,hg.drewN nq,hs,hi,hq,hrg,hso⟩,(Fr.refl _ _).drewN nq⟩
 |cons f q=>
  obtain⟨c0,c1⟩:=hso.1 0 f rfl
  simp only[Nat.add_zero,Nat.mod_eq_of_lt hi]at c0 c1
  obtain⟨j,hj⟩:∃j,(i+(f::q).length)%n=j:=⟨_,rfl⟩
  rw[hj]at hr hm hrc
  have hg0:w.cell? ⟨g,i*2,none⟩=some (.bool true):=(hg.cell _).trans c0
  have hg1:w.cell? ⟨g,i*2+1,none⟩=some (.string (bs f)):=(hg.cell _).trans c1
  have hne1:¬g=r:=fun x=>hrg x.symm
  have hso2:=Dd hn hi hs hq hso
  have Hso2:=Lib.hid hso2
  have hjj:j=((i+1)%n+q.length)%n:=by rw[Nat.mod_add_mod,←hj];congr 1;simp only[List.length_cons];omega
  have Hjj:=Lib.hid hjj
  have hq2:q.length≤n:=by simp only[List.length_cons]at hq;omega
  clear hso hso2 hjj hj hq
  go_enter Tryz.func38,Tryz.ntmps38
  go_wp2_with fail
  go_quiet (fail)
  have hr1:=hr.drewN nq
  have hg1':=hg.drewN nq
  have hf1:Fr (fun b=>b=r∨b=g) w (w.drewN nq):=(Fr.refl _ _).drewN nq
  obtain⟨w1,hw1⟩:∃w1,w.drewN nq=w1:=⟨_,rfl⟩
  rw[hw1]at hr1 hg1' hf1⊢
  clear hw1 hrc hg0 hg1
  have hg0:w1.cell? ⟨g,i*2,none⟩=some (.bool true):=(hg1'.cell _).trans c0
  have hg1:w1.cell? ⟨g,i*2+1,none⟩=some (.string (bs f)):=(hg1'.cell _).trans c1
  have hgf:=hg1'.frees
  go_upto_region 6 with fail
  have hg5:=(hg1'.set (i*2) (.bool false)).set (i*2+1) (.string ⟨#[]⟩)
  have hr5:=(hr1.far (p:=⟨g,i*2,none⟩) hrg (.bool false)).far (p:=⟨g,i*2+1,none⟩) hrg (.string ⟨#[]⟩)
  have hf5:Fr (fun b=>b=r∨b=g) w ((w1.setCell ⟨g,i*2,none⟩ (.bool false)).setCell ⟨g,i*2+1,none⟩ (.string ⟨#[]⟩)):=(hf1.setCell (p:=⟨g,i*2,none⟩) (fun _=> .inr rfl) _).setCell (p:=⟨g,i*2+1,none⟩) (fun _=> .inr rfl) _
  generalize(w1.setCell ⟨g,i*2,none⟩ (.bool false)).setCell ⟨g,i*2+1,none⟩ (.string ⟨#[]⟩)=w5 at*
  clear hg0 hg1 hgf hr1 hg1' hf1
  have q1:IntKind.i64.wrap ((i:Int)+1)=(i:Int)+1:=IntWalk.i64_in _ (by omega)
  have q3:¬n=0:=by omega
  refine wpr (fun w'=>Bk w' r 147 (lJ g n j i)∧Bk w' g 151 ((cs.setIfInBounds (i*2) (.bool false)).setIfInBounds (i*2+1) (.string ⟨#[]⟩))∧Fr (fun b=>b=r∨b=g) w w') [14] (.p 0 (.p 1 (.p 2 (.p 3 (.p 6 (.p 7 (.p 8 (.q 4 (.p 5 (.q 9 (.p 10 (.p 11 (.p 12 (.p 13 (.e 14 (.nil)))))))))))))))) (⟨hr5,hg5,hf5.drew⟩) ?_
  intro ops Q' hO hQ' wr1 hR1
  iterate 7 refine pP hO ?_
  refine pQ hO rfl rfl (fun w' hS=>by have hSc:=hS.1.cells;unfold lJ at hSc;exact qd) ?_
  refine pP hO ?_
  refine pQ hO rfl rfl (fun w' hS=>by have hSc:=hS.1.cells;unfold lJ at hSc;exact qd) ?_
  iterate 4 refine pP hO ?_
  refine iL hO rfl rfl rfl (fun K hK=> ?_)
  have hcz:=hR1.1.cells
  have hfz:=hR1.1.frees
  unfold lJ at hcz
  go_simp
  refine hK _ _ ?_
  clear hK K
  refine bL (hQ' _ _ ?_)
  obtain⟨hr6,hg6,hf6⟩:=hR1
  have hr7:=hr6.set 2 (.int .i64 (((i:Int)+1).tmod (n:Int)))
  have hg7:=hg6.far (p:=⟨r,2,none⟩) (fun x=>hrg x.symm) (.int .i64 (((i:Int)+1).tmod (n:Int)))
  have hf7:=hf6.setCell (p:=⟨r,2,none⟩) (fun _=> .inl rfl) (.int .i64 (((i:Int)+1).tmod (n:Int)))
  have hjm:((i:Int)+1).tmod (n:Int)=(((i+1)%n:Nat):Int):=rfl
  have Hjm:=Lib.hid hjm
  clear hjm
  go_wp2_with fail
  go_ret2
  refine⟨rfl,⟨(i+1)%n,_,?_,hg7,by simp[hs],Nat.mod_lt _ hn,hq2,hrg,Hso2.out⟩,hf7⟩
  rw[List.tail_cons,←Hjj.out,show lJ g n j ((i+1)%n)=(lJ g n j i).setIfInBounds 2 (.int .i64 ((((i+1)%n:Nat)):Int))from rfl,←Hjm.out]
  exact hr7
end Go.Proofs.YtcbkaiakdhiloacGreatDoor
namespace Go.Proofs.YtcbkaiakdhiloacGreatDoor
open Go.RowKit Go.Proofs
def vQ (r:Int):Int:=if 65≤r∧r≤90 then r+32 else r
def tU (l:List UInt8):List UInt8:=Lib.mapD vQ l
def asc (l:List UInt8):Prop:=∀b∈l,b.toNat<128
theorem Jm {r:Int} (h:128≤r):vQ r=r:=by unfold vQ;rw[if_neg (by omega)]
theorem B5 (c:UInt8) (h:c.toNat<128):Lib.encodeRune (vQ (c.toNat:Int))=[Gs c]:=by
 have e:vQ (c.toNat:Int)=((Gs c).toNat:Int):=by
  unfold vQ Gs
  by_cases h1:65≤c.toNat∧c.toNat≤90
  ·rw[if_pos (by omega),if_pos h1,UInt8.toNat_add,show(32:UInt8).toNat=32 from rfl];omega
  ·rw[if_neg (by omega),if_neg h1]
 have hb:(Gs c).toNat≤127:=by
  unfold Gs
  split
  ·rw[UInt8.toNat_add,show(32:UInt8).toNat=32 from rfl];omega
  ·omega
 rw[e]
 unfold Lib.encodeRune
 rw[Lib.encodeRuneZ_one (by omega) (by omega)]
 simp
theorem nB:∀(l:List UInt8),asc l→tU l=CP l
 |[],_=>rfl
 |c::r,h=>by
  have hc:c.toNat<128:=h c (by simp)
  unfold tU
  rw[Lib.mapD_step vQ (c::r) (by simp),Lib.decodeL_ascii c r hc]
  simp only
  rw[if_pos (by unfold vQ;split<;>omega),B5 c hc]
  have ih:=nB r (fun b hb=>h b (by simp[hb]))
  unfold tU at ih
  rw[show(c::r).drop 1=r from rfl,ih]
  rfl
theorem EQ (r:Int) (h:128≤r):∃b t,Lib.encodeRune r=b::t∧128≤b.toNat:=by
 unfold Lib.encodeRune Lib.encodeRuneZ
 rw[if_neg (by omega)]
 split
 ·exact⟨_,_,rfl,by simp;omega⟩
 ·split
  ·exact⟨_,_,rfl,by simp;omega⟩
  ·split
   ·exact⟨_,_,rfl,by simp;omega⟩
   ·exact⟨_,_,rfl,by decide⟩
theorem qL:∀(n:Nat) (l:List UInt8),l.length≤n→asc (tU l)→asc l
 |_,[],_,_=>fun b hb=>by cases hb
 |0,c::r,h,_=>by simp at h
 |n+1,c::r,h,ha=>by
  by_cases hc:c.toNat<128
  ·have e:tU (c::r)=[Gs c]++tU r:=by
    unfold tU
    rw[Lib.mapD_step vQ (c::r) (by simp),Lib.decodeL_ascii c r hc]
    simp only
    rw[if_pos (by unfold vQ;split<;>omega),B5 c hc]
    rfl
   rw[e]at ha
   intro b hb
   rcases List.mem_cons.1 hb with rfl|hb
   ·exact hc
   ·exact qL n r (by simp at h;omega) (fun b hb=>ha b (by simp[hb])) b hb
  ·exfalso
   have hd:128≤(Lib.decodeL (c::r)).1:=by
    rw[Lib.decodeL_N]
    have hc0:((c::r).getD 0 0)=c:=rfl
    rw[hc0]
    rcases Lib.decodeN_shape (c::r).length c.toNat ((c::r).getD 1 0).toNat ((c::r).getD 2 0).toNat ((c::r).getD 3 0).toNat with⟨h1,_⟩|⟨_,_,_,h4,e⟩|⟨_,_,_,_,h5,_,e⟩|⟨_,_,_,_,_,h6,_,e⟩|e
    ·exact absurd h1 hc
    all_goals(rw[e];simp only;omega)
   obtain⟨b,t,e1,e2⟩:=EQ ((Lib.decodeL (c::r)).1:Int) (by omega)
   have e:tU (c::r)=(b::t)++Lib.mapD vQ ((c::r).drop (Lib.decodeL (c::r)).2):=by
    unfold tU
    rw[Lib.mapD_step vQ (c::r) (by simp),Jm (by omega),if_pos (by omega),e1]
   rw[e]at ha
   have:=ha b (by simp)
   omega
theorem BX (l t:List UInt8) (ht:asc t):tU l=t↔CP l=t:=by
 constructor
 ·intro h
  have ha:asc l:=qL l.length l (Nat.le_refl _) (by rw[h];exact ht)
  rw[←nB l ha];exact h
 ·intro h
  have ha:asc l:=by
   intro b hb
   have h1:Gs b∈t:=by rw[←h];exact List.mem_map.2 ⟨b,hb,rfl⟩
   have h2:=ht _ h1
   unfold Gs at h2
   split at h2
   ·omega
   ·exact h2
  rw[nB l ha];exact h
end Go.Proofs.YtcbkaiakdhiloacGreatDoor
namespace Go.Proofs.YtcbkaiakdhiloacGreatDoor
open Go.RowKit Go.Proofs
attribute [local go_sem] aG aD aC
def lY (w:World):Prop:=Lib.Utf8Tabs 7 8 w
theorem cJ {w:World} {a:Addr} {v:Value} (h:w.cell? a=some v):a.block<w.heap.size:=by
 rcases Nat.lt_or_ge a.block w.heap.size with h1|h1
 ·exact h1
 ·unfold World.cell? at h;rw[Array.getElem?_eq_none h1]at h;cases h
theorem lY.keep {w w':World} {S:Nat→Prop} (h:lY w) (hf:Fr S w w') (h1:¬S 7) (h2:¬S 8):lY w':=by
 refine⟨fun c hc=> ?_,fun i hi=>⟨?_,?_⟩⟩
 ·have:=h.1 c hc;exact(hf.cell (cJ this) h1).trans this
 ·have:=(h.2 i hi).1;exact(hf.cell (cJ this) h2).trans this
 ·have:=(h.2 i hi).2;exact(hf.cell (cJ this) h2).trans this
theorem lY.none {w w':World} (h:lY w) (hf:Fr noB w w'):lY w':=h.keep hf (fun x=>x) (fun x=>x)
theorem lY.lt {w:World} (h:lY w):7<w.heap.size∧8<w.heap.size:=⟨cJ (h.1 0 (by omega)),cJ (h.2 0 (by omega)).1⟩
theorem J5 (W:World) (x:Nat) (hx:x≤1114111):FnGives Tryz.prog 205 #[] #[encR x] (.int .i32 (vQ x)) W:=by
 unfold FnGives
 have e:(#[encR x]++ #[]:Array Value)= #[.int .i32 (x:Int)]:=rfl
 rw[e]
 obtain⟨r,hr⟩:∃r,vQ (x:Int)=r:=⟨_,rfl⟩
 rw[hr]
 have Hr:=Lib.hid hr
 clear hr e
 go_enter Tryz.func205,Tryz.ntmps205
 by_cases h1:65≤x
 ·by_cases h2:x≤90
  ·have h1i:(65:Int)≤(x:Int):=by omega
   have h2i:(x:Int)≤90:=by omega
   have e1:IntKind.i32.wrap ((x:Int)+97)=(x:Int)+97:=IntWalk.i32_in ((x:Int)+97) ⟨by omega,by omega⟩
   have e2:IntKind.i32.wrap ((x:Int)+97-65)=(x:Int)+32:=(IntWalk.i32_in ((x:Int)+97-65) ⟨by omega,by omega⟩).trans (by omega)
   go_wp2_with fail
   go_ret
   exact⟨by rw[←Hr.out];unfold vQ;rw[if_pos ⟨h1i,h2i⟩];rfl,0,rfl⟩
  ·have h1i:(65:Int)≤(x:Int):=by omega
   have h2i:¬(x:Int)≤90:=by omega
   go_wp2_with fail
   go_ret
   exact⟨by rw[←Hr.out];unfold vQ;rw[if_neg (by omega)];rfl,0,rfl⟩
 ·have h1i:¬(65:Int)≤(x:Int):=by omega
  go_wp2_with fail
  go_ret
  exact⟨by rw[←Hr.out];unfold vQ;rw[if_neg (by omega)];rfl,0,rfl⟩
theorem mO (l:List UInt8) (w:World) (hl:l.length≤1099511627776) (hT:lY w):
 Calls Tryz.prog 168 #[.string (bs l)] w fun e w'=>e= .returned (.string (bs (tU l)))∧Fr noB w w':=by
 have hm:=Tryz.strings_Map_runes 205 #[] (enters_of Tryz.func205 (by kernel_rfl) rfl) vQ (bs l) w (by rw[aG];omega) (fun W x hx _=>J5 W x hx)
  (fun x hx=>by unfold vQ;split<;>omega) hT
 rw[oO]at hm
 go_enter Tryz.func168,Tryz.ntmps168
 go_wp2_with fail
 refine hm.mono ?_
 rintro e w1 ⟨rfl,hb⟩
 have hf:=Fr.ofBelowAll hb
 go_wp2_with fail
 go_ret
 exact⟨rfl,hf⟩
end Go.Proofs.YtcbkaiakdhiloacGreatDoor
namespace Go.Proofs.YtcbkaiakdhiloacGreatDoor
open Go.RowKit Go.Proofs
theorem iR (x:UInt32) (n a b:Nat) (ha:a=x.toNat*2^(32-n)%4294967296) (hb:b=x.toNat/2^n):bits .or .u32 (a:Int) (b:Int)=((iH x n).toNat:Int):=by
 have hx:=x.toNat_lt
 have hal:a<4294967296:=by rw[ha];exact Nat.mod_lt _ (by omega)
 have hbl:b<4294967296:=by rw[hb];exact Nat.lt_of_le_of_lt (Nat.div_le_self _ _) hx
 rw[u32_or_nat a b hal hbl,Nat.or_comm,Dt,ha,hb]
theorem ND (x:UInt32) (w:World):
 Calls Tryz.prog 233 #[.int .u32 (x.toNat:Int),.int .i64 (-2)] w fun e w'=>e= .returned (.int .u32 ((iH x 2).toNat:Int))∧w'=w:=by
 have hx:=x.toNat_lt
 have hx1:(x.toNat:Int)≤4294967295:=by omega
 have hb:bits .and .u64 (IntKind.u64.wrap (-2)) 31=30:=by decide
 have hv:=iR x 2 (x.toNat*1073741824%4294967296) (x.toNat/4) rfl rfl
 have hv2:Hid (bits .or .u32 ((x.toNat:Int)*1073741824%4294967296) ((x.toNat:Int)/4)=((iH x 2).toNat:Int)):=by
  unfold Hid;rw[←hv];congr 1
 clear hv
 go_enter Tryz.func233,Tryz.ntmps233
 go_wp2_with fail
 go_ret
 exact⟨congrArg (fun v=>Ending.returned (.int .u32 v)) hv2.out,rfl⟩
theorem Nh (x:UInt32) (w:World):
 Calls Tryz.prog 233 #[.int .u32 (x.toNat:Int),.int .i64 (-6)] w fun e w'=>e= .returned (.int .u32 ((iH x 6).toNat:Int))∧w'=w:=by
 have hx:=x.toNat_lt
 have hx1:(x.toNat:Int)≤4294967295:=by omega
 have hb:bits .and .u64 (IntKind.u64.wrap (-6)) 31=26:=by decide
 have hv:=iR x 6 (x.toNat*67108864%4294967296) (x.toNat/64) rfl rfl
 have hv2:Hid (bits .or .u32 ((x.toNat:Int)*67108864%4294967296) ((x.toNat:Int)/64)=((iH x 6).toNat:Int)):=by
  unfold Hid;rw[←hv];congr 1
 clear hv
 go_enter Tryz.func233,Tryz.ntmps233
 go_wp2_with fail
 go_ret
 exact⟨congrArg (fun v=>Ending.returned (.int .u32 v)) hv2.out,rfl⟩
theorem Nv (x:UInt32) (w:World):
 Calls Tryz.prog 233 #[.int .u32 (x.toNat:Int),.int .i64 (-7)] w fun e w'=>e= .returned (.int .u32 ((iH x 7).toNat:Int))∧w'=w:=by
 have hx:=x.toNat_lt
 have hx1:(x.toNat:Int)≤4294967295:=by omega
 have hb:bits .and .u64 (IntKind.u64.wrap (-7)) 31=25:=by decide
 have hv:=iR x 7 (x.toNat*33554432%4294967296) (x.toNat/128) rfl rfl
 have hv2:Hid (bits .or .u32 ((x.toNat:Int)*33554432%4294967296) ((x.toNat:Int)/128)=((iH x 7).toNat:Int)):=by
  unfold Hid;rw[←hv];congr 1
 clear hv
 go_enter Tryz.func233,Tryz.ntmps233
 go_wp2_with fail
 go_ret
 exact⟨congrArg (fun v=>Ending.returned (.int .u32 v)) hv2.out,rfl⟩
theorem LE (x:UInt32) (w:World):
 Calls Tryz.prog 233 #[.int .u32 (x.toNat:Int),.int .i64 (-11)] w fun e w'=>e= .returned (.int .u32 ((iH x 11).toNat:Int))∧w'=w:=by
 have hx:=x.toNat_lt
 have hx1:(x.toNat:Int)≤4294967295:=by omega
 have hb:bits .and .u64 (IntKind.u64.wrap (-11)) 31=21:=by decide
 have hv:=iR x 11 (x.toNat*2097152%4294967296) (x.toNat/2048) rfl rfl
 have hv2:Hid (bits .or .u32 ((x.toNat:Int)*2097152%4294967296) ((x.toNat:Int)/2048)=((iH x 11).toNat:Int)):=by
  unfold Hid;rw[←hv];congr 1
 clear hv
 go_enter Tryz.func233,Tryz.ntmps233
 go_wp2_with fail
 go_ret
 exact⟨congrArg (fun v=>Ending.returned (.int .u32 v)) hv2.out,rfl⟩
theorem LC (x:UInt32) (w:World):
 Calls Tryz.prog 233 #[.int .u32 (x.toNat:Int),.int .i64 (-13)] w fun e w'=>e= .returned (.int .u32 ((iH x 13).toNat:Int))∧w'=w:=by
 have hx:=x.toNat_lt
 have hx1:(x.toNat:Int)≤4294967295:=by omega
 have hb:bits .and .u64 (IntKind.u64.wrap (-13)) 31=19:=by decide
 have hv:=iR x 13 (x.toNat*524288%4294967296) (x.toNat/8192) rfl rfl
 have hv2:Hid (bits .or .u32 ((x.toNat:Int)*524288%4294967296) ((x.toNat:Int)/8192)=((iH x 13).toNat:Int)):=by
  unfold Hid;rw[←hv];congr 1
 clear hv
 go_enter Tryz.func233,Tryz.ntmps233
 go_wp2_with fail
 go_ret
 exact⟨congrArg (fun v=>Ending.returned (.int .u32 v)) hv2.out,rfl⟩
theorem Md (x:UInt32) (w:World):
 Calls Tryz.prog 233 #[.int .u32 (x.toNat:Int),.int .i64 (-17)] w fun e w'=>e= .returned (.int .u32 ((iH x 17).toNat:Int))∧w'=w:=by
 have hx:=x.toNat_lt
 have hx1:(x.toNat:Int)≤4294967295:=by omega
 have hb:bits .and .u64 (IntKind.u64.wrap (-17)) 31=15:=by decide
 have hv:=iR x 17 (x.toNat*32768%4294967296) (x.toNat/131072) rfl rfl
 have hv2:Hid (bits .or .u32 ((x.toNat:Int)*32768%4294967296) ((x.toNat:Int)/131072)=((iH x 17).toNat:Int)):=by
  unfold Hid;rw[←hv];congr 1
 clear hv
 go_enter Tryz.func233,Tryz.ntmps233
 go_wp2_with fail
 go_ret
 exact⟨congrArg (fun v=>Ending.returned (.int .u32 v)) hv2.out,rfl⟩
theorem Ml (x:UInt32) (w:World):
 Calls Tryz.prog 233 #[.int .u32 (x.toNat:Int),.int .i64 (-18)] w fun e w'=>e= .returned (.int .u32 ((iH x 18).toNat:Int))∧w'=w:=by
 have hx:=x.toNat_lt
 have hx1:(x.toNat:Int)≤4294967295:=by omega
 have hb:bits .and .u64 (IntKind.u64.wrap (-18)) 31=14:=by decide
 have hv:=iR x 18 (x.toNat*16384%4294967296) (x.toNat/262144) rfl rfl
 have hv2:Hid (bits .or .u32 ((x.toNat:Int)*16384%4294967296) ((x.toNat:Int)/262144)=((iH x 18).toNat:Int)):=by
  unfold Hid;rw[←hv];congr 1
 clear hv
 go_enter Tryz.func233,Tryz.ntmps233
 go_wp2_with fail
 go_ret
 exact⟨congrArg (fun v=>Ending.returned (.int .u32 v)) hv2.out,rfl⟩
theorem L6 (x:UInt32) (w:World):
 Calls Tryz.prog 233 #[.int .u32 (x.toNat:Int),.int .i64 (-19)] w fun e w'=>e= .returned (.int .u32 ((iH x 19).toNat:Int))∧w'=w:=by
 have hx:=x.toNat_lt
 have hx1:(x.toNat:Int)≤4294967295:=by omega
 have hb:bits .and .u64 (IntKind.u64.wrap (-19)) 31=13:=by decide
 have hv:=iR x 19 (x.toNat*8192%4294967296) (x.toNat/524288) rfl rfl
 have hv2:Hid (bits .or .u32 ((x.toNat:Int)*8192%4294967296) ((x.toNat:Int)/524288)=((iH x 19).toNat:Int)):=by
  unfold Hid;rw[←hv];congr 1
 clear hv
 go_enter Tryz.func233,Tryz.ntmps233
 go_wp2_with fail
 go_ret
 exact⟨congrArg (fun v=>Ending.returned (.int .u32 v)) hv2.out,rfl⟩
theorem L3 (x:UInt32) (w:World):
 Calls Tryz.prog 233 #[.int .u32 (x.toNat:Int),.int .i64 (-22)] w fun e w'=>e= .returned (.int .u32 ((iH x 22).toNat:Int))∧w'=w:=by
 have hx:=x.toNat_lt
 have hx1:(x.toNat:Int)≤4294967295:=by omega
 have hb:bits .and .u64 (IntKind.u64.wrap (-22)) 31=10:=by decide
 have hv:=iR x 22 (x.toNat*1024%4294967296) (x.toNat/4194304) rfl rfl
 have hv2:Hid (bits .or .u32 ((x.toNat:Int)*1024%4294967296) ((x.toNat:Int)/4194304)=((iH x 22).toNat:Int)):=by
  unfold Hid;rw[←hv];congr 1
 clear hv
 go_enter Tryz.func233,Tryz.ntmps233
 go_wp2_with fail
 go_ret
 exact⟨congrArg (fun v=>Ending.returned (.int .u32 v)) hv2.out,rfl⟩
theorem Ms (x:UInt32) (w:World):
 Calls Tryz.prog 233 #[.int .u32 (x.toNat:Int),.int .i64 (-25)] w fun e w'=>e= .returned (.int .u32 ((iH x 25).toNat:Int))∧w'=w:=by
 have hx:=x.toNat_lt
 have hx1:(x.toNat:Int)≤4294967295:=by omega
 have hb:bits .and .u64 (IntKind.u64.wrap (-25)) 31=7:=by decide
 have hv:=iR x 25 (x.toNat*128%4294967296) (x.toNat/33554432) rfl rfl
 have hv2:Hid (bits .or .u32 ((x.toNat:Int)*128%4294967296) ((x.toNat:Int)/33554432)=((iH x 25).toNat:Int)):=by
  unfold Hid;rw[←hv];congr 1
 clear hv
 go_enter Tryz.func233,Tryz.ntmps233
 go_wp2_with fail
 go_ret
 exact⟨congrArg (fun v=>Ending.returned (.int .u32 v)) hv2.out,rfl⟩
theorem LQ (w:World) (x:UInt32) (m:Int) (hm:m= -2∨m= -6∨m= -7∨m= -11∨m= -13∨m= -17∨m= -18∨m= -19∨m= -22∨m= -25):
 Calls Tryz.prog 233 #[.int .u32 (x.toNat:Int),.int .i64 m] w fun e w'=>e= .returned (.int .u32 ((iH x (-m).toNat).toNat:Int))∧w'=w:=by
 rcases hm with rfl|rfl|rfl|rfl|rfl|rfl|rfl|rfl|rfl|rfl
 ·exact ND x _
 ·exact Nh x _
 ·exact Nv x _
 ·exact LE x _
 ·exact LC x _
 ·exact Md x _
 ·exact Ml x _
 ·exact L6 x _
 ·exact L3 x _
 ·exact Ms x _
theorem MT (w:World) (n:Nat) (x:UInt32) (m:Int) (hm:m= -2∨m= -6∨m= -7∨m= -11∨m= -13∨m= -17∨m= -18∨m= -19∨m= -22∨m= -25):
 Calls Tryz.prog 233 #[.int .u32 (x.toNat:Int),.int .i64 m] (w.drewN n) fun e w''=>e= .returned (.int .u32 ((iH x (-m).toNat).toNat:Int))∧∃k,w''=w.drewN k:=Calls.quiet_of_same (LQ _ x m hm)
theorem DE (a b:UInt32):bits .xor .u32 (a.toNat:Int) (b.toNat:Int)=((a^^^b).toNat:Int):=by
 rw[u32_xor_nat _ _ a.toNat_lt b.toNat_lt,UInt32.toNat_xor]
theorem Km (a b:UInt32):bits .and .u32 (a.toNat:Int) (b.toNat:Int)=((a&&&b).toNat:Int):=by
 rw[u32_and_nat _ _ a.toNat_lt b.toNat_lt,UInt32.toNat_and]
theorem MZ (x:UInt32):bits .xor .u32 (bits .xor .u32 ((iH x 7).toNat:Int) ((iH x 18).toNat:Int)) ((x.toNat:Int)/8)=((sg0 x).toNat:Int):=by
 rw[Lz,DE,DE];rfl
theorem Nc (x:UInt32):bits .xor .u32 (bits .xor .u32 ((iH x 17).toNat:Int) ((iH x 19).toNat:Int)) ((x.toNat:Int)/1024)=((sg1 x).toNat:Int):=by
 rw[K7,DE,DE];rfl
theorem Np (x:UInt32):bits .xor .u32 (bits .xor .u32 ((iH x 6).toNat:Int) ((iH x 11).toNat:Int)) ((iH x 25).toNat:Int)=((bg1 x).toNat:Int):=by
 rw[DE,DE];rfl
theorem M3 (x:UInt32):bits .xor .u32 (bits .xor .u32 ((iH x 2).toNat:Int) ((iH x 13).toNat:Int)) ((iH x 22).toNat:Int)=((bg0 x).toNat:Int):=by
 rw[DE,DE];rfl
theorem NF (a b c:UInt32):bits .xor .u32 (bits .xor .u32 (bits .and .u32 (a.toNat:Int) (b.toNat:Int)) (bits .and .u32 (a.toNat:Int) (c.toNat:Int))) (bits .and .u32 (b.toNat:Int) (c.toNat:Int))=((maj a b c).toNat:Int):=by
 rw[Km,Km,Km,DE,DE];rfl
theorem wdW (a b c d:UInt8):bits .or .u32 (bits .or .u32 (bits .or .u32 ((a.toNat:Int)*16777216) ((b.toNat:Int)*65536)) ((c.toNat:Int)*256)) (d.toNat:Int)=((wd a b c d).toNat:Int):=by
 have ha:=a.toNat_lt;have hb:=b.toNat_lt;have hc:=c.toNat_lt;have hd:=d.toNat_lt
 have e1:∀x y n:Nat,y<2^n→(x*2^n)|||y=x*2^n+y:=by
  intro x y n h;rw[Nat.mul_comm];exact(Nat.two_pow_add_eq_or_of_lt h x).symm
 rw[show(a.toNat:Int)*16777216=((a.toNat*16777216:Nat):Int) by omega,show(b.toNat:Int)*65536=((b.toNat*65536:Nat):Int) by omega,show(c.toNat:Int)*256=((c.toNat*256:Nat):Int) by omega,
  u32_or_nat _ _ (by omega) (by omega)]
 have h1:a.toNat*16777216|||b.toNat*65536=a.toNat*16777216+b.toNat*65536:=by
  rw[show(16777216:Nat)=2^24 from rfl];exact e1 _ _ 24 (by omega)
 rw[h1,u32_or_nat _ _ (by omega) (by omega)]
 have h2:(a.toNat*16777216+b.toNat*65536)|||c.toNat*256=a.toNat*16777216+b.toNat*65536+c.toNat*256:=by
  rw[show a.toNat*16777216+b.toNat*65536=(a.toNat*256+b.toNat)*2^16 by omega];exact e1 _ _ 16 (by omega)
 rw[h2,u32_or_nat _ _ (by omega) (by omega)]
 have h3:(a.toNat*16777216+b.toNat*65536+c.toNat*256)|||d.toNat=a.toNat*16777216+b.toNat*65536+c.toNat*256+d.toNat:=by
  rw[show a.toNat*16777216+b.toNat*65536+c.toNat*256=(a.toNat*65536+b.toNat*256+c.toNat)*2^8 by omega];exact e1 _ _ 8 (by omega)
 rw[h3,GT]
end Go.Proofs.YtcbkaiakdhiloacGreatDoor
namespace Go.Proofs.YtcbkaiakdhiloacGreatDoor
open Go.RowKit Go.Proofs
def fS (u:Nat→Value):Act:=⟨#[u 0,u 1,u 2,u 3,u 4,u 5,u 6,u 7,u 8,u 9,u 10,u 11,u 12,u 13,u 14,u 15,u 16,u 17,u 18,u 19,u 20,u 21,u 22,u 23,u 24,u 25,u 26,u 27,u 28,u 29,u 30,u 31,u 32,u 33,u 34,u 35,u 36,u 37,u 38,u 39,u 40,u 41,u 42,u 43,u 44,u 45,u 46,u 47,u 48,u 49,u 50,u 51,u 52,u 53,u 54,u 55,u 56,u 57,u 58,u 59,u 60,u 61,u 62,u 63,u 64,u 65,u 66,u 67,u 68,u 69,u 70,u 71,u 72,u 73,u 74,u 75,u 76,u 77,u 78,u 79,u 80,u 81,u 82,u 83,u 84,u 85,u 86,u 87,u 88,u 89,u 90,u 91,u 92,u 93,u 94,u 95,u 96,u 97,u 98,u 99,u 100,u 101,u 102,u 103,u 104,u 105,u 106,u 107,u 108,u 109,u 110,u 111,u 112,u 113,u 114,u 115,u 116,u 117,u 118,u 119,u 120,u 121,u 122,u 123,u 124,u 125,u 126,u 127,u 128,u 129,u 130,u 131,u 132,u 133,u 134,u 135,u 136,u 137,u 138,u 139,u 140,u 141,u 142,u 143,u 144,u 145,u 146,u 147,u 148,u 149,u 150,u 151,u 152,u 153,u 154,u 155,u 156,u 157,u 158,u 159,u 160,u 161,u 162,u 163,u 164,u 165,u 166,u 167,u 168,u 169,u 170,u 171,u 172,u 173,u 174,u 175,u 176,u 177,u 178,u 179,u 180,u 181,u 182,u 183,u 184,u 185,u 186,u 187,u 188,u 189,u 190,u 191,u 192,u 193,u 194],[]⟩
set_option maxRecDepth 100000 in
theorem F0 (u:Nat→Value):fS u=frN 195 u:=rfl
theorem bF {a:Act} (h:Sz 195 a):a=fS (sl a):=h.eq.trans (F0 _).symm
theorem AJ {P:Program} {w:World} {o:Oper} {a:Act} {K:Act→World→Prop} {Q:Exit→Act→World→Prop} (s x:Operand) (t u:TypeId)
 (ho:o.op= .call {callee:= .builtin .copy,args:= #[s,x],argTypes:= #[t,u]}) {v y v':Value} {w':World}
 (hrun:(Builtin.copy_ #[t,u] o.type #[v,y]).run P w= .ok v' w') (hs:a.eval s=v) (hx:a.eval x=y) (h:K (a.put o.dst v') w'):o.wp P a w K Q:=by
 unfold Oper.wp execOp
 simp only[ho,resolve,invoke,builtin,Sem.run_bind,Sem.run_pure,Result.andThen_ok,List.map_toArray,List.map_cons,List.map_nil,hs,hx,hrun]
 exact h
theorem qP {P:Program} {w:World} {ops:Array Oper} {rest:List Oper} {o:Oper} {a:Act} {Q:Exit→Act→World→Prop} (hgd:o.guard=none) (s x:Operand) (t u:TypeId)
 (ho:o.op= .call {callee:= .builtin .copy,args:= #[s,x],argTypes:= #[t,u]}) {v y v':Value} {w':World}
 (hrun:(Builtin.copy_ #[t,u] o.type #[v,y]).run P w= .ok v' w') (hs:a.eval s=v) (hx:a.eval x=y) (h:wpList P ops Q rest (a.put o.dst v') w'):wpList P ops Q (o::rest) a w:=
 wpList_plain hgd fun K hK=>AJ s x t u ho hrun hs hx (hK _ _ h)
def kD (l:List UInt32):List Value:=l.map fun x=>Value.int .u32 (x.toNat:Int)
theorem sF (l:List UInt32):(kD l).length=l.length:=by simp[kD]
theorem vK (l:List UInt32) (k:Nat) (x:UInt32) (h:l[k]? =some x):(kD l)[k]? =some (.int .u32 (x.toNat:Int)):=by simp[kD,h]
theorem HA (l:List UInt32) (k:Nat) (x:UInt32):((kD l).toArray).setIfInBounds k (.int .u32 (x.toNat:Int))=(kD (l.set k x)).toArray:=by simp[kD,List.map_set]
def UB (w:World) (g:Nat) (t:TypeId) (l:List UInt32):Prop:=Bk w g t (kD l).toArray
theorem UB.get {w:World} {g:Nat} {t:TypeId} {l:List UInt32} (h:UB w g t l) (k:Nat) (x:UInt32) (hx:l[k]? =some x):w.cell? ⟨g,k,none⟩=some (.int .u32 (x.toNat:Int)):=by
 have h1:=Bk.cell h k
 rw[h1];simpa using vK l k x hx
theorem UB.set {w:World} {g:Nat} {t:TypeId} {l:List UInt32} (h:UB w g t l) (k:Nat) (x:UInt32):UB (w.setCell ⟨g,k,none⟩ (.int .u32 (x.toNat:Int))) g t (l.set k x):=by
 have h1:=Bk.set h k (.int .u32 (x.toNat:Int))
 rw[HA]at h1;exact h1
def RU (w:World) (g:Nat) (l:List UInt32):Prop:=g<w.heap.size∧∀(k:Nat) (x:UInt32),l[k]? =some x→w.cell? ⟨g,k,none⟩=some (.int .u32 (x.toNat:Int))
theorem UB.ru {w:World} {g:Nat} {t:TypeId} {l:List UInt32} (h:UB w g t l):RU w g l:=⟨Bk.lt h,fun k x hx=>h.get k x hx⟩
theorem RU.keep {S:Nat→Prop} {w w':World} {g:Nat} {l:List UInt32} (h:RU w g l) (hf:Fr S w w') (hg:¬S g):RU w' g l:=
 ⟨Nat.lt_of_lt_of_le h.1 hf.size,fun k x hx=>(hf.cell (a:=⟨g,k,none⟩) h.1 hg).trans (h.2 k x hx)⟩
theorem MN (a:Act) (w:World) (K:KT) (hs:Sz 195 a)
 (hK:∀a' w',Sz 195 a'→Kp [0,1,4,5,6,7,8,9,10,11,12,13,14,15,16,17,104,178] a a'→sl a' 18= .int .i64 ((0:Nat):Int)→Fr noB w w'→K .normal a' w'):
 (aH Tryz.f187 1).wp Tryz.prog K a w:=by
 refine rgE hK (bF hs) fun HK=> ?_;clear hK hs
 simp only[fS]
 go_wp2_with fail
 exact HK.out _ _ ⟨rfl,rfl⟩ kZ (rfl) (Fr.refl _ _)
theorem LF (i:Nat) (a:Act) (w:World) (K:KT) (hs:Sz 195 a)
 (h18:sl a 18= .int .i64 (i:Int)) (hi:i≤16)
 (hK:∀a' w',Sz 195 a'→Kp [0,1,4,5,6,7,8,9,10,11,12,13,14,15,16,17,18,104,178] a a'→sl a' 19= .bool (decide (i<16))→Fr noB w w'→K .normal a' w'):
 (aH Tryz.f187 2).wp Tryz.prog K a w:=by
 refine rgE hK (bF hs) fun HK=> ?_;clear hK hs
 simp only[fS,h18]
 go_wp2_with fail
 exact HK.out _ _ ⟨rfl,rfl⟩ kZ (congrArg Value.bool (decide_eq_decide.2 (by omega))) (Fr.refl _ _)
theorem MH (i:Nat) (a:Act) (w:World) (K:KT) (hs:Sz 195 a)
 (h18:sl a 18= .int .i64 (i:Int))
 (hK:∀a' w',Sz 195 a'→Kp [0,1,4,6,7,8,9,10,11,12,13,14,15,16,17,18,104,178] a a'→sl a' 5= .int .i64 (i:Int)→Fr noB w w'→K .normal a' w'):
 (aH Tryz.f187 3).wp Tryz.prog K a w:=by
 refine rgE hK (bF hs) fun HK=> ?_;clear hK hs
 simp only[fS,h18]
 go_wp2_with fail
 exact HK.out _ _ ⟨rfl,rfl⟩ kZ (rfl) (Fr.refl _ _)
theorem LM (i:Nat) (a:Act) (w:World) (K:KT) (hs:Sz 195 a)
 (h18:sl a 18= .int .i64 (i:Int)) (hi:i≤16)
 (hK:∀a' w',Sz 195 a'→Kp [0,1,4,5,6,7,8,9,10,11,12,13,14,15,16,17,104,178] a a'→sl a' 18= .int .i64 ((i+1:Nat):Int)→Fr noB w w'→K .normal a' w'):
 (aH Tryz.f187 5).wp Tryz.prog K a w:=by
 refine rgE hK (bF hs) fun HK=> ?_;clear hK hs
 simp only[fS,h18]
 clear h18
 go_wp2_with fail
 exact HK.out _ _ ⟨rfl,rfl⟩ kZ (by simp only[sl];rfl) (Fr.refl _ _)
theorem My (a:Act) (w:World) (K:KT) (hs:Sz 195 a)
 (hK:∀a' w',Sz 195 a'→Kp [0,1,4,5,7,8,9,10,11,12,13,14,15,16,17,18,104,178] a a'→sl a' 6= .int .i64 ((16:Nat):Int)→Fr noB w w'→K .normal a' w'):
 (aH Tryz.f187 6).wp Tryz.prog K a w:=by
 refine rgE hK (bF hs) fun HK=> ?_;clear hK hs
 simp only[fS]
 go_wp2_with fail
 exact HK.out _ _ ⟨rfl,rfl⟩ kZ (rfl) (Fr.refl _ _)
theorem MM (i:Nat) (a:Act) (w:World) (K:KT) (hs:Sz 195 a)
 (h6:sl a 6= .int .i64 (i:Int)) (hi:i≤64)
 (hK:∀a' w',Sz 195 a'→Kp [0,1,4,5,6,7,8,9,10,11,12,13,14,15,16,17,18,104,178] a a'→sl a' 58= .bool (decide (i<64))→Fr noB w w'→K .normal a' w'):
 (aH Tryz.f187 7).wp Tryz.prog K a w:=by
 refine rgE hK (bF hs) fun HK=> ?_;clear hK hs
 simp only[fS,h6]
 go_wp2_with fail
 exact HK.out _ _ ⟨rfl,rfl⟩ kZ (congrArg Value.bool (decide_eq_decide.2 (by omega))) (Fr.refl _ _)
theorem Mt (i:Nat) (a:Act) (w:World) (K:KT) (hs:Sz 195 a)
 (h6:sl a 6= .int .i64 (i:Int)) (hi:i≤64)
 (hK:∀a' w',Sz 195 a'→Kp [0,1,4,5,7,8,9,10,11,12,13,14,15,16,17,18,104,178] a a'→sl a' 6= .int .i64 ((i+1:Nat):Int)→Fr noB w w'→K .normal a' w'):
 (aH Tryz.f187 8).wp Tryz.prog K a w:=by
 refine rgE hK (bF hs) fun HK=> ?_;clear hK hs
 simp only[fS,h6]
 clear h6
 go_wp2_with fail
 exact HK.out _ _ ⟨rfl,rfl⟩ kZ (by simp only[sl];rfl) (Fr.refl _ _)
theorem JP (a:Act) (w:World) (K:KT) (hs:Sz 195 a)
 (hK:∀a' w',Sz 195 a'→Kp [0,1,4,5,6,7,8,9,10,11,12,13,14,15,16,17,18,178] a a'→sl a' 104= .int .i64 ((0:Nat):Int)→Fr noB w w'→K .normal a' w'):
 (aH Tryz.f187 14).wp Tryz.prog K a w:=by
 refine rgE hK (bF hs) fun HK=> ?_;clear hK hs
 simp only[fS]
 go_wp2_with fail
 exact HK.out _ _ ⟨rfl,rfl⟩ kZ (rfl) (Fr.refl _ _)
theorem KU (i:Nat) (a:Act) (w:World) (K:KT) (hs:Sz 195 a)
 (h104:sl a 104= .int .i64 (i:Int)) (hi:i≤64)
 (hK:∀a' w',Sz 195 a'→Kp [0,1,4,5,6,7,8,9,10,11,12,13,14,15,16,17,18,104,178] a a'→sl a' 105= .bool (decide (i<64))→Fr noB w w'→K .normal a' w'):
 (aH Tryz.f187 15).wp Tryz.prog K a w:=by
 refine rgE hK (bF hs) fun HK=> ?_;clear hK hs
 simp only[fS,h104]
 go_wp2_with fail
 exact HK.out _ _ ⟨rfl,rfl⟩ kZ (congrArg Value.bool (decide_eq_decide.2 (by omega))) (Fr.refl _ _)
theorem J3 (i:Nat) (a:Act) (w:World) (K:KT) (hs:Sz 195 a)
 (h104:sl a 104= .int .i64 (i:Int))
 (hK:∀a' w',Sz 195 a'→Kp [0,1,4,5,6,7,8,9,10,11,13,14,15,16,17,18,104,178] a a'→sl a' 12= .int .i64 (i:Int)→Fr noB w w'→K .normal a' w'):
 (aH Tryz.f187 16).wp Tryz.prog K a w:=by
 refine rgE hK (bF hs) fun HK=> ?_;clear hK hs
 simp only[fS,h104]
 go_wp2_with fail
 exact HK.out _ _ ⟨rfl,rfl⟩ kZ (rfl) (Fr.refl _ _)
theorem JW (i:Nat) (a:Act) (w:World) (K:KT) (hs:Sz 195 a)
 (h104:sl a 104= .int .i64 (i:Int)) (hi:i≤64)
 (hK:∀a' w',Sz 195 a'→Kp [0,1,4,5,6,7,8,9,10,11,12,13,14,15,16,17,18,178] a a'→sl a' 104= .int .i64 ((i+1:Nat):Int)→Fr noB w w'→K .normal a' w'):
 (aH Tryz.f187 23).wp Tryz.prog K a w:=by
 refine rgE hK (bF hs) fun HK=> ?_;clear hK hs
 simp only[fS,h104]
 clear h104
 go_wp2_with fail
 exact HK.out _ _ ⟨rfl,rfl⟩ kZ (by simp only[sl];rfl) (Fr.refl _ _)
theorem JL (a:Act) (w:World) (K:KT) (hs:Sz 195 a)
 (hK:∀a' w',Sz 195 a'→Kp [0,1,4,5,6,7,8,9,10,11,12,13,14,15,16,17,18,104] a a'→sl a' 178= .int .i64 ((0:Nat):Int)→Fr noB w w'→K .normal a' w'):
 (aH Tryz.f187 24).wp Tryz.prog K a w:=by
 refine rgE hK (bF hs) fun HK=> ?_;clear hK hs
 simp only[fS]
 go_wp2_with fail
 exact HK.out _ _ ⟨rfl,rfl⟩ kZ (rfl) (Fr.refl _ _)
theorem Kf (i:Nat) (a:Act) (w:World) (K:KT) (hs:Sz 195 a)
 (h178:sl a 178= .int .i64 (i:Int)) (hi:i≤8)
 (hK:∀a' w',Sz 195 a'→Kp [0,1,4,5,6,7,8,9,10,11,12,13,14,15,16,17,18,104,178] a a'→sl a' 179= .bool (decide (i<8))→Fr noB w w'→K .normal a' w'):
 (aH Tryz.f187 25).wp Tryz.prog K a w:=by
 refine rgE hK (bF hs) fun HK=> ?_;clear hK hs
 simp only[fS,h178]
 go_wp2_with fail
 exact HK.out _ _ ⟨rfl,rfl⟩ kZ (congrArg Value.bool (decide_eq_decide.2 (by omega))) (Fr.refl _ _)
theorem JY (i:Nat) (a:Act) (w:World) (K:KT) (hs:Sz 195 a)
 (h178:sl a 178= .int .i64 (i:Int))
 (hK:∀a' w',Sz 195 a'→Kp [0,1,4,5,6,7,8,9,10,11,12,13,14,15,16,18,104,178] a a'→sl a' 17= .int .i64 (i:Int)→Fr noB w w'→K .normal a' w'):
 (aH Tryz.f187 26).wp Tryz.prog K a w:=by
 refine rgE hK (bF hs) fun HK=> ?_;clear hK hs
 simp only[fS,h178]
 go_wp2_with fail
 exact HK.out _ _ ⟨rfl,rfl⟩ kZ (rfl) (Fr.refl _ _)
theorem KY (i:Nat) (a:Act) (w:World) (K:KT) (hs:Sz 195 a)
 (h178:sl a 178= .int .i64 (i:Int)) (hi:i≤8)
 (hK:∀a' w',Sz 195 a'→Kp [0,1,4,5,6,7,8,9,10,11,12,13,14,15,16,17,18,104] a a'→sl a' 178= .int .i64 ((i+1:Nat):Int)→Fr noB w w'→K .normal a' w'):
 (aH Tryz.f187 28).wp Tryz.prog K a w:=by
 refine rgE hK (bF hs) fun HK=> ?_;clear hK hs
 simp only[fS,h178]
 clear h178
 go_wp2_with fail
 exact HK.out _ _ ⟨rfl,rfl⟩ kZ (by simp only[sl];rfl) (Fr.refl _ _)
theorem Mw (i gw:Nat) (x y:UInt32) (a:Act) (w:World) (K:KT) (hs:Sz 195 a)
 (h4:sl a 4= .pointer (some ⟨gw,0,none⟩)) (h6:sl a 6= .int .i64 (i:Int)) (hi:16≤i) (hi2:i<64) (hx:w.cell? ⟨gw,i-15,none⟩=some (.int .u32 (x.toNat:Int))) (hy:w.cell? ⟨gw,i-2,none⟩=some (.int .u32 (y.toNat:Int)))
 (hK:∀a' w',Sz 195 a'→Kp [0,1,4,5,6,9,10,11,12,13,14,15,16,17,18,104,178] a a'→sl a' 7= .int .u32 (x.toNat:Int)→sl a' 8= .int .u32 (y.toNat:Int)→Fr noB w w'→K .normal a' w'):
 (aH Tryz.f187 9).wp Tryz.prog K a w:=by
 refine rgE hK (bF hs) fun HK=> ?_;clear hK hs
 obtain⟨j,hj⟩:∃j,j=i-15:=⟨_,rfl⟩
 obtain⟨k,hk⟩:∃k,k=i-2:=⟨_,rfl⟩
 rw[←hj]at hx
 rw[←hk]at hy
 have q0:(i:Int)-15=(j:Int):=by omega
 have q1:j<64:=by omega
 have q2:(i:Int)-2=(k:Int):=by omega
 have q3:k<64:=by omega
 clear hj hk hi
 simp only[fS,h4,h6]
 go_quiet (fail)
 exact HK.out _ _ ⟨rfl,rfl⟩ kZ (rfl) (rfl) ((Fr.refl _ _).drewN _)
theorem Ld (x:UInt32) (a:Act) (w:World) (K:KT) (hs:Sz 195 a)
 (h7:sl a 7= .int .u32 (x.toNat:Int))
 (hK:∀a' w',Sz 195 a'→Kp [0,1,4,5,6,7,8,10,11,12,13,14,15,16,17,18,104,178] a a'→sl a' 9= .int .u32 ((sg0 x).toNat:Int)→Fr noB w w'→K .normal a' w'):
 (aH Tryz.f187 10).wp Tryz.prog K a w:=by
 refine rgE hK (bF hs) fun HK=> ?_;clear hK hs
 have xlx:(x.toNat:Int)≤4294967295:=by have:=x.toNat_lt;omega
 simp only[fS,h7]
 go_wp2_with (go_at_call 233;refine(LQ _ _ _ (by decide)).mono ?_;rintro e w1 ⟨rfl,rfl⟩)
 exact HK.out _ _ ⟨rfl,rfl⟩ kZ (congrArg (fun v=>Value.int .u32 v) (MZ x)) (Fr.refl _ _)
theorem KG (x:UInt32) (a:Act) (w:World) (K:KT) (hs:Sz 195 a)
 (h8:sl a 8= .int .u32 (x.toNat:Int))
 (hK:∀a' w',Sz 195 a'→Kp [0,1,4,5,6,7,8,9,11,12,13,14,15,16,17,18,104,178] a a'→sl a' 10= .int .u32 ((sg1 x).toNat:Int)→Fr noB w w'→K .normal a' w'):
 (aH Tryz.f187 11).wp Tryz.prog K a w:=by
 refine rgE hK (bF hs) fun HK=> ?_;clear hK hs
 have xlx:(x.toNat:Int)≤4294967295:=by have:=x.toNat_lt;omega
 simp only[fS,h8]
 go_wp2_with (go_at_call 233;refine(LQ _ _ _ (by decide)).mono ?_;rintro e w1 ⟨rfl,rfl⟩)
 exact HK.out _ _ ⟨rfl,rfl⟩ kZ (congrArg (fun v=>Value.int .u32 v) (Nc x)) (Fr.refl _ _)
theorem J1 (gh:Nat) (x y:UInt32) (a:Act) (w:World) (K:KT) (hs:Sz 195 a)
 (h11:sl a 11= .pointer (some ⟨gh,0,none⟩)) (hx:w.cell? ⟨gh,4,none⟩=some (.int .u32 (x.toNat:Int))) (hy:w.cell? ⟨gh,0,none⟩=some (.int .u32 (y.toNat:Int)))
 (hK:∀a' w',Sz 195 a'→Kp [0,1,4,5,6,7,8,9,10,11,12,15,16,17,18,104,178] a a'→sl a' 13= .int .u32 (x.toNat:Int)→sl a' 14= .int .u32 (y.toNat:Int)→Fr noB w w'→K .normal a' w'):
 (aH Tryz.f187 17).wp Tryz.prog K a w:=by
 refine rgE hK (bF hs) fun HK=> ?_;clear hK hs
 simp only[fS,h11]
 go_quiet (fail)
 exact HK.out _ _ ⟨rfl,rfl⟩ kZ (rfl) (rfl) ((Fr.refl _ _).drewN _)
end Go.Proofs.YtcbkaiakdhiloacGreatDoor
