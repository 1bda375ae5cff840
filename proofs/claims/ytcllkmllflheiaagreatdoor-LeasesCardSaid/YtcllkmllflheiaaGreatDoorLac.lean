/- Parts of the walk; written by programs, merged. -/
import Derived.Test.YtcllkmllflheiaaGreatDoorLab
import Derived.Deep.Cut
import Derived.Deep.CutRange
set_option linter.unusedSimpArgs false
set_option linter.unusedVariables false
set_option maxRecDepth 20000
set_option maxHeartbeats 8000000
namespace Go.Proofs.YtcllkmllflheiaaGreatDoor
open Go.RowKit Go.Proofs
abbrev KT:=Exit→Act→World→Prop
section
variable {P:Program} {ops:Array Oper} {Q:Exit→Act→World→Prop} {S:World→Prop} {brk:List Nat} {c:Bool} {k:Nat} {t:Pl} {a a':Act} {w:World} {o:Oper} {opl:List Oper} {v:Value} {j d:Nat} {b:Bool}
theorem qd {p:Prop} (h:p:=by go_simp;((try with_reducible rfl);done)):p:=h
theorem pP (hO:Hid (ops=opl.toArray)) (h:eE P ops Q S brk c t a' w) (ho:opl[k]? =some o:=by rfl) (hg:o.guard=none:=by rfl) (hv:∀w,(execOp a.eval o).run P w= .ok (.value v) w:=by intro w';go_simp;((try with_reducible rfl);done))
 (hp:a.put o.dst v=a':=by simp only[Act.put,List.setIfInBounds_toArray,List.set_cons_zero,List.set_cons_succ];rfl):eE P ops Q S brk c (.p k t) a w:=GM hO ho hg v hv (hp▸h)
theorem pR (hO:Hid (ops=opl.toArray)) (h:eE P ops Q S brk c t a' w) (ho:opl[k]? =some o:=by rfl) (hg:o.guard=some (j,b):=by rfl) (hd:(opl[j]?).bind (·.dst)=some d:=by rfl) (hb:a.eval (.tmp d)= .bool b:=by rfl) (hv:∀w,(execOp a.eval o).run P w= .ok (.value v) w:=by intro w';go_simp;((try with_reducible rfl);done))
 (hp:a.put o.dst v=a':=by simp only[Act.put,List.setIfInBounds_toArray,List.set_cons_zero,List.set_cons_succ];rfl):eE P ops Q S brk c (.p k t) a w:=Jn hO ho hg hd hb v hv (hp▸h)
theorem pQ (hO:Hid (ops=opl.toArray)) (ho:opl[k]? =some o) (hg:o.guard=none) (hv:∀w,S w→(execOp a.eval o).run P w= .ok (.value v) w) (h:eE P ops Q S brk c t a' w)
 (hp:a.put o.dst v=a':=by simp only[Act.put,List.setIfInBounds_toArray,List.set_cons_zero,List.set_cons_succ];rfl):eE P ops Q S brk c (.q k t) a w:=Gj hO ho hg v hv (hp▸h)
theorem pS (hO:Hid (ops=opl.toArray)) (ho:opl[k]? =some o) (hg:o.guard=some (j,b)) (hd:(opl[j]?).bind (·.dst)=some d) (hb:a.eval (.tmp d)= .bool b) (hv:∀w,S w→(execOp a.eval o).run P w= .ok (.value v) w) (h:eE P ops Q S brk c t a' w)
 (hp:a.put o.dst v=a':=by simp only[Act.put,List.setIfInBounds_toArray,List.set_cons_zero,List.set_cons_succ];rfl):eE P ops Q S brk c (.q k t) a w:=IJ hO ho hg hd hb v hv (hp▸h)
theorem pN (hO:Hid (ops=opl.toArray)) (h:eE P ops Q S brk c t a' w) (ho:opl[k]? =some o:=by rfl) (hg:o.guard=some (j,b):=by rfl) (hd:(opl[j]?).bind (·.dst)=some d:=by rfl) (hb:a.eval (.tmp d)= .bool (!b):=by rfl)
 (hp:a.put o.dst undef=a':=by simp only[Act.put,List.setIfInBounds_toArray,List.set_cons_zero,List.set_cons_succ];rfl):eE P ops Q S brk c (.p k t) a w:=I9 hO ho hg hd hb (hp▸h)
theorem qN (hO:Hid (ops=opl.toArray)) (h:eE P ops Q S brk c t a' w) (ho:opl[k]? =some o:=by rfl) (hg:o.guard=some (j,b):=by rfl) (hd:(opl[j]?).bind (·.dst)=some d:=by rfl) (hb:a.eval (.tmp d)= .bool (!b):=by rfl)
 (hp:a.put o.dst undef=a':=by simp only[Act.put,List.setIfInBounds_toArray,List.set_cons_zero,List.set_cons_succ];rfl):eE P ops Q S brk c (.q k t) a w:=Iz hO ho hg hd hb (hp▸h)
theorem wpr {id:Nat} (S:World→Prop) (brk:List Nat) (t:Pl) (hS:S w.drew) (h:∀(ops':Array Oper) (Q':Exit→Act→World→Prop),Hid (ops'=opl.toArray)→(∀a w,Q .normal a w→Q' .normal a w)→∀w1,S w1→eE P ops' Q' S brk true t a w1) (hm:P.follows .mixedOrders=true:=by kernel_rfl) (hB:(Region.noSelect opl.toArray&&plB opl.toArray brk t opl.toArray.size (Array.replicate opl.toArray.size false))=true:=by kernel_rfl):(Code.region id opl.toArray true).wp P Q a w:=sU hm S brk t hB hS h
end
theorem kZ {l:List Nat} {u:Nat→Value} {a:Act} (h:KpU l u a:=by repeat(first|exact Kn _ _|refine Kc (by first|rfl|(apply Eq.symm;assumption)) ?_)):KpU l u a:=h
theorem rgE {X:Prop} {P:Program} {K:KT} {c c':Code} {a a2:Act} {w:World} (hK:X) (h:a=a2) (H:Hid X→c'.wp P K a2 w) (hc:c=c':=by conv=>lhs;whnf):c.wp P K a w:=by
 subst hc;subst h;exact H (Lib.hid hK)
end Go.Proofs.YtcllkmllflheiaaGreatDoor
namespace Go.Proofs.YtcllkmllflheiaaGreatDoor
open Go.RowKit Go.Proofs
section
variable {w1 w:World} {p B n g:Nat} {A:Option Addr} {l:List UInt8} {cs:Array Value}
theorem AlS.bk0 {t:TypeId} (h:AlS true (.slice (some ⟨g,0,none⟩) n n) n t cs B A w):Bk w g t cs:=by
 obtain⟨g',e,hb,_,_⟩:=h rfl
 injection e with e _ _;injection e with e;injection e with e _ _;subst e;exact hb
theorem AlS.sl0 {t:TypeId} {size:Nat} (h:AlS true (.slice (some ⟨g,0,none⟩) n n) n t cs B A w) (hc:Chn w1 p B A l w) (hn:cs.size=n*size):SlR w (wrS p A) size (some ⟨g,0,none⟩) n cs.toList:=by
 obtain⟨g',e,hb,hB,hne⟩:=h rfl
 injection e with e _ _;injection e with e;injection e with e _ _;subst e
 exact SlR.of_bk hb (AlS.not hc hB hne) hn
def qO (w1:World) (p B:Nat) (A:Option Addr) (l':List UInt8) (w:World) (e:Ending) (w':World):Prop:=
 e= .returned (.pointer (some ⟨p,0,none⟩))∧∃A',Chn w1 p B A' l' w'∧∀(L:Bool) (v:Value) (n:Nat) (t:TypeId) (cs:Array Value),AlS L v n t cs B A w→AlS L v n t cs B A' w'
theorem Chn.«to» {l':List UInt8} {f:FuncId} {vs:Array Value} (hc:Chn w1 p B A l w) (h:Calls Tryz.prog f vs w (vC p A w l')):Calls Tryz.prog f vs w (qO w1 p B A l' w):=h.mono fun e w' hp=>⟨hp.1,hc.call hp.2⟩
theorem AlS.u8 (s:AlS true (.slice (some ⟨g,0,none⟩) n n) n 5 cs B A w) (hc:Chn w1 p B A l w) (xs:List UInt8) (e:cs.toList=u8s xs) (hn:cs.size=n*1) (hl:l.length+n≤100000000000):Calls Tryz.prog 134 #[.pointer (some ⟨p,0,none⟩),.slice (some ⟨g,0,none⟩) n n] w (qO w1 p B A (l++xs) w):=
 hc.«to» (wU8 p A l w _ n n xs (wrS p A) hc.wr (e▸s.sl0 hc hn) hl)
theorem AlS.u16 (s:AlS true (.slice (some ⟨g,0,none⟩) n n) n 80 cs B A w) (hc:Chn w1 p B A l w) (xs:List Int) (e:cs.toList=Df .u16 xs) (hn:cs.size=n*1) (hx:∀x∈xs,0≤x∧x≤65535) (hn1:n≤1000) (hl:l.length≤100000000):Calls Tryz.prog 133 #[.pointer (some ⟨p,0,none⟩),.slice (some ⟨g,0,none⟩) n n] w (qO w1 p B A (l++bG 2 xs) w):=
 hc.«to» (Kg p A l w _ n n xs hc.wr (e▸s.sl0 hc hn) hx hn1 hl)
theorem AlS.ip (s:AlS true (.slice (some ⟨g,0,none⟩) n n) n 53 cs B A w) (hc:Chn w1 p B A l w) (xs:List Int) (e:cs.toList=Df .u32 xs) (hn:cs.size=n*1) (hx:∀x∈xs,0≤x∧x≤4294967295) (hn1:n≤1000) (hl:l.length≤100000000):Calls Tryz.prog 136 #[.pointer (some ⟨p,0,none⟩),.slice (some ⟨g,0,none⟩) n n] w (qO w1 p B A (l++bG 4 xs) w):=
 hc.«to» (wIP p A l w _ n n xs hc.wr (e▸s.sl0 hc hn) hx hn1 hl)
theorem AlS.mac (s:AlS true (.slice (some ⟨g,0,none⟩) n n) n 26 cs B A w) (hc:Chn w1 p B A l w) (xs:List Mac) (e:cs.toList=oG xs) (hn:cs.size=n*6) (hn1:n≤1000) (hl:l.length≤100000000):Calls Tryz.prog 135 #[.pointer (some ⟨p,0,none⟩),.slice (some ⟨g,0,none⟩) n n] w (qO w1 p B A (l++xs.flatMap cG) w):=
 hc.«to» (Ko p A l w g n n xs hc.wr (e▸s.sl0 hc hn) hn1 hl)
theorem AlS.str (s:AlS true (.slice (some ⟨g,0,none⟩) n n) n 9 cs B A w) (hc:Chn w1 p B A l w) (xs:List (List UInt8)) (e:cs.toList=FJ xs) (hn:cs.size=n*1) (hn1:n≤1000) (hl:l.length+xs.flatten.length≤100000000):Calls Tryz.prog 189 #[.pointer (some ⟨p,0,none⟩),.slice (some ⟨g,0,none⟩) n n] w (qO w1 p B A (l++xs.flatten) w):=
 hc.«to» (Ju p A l w _ n n xs hc.wr (e▸s.sl0 hc hn) hn1 hl)
theorem Chn.num (hc:Chn w1 p B A l w) (n:Nat) (x:Int) (hx0:0≤x) (hx1:x≤4294967295) (hn:n≤4) (hl:l.length≤1000000000):Calls Tryz.prog 188 #[.pointer (some ⟨p,0,none⟩),.int .i64 n,.int .u32 x] w (qO w1 p B A (l++big n x.toNat) w):=
 hc.«to» (Jy n x p A l w hc.wr hx0 hx1 hn hl)
theorem Chn.zero (hc:Chn w1 p B A l w) (n:Nat) (hn:n≤1000) (hl:l.length≤100000000):Calls Tryz.prog 190 #[.pointer (some ⟨p,0,none⟩),.int .i64 n] w (qO w1 p B A (l++List.replicate (n-l.length) 0) w):=
 hc.«to» (Jq p A l w n hc.wr hn hl)
end
end Go.Proofs.YtcllkmllflheiaaGreatDoor
namespace Go.Proofs.YtcllkmllflheiaaGreatDoor
open Go.RowKit Go.Proofs
section
variable {P:Program} {ops:Array Oper} {Q:Exit→Act→World→Prop}
theorem oY {id:Nat} {a:Act} {w:World} {dr:Bool} (hm:P.follows .mixedOrders=true) (I:(Nat→Bool)→Act→World→Prop) (hb:nE ops=true)
 (hgd:(List.range ops.size).all (fun i=>match ops[i]? with|some o=>o.guard.isNone|none=>true)=true)
 (h0:∀w',w'=w∨w'=w.drew→I (fun _=>false) a w')
 (hstep:∀L a w i o,I L a w→ops[i]? =some o→L i=false→(∀e∈o.after.toList,Region.binds .any e=true→L e.on=true)→
  ∀K:Act→World→Prop,(∀a' w',I (fun j=>if j=i then true else L j) a' w'→K a' w')→o.wp P a w K Q)
 (hend:∀L a w,I L a w→(∀i,i<ops.size→L i=true)→Q .normal a w):(Code.region id ops dr).wp P Q a w:=by
 have gd:∀(i:Nat) (o:Oper),ops[i]? =some o→o.guard=none:=by
  intro i o ho
  have hi:i<ops.size:=by
   rcases Nat.lt_or_ge i ops.size with h|h
   ·exact h
   ·rw[Array.getElem?_eq_none h]at ho;cases ho
  have h1:=List.all_eq_true.1 hgd i (by simpa using hi)
  rw[ho]at h1
  simpa using h1
 cases dr with
 |true=>exact iI hm I hb (h0 _ (.inr rfl)) (fun L a w i o hI ho hL hd=>yA ho (gd i o ho) (hstep L a w i o hI ho hL hd _ fun a' w' h=>h)) hend
 |false=>
  refine wp_region_list ?_
  have key:∀(rest:List Oper) (k:Nat) (a:Act) (w:World),ops.toList.drop k=rest→k≤ops.size→I (fun j=>decide (j<k)) a w→wpList P ops Q rest a w:=by
   intro rest
   induction rest with
   |nil=>
    intro k a w hk hle hI
    have hkl:k=ops.size:=by
     have:=List.drop_eq_nil_iff.1 hk
     simp at this;omega
    subst hkl
    exact hend _ a w hI (fun i hi=>by simpa using hi)
   |cons o rest ih=>
    intro k a w hk hle hI
    have hlt:k<ops.size:=by
     rcases Nat.lt_or_ge k ops.size with h|h
     ·exact h
     ·rw[List.drop_eq_nil_of_le (by simpa using h)]at hk;cases hk
    have ho:ops[k]? =some o:=by
     have h1:(ops.toList.drop k)[0]? =some o:=by rw[hk];rfl
     rw[List.getElem?_drop]at h1
     simpa using h1
    have hr:ops.toList.drop (k+1)=rest:=by
     have h1:(ops.toList.drop k).drop 1=rest:=by rw[hk];rfl
     rw[List.drop_drop]at h1
     exact h1
    refine wpList_plain (gd k o ho) fun K hK=> ?_
    refine hstep (fun j=>decide (j<k)) a w k o hI ho (by simp) ?_ K ?_
    ·intro e he hbe
     unfold nE at hb
     have h1:=List.all_eq_true.1 hb k (by simpa using hlt)
     rw[ho]at h1
     have h2:=List.all_eq_true.1 h1 e he
     simpa[hbe]using h2
    ·intro a' w' hI'
     refine hK _ _ (ih (k+1) a' w' hr (by omega) ?_)
     have e1:(fun j=>if j=k then true else decide (j<k))=fun j=>decide (j<k+1):=by
      funext j
      by_cases hj:j=k
      ·subst hj;simp
      ·simp only[hj,if_false]
       rw[decide_eq_decide];omega
     rw[e1]at hI';exact hI'
  exact key _ 0 a w rfl (by omega) (by
   have e1:(fun j=>decide (j<0))=fun _=>false:=by funext j;simp
   rw[e1];exact h0 _ (.inl rfl))
end
inductive Sp
 |v (x:Value)
 |m (n:Nat) (t:TypeId) (cs:Array Value)
 |w (k:Nat)
 |s (k:Nat)
abbrev pt (p:Nat):Value:= .pointer (some ⟨p,0,none⟩)
def gt (a:Act) (k:Nat):Value:=a.tmps[k]?.getD undef
theorem C9 (a:Act) (k:Nat):gt a k=sl a k:=by simp[gt,sl,Array.getD_eq_getD_getElem?]
def EX (ex:List (Nat×TypeId×Array Value)) (B:Nat) (A:Option Addr) (w:World):Prop:=∀e∈ex,AlS true (.slice (some ⟨e.1,0,none⟩) 0 0) 0 e.2.1 e.2.2 B A w
def yD (o:Oper) (j:Nat):Bool:=o.after.toList.any fun e=>Region.binds .any e&&e.on==j
def EvK (a:Act):List (Nat×Value)→Prop
 |[]=>True
 |d::r=>gt a d.1=d.2∧EvK a r
def wOK (ats:List Nat):Nat→List (Nat×Sp)→Bool
 |_,[]=>true
 |i,(_,.w k)::r=>ats[k]? ==some i&&wOK ats (i+1) r
 |i,_::r=>wOK ats (i+1) r
theorem E4 {ats:List Nat}:∀{sp:List (Nat×Sp)} {i0:Nat},wOK ats i0 sp=true→∀i d k,sp[i]? =some (d,.w k)→ats[k]? =some (i0+i)
 |[],_,_,i,d,k,h=>by simp at h
 |e::r,i0,h,0,d,k,hi=>by
  simp at hi;subst hi
  simp[wOK]at h
  exact h.1
 |e::r,i0,h,i+1,d,k,hi=>by
  have hr:wOK ats (i0+1) r=true:=by
   obtain⟨x,y⟩:=e
   cases y<;>simp[wOK]at h
   ·exact h
   ·exact h
   ·exact h.2
   ·exact h
  have h1:=E4 hr i d k (by simpa using hi)
  rw[h1];congr 1;omega
section
variable (w1:World) (p B:Nat) (lst:Nat→List UInt8) (ex:List (Nat×TypeId×Array Value)) (sp:List (Nat×Sp)) (ats:List Nat)
def Sp.is (s:Sp) (y:Value):Prop:=match s with
 | .v x=>y=x
 | .m _ _ _=>True
 | .w _=>y=pt p
 | .s k=>y= .string (bs (lst k))
def EvD (a:Act):List Nat→Prop
 |[]=>True
 |j::r=>(match sp[j]? with
  |some (d,.v x)=>gt a d=x
  |some (d,.w _)=>gt a d=pt p
  |some (d,.s k)=>gt a d= .string (bs (lst k))
  |_=>True)∧EvD a r
def nT (o:Oper) (k:Nat):Bool:=k==0||match ats[k-1]? with
 |some j=>yD o j
 |none=>false
def OKo (P:Program) (kn:List (Nat×Value)) (o:Oper) (s:Sp):Prop:=match s with
 | .v x=>∃dp:List Nat,dp.all (yD o)=true∧∀a w A l,EvK a kn→EvD p lst sp a dp→Chn w1 p B A l w→EX ex B A w→(execOp a.eval o).run P w= .ok (.value x) w
 | .m n t cs=>∃dp:List Nat,dp.all (yD o)=true∧∀a w,EvK a kn→EvD p lst sp a dp→(execOp a.eval o).run P w= .ok (.value (.slice (some ⟨w.heap.size,0,none⟩) n n)) (w.alloc (.cells cs t))
 | .w k=>nT ats o k=true∧∃dp:List Nat,dp.all (yD o)=true∧
  ((∃f vs,∀a w A,EvK a kn→EvD p lst sp a dp→Chn w1 p B A (lst k) w→(execOp a.eval o).run P w= .ok (.enter f vs) w∧Calls P f vs w (qO w1 p B A (lst (k+1)) w))∨
   ∃j d n t cs f,∃vs:Nat→Array Value,sp[j]? =some (d,.m n t cs)∧yD o j=true∧∀a w A g,EvK a kn→EvD p lst sp a dp→gt a d= .slice (some ⟨g,0,none⟩) n n→Chn w1 p B A (lst k) w→AlS true (.slice (some ⟨g,0,none⟩) n n) n t cs B A w→(execOp a.eval o).run P w= .ok (.enter f (vs g)) w∧Calls P f (vs g) w (qO w1 p B A (lst (k+1)) w))
 | .s k=>k=ats.length∧nT ats o k=true∧∃dp:List Nat,dp.all (yD o)=true∧∃f vs,∀a w A,EvK a kn→EvD p lst sp a dp→Chn w1 p B A (lst k) w→(execOp a.eval o).run P w= .ok (.enter f vs) w∧Calls P f vs w (fun e w'=>e= .returned (.string (bs (lst k)))∧w=w')
def OKs (P:Program) (kn:List (Nat×Value)):List (Nat×Sp)→List Oper→Prop
 |[],[]=>True
 |(d,s)::r,o::q=>o.dst=some d∧OKo w1 p B lst ex sp ats P kn o s∧OKs P kn r q
 |_,_=>False
structure E8 (n:Nat) (a0:Act) (L:Nat→Bool) (a:Act) (w:World) (c:Nat) (A:Option Addr):Prop where
 sz:Sz n a
 keep:∀k,k∉sp.map (·.1)→sl a k=sl a0 k
 vals:∀i d s,L i=true→sp[i]? =some (d,s)→s.is p lst (sl a d)
 le:c≤ats.length
 ws:∀i d k,sp[i]? =some (d,.w k)→L i=decide (k<c)
 ch:Chn w1 p B A (lst c) w
 al:∀i d n t cs,sp[i]? =some (d,.m n t cs)→AlS (L i) (sl a d) n t cs B A w
 ex:EX ex B A w
end
section
variable {w1:World} {p B:Nat} {lst:Nat→List UInt8} {ex:List (Nat×TypeId×Array Value)} {sp:List (Nat×Sp)} {ats:List Nat} {P:Program} {kn:List (Nat×Value)}
theorem OKs.at:∀{sq:List (Nat×Sp)} {q:List Oper},OKs w1 p B lst ex sp ats P kn sq q→∀(i:Nat) (o:Oper),q[i]? =some o→∃d s,sq[i]? =some (d,s)∧o.dst=some d∧OKo w1 p B lst ex sp ats P kn o s
 |[],[],_,i,o,ho=>by simp at ho
 |e::r,o'::q,h,0,o,ho=>by simp at ho;subst ho;exact⟨e.1,e.2,rfl,h.1,h.2.1⟩
 |e::r,o'::q,h,i+1,o,ho=>by
  obtain⟨d,s,h1,h2⟩:=OKs.at h.2.2 i o (by simpa using ho)
  exact⟨d,s,by simpa using h1,h2⟩
 |[],_::_,h,_,_,_=>h.elim
 |_::_,[],h,_,_,_=>h.elim
theorem E8.put {n:Nat} {a0:Act} {L:Nat→Bool} {a:Act} {w:World} {c:Nat} {A:Option Addr} (h:E8 w1 p B lst ex sp ats n a0 L a w c A) (hnd:(sp.map (·.1)).Nodup) (hlt:∀e∈sp,e.1<n) {i d:Nat} {s:Sp} (hi:sp[i]? =some (d,s)) {v:Value} (hv:s.is p lst v)
 {c':Nat} {A':Option Addr} {w':World} (hc:c'≤ats.length) (hw:∀i' d' k,sp[i']? =some (d',.w k)→(if i'=i then true else L i')=decide (k<c')) (hch:Chn w1 p B A' (lst c') w')
 (hal:∀(L:Bool) (v:Value) (n:Nat) (t:TypeId) (cs:Array Value),AlS L v n t cs B A w→AlS L v n t cs B A' w') (hnew:∀n t cs,s= .m n t cs→AlS true v n t cs B A' w'):
 E8 w1 p B lst ex sp ats n a0 (fun j=>if j=i then true else L j) (a.put (some d) v) w' c' A':=by
 have hd:d<n:=hlt _ (List.mem_of_getElem? hi)
 have hsp:∀k,sl (a.put (some d) v) k=if k=d then v else sl a k:=fun k=>EV h.sz hd
 have inj:∀i' d' s',sp[i']? =some (d',s')→d'=d→i'=i:=by
  intro i' d' s' h' e
  subst e
  have hl:i'<sp.length:=by
   rcases Nat.lt_or_ge i' sp.length with x|x
   ·exact x
   ·rw[List.getElem?_eq_none x]at h';cases h'
  refine(List.getElem?_inj (by simpa using hl) hnd (j:=i)).1 ?_
  rw[List.getElem?_map,List.getElem?_map,h',hi];rfl
 refine⟨h.sz.put,?_,?_,hc,hw,hch,?_,fun e he=>hal _ _ _ _ _ (h.ex e he)⟩
 ·intro k hk
  rw[hsp k,if_neg ?_]
  ·exact h.keep k hk
  ·rintro rfl
   exact hk (List.mem_map.2 ⟨_,List.mem_of_getElem? hi,rfl⟩)
 ·intro i' d' s' hL' h'
  rw[hsp d']
  by_cases e:i'=i
  ·subst e
   rw[hi]at h';injection h' with h';injection h' with e1 e2;subst e1;subst e2
   rw[if_pos rfl];exact hv
  ·rw[if_neg (fun x=>e (inj i' d' s' h' x))]
   exact h.vals i' d' s' (by simpa[e]using hL') h'
 ·intro i' d' n' t' cs' h'
  rw[hsp d']
  by_cases e:i'=i
  ·subst e
   rw[hi]at h';injection h' with h';injection h' with e1 e2;subst e1
   simp only[if_true]
   exact hnew _ _ _ e2
  ·rw[if_neg (fun x=>e (inj i' d' _ h' x)),if_neg e]
   exact hal _ _ _ _ _ (h.al i' d' n' t' cs' h')
theorem evK {n:Nat} {a0:Act} {L:Nat→Bool} {a:Act} {w:World} {c:Nat} {A:Option Addr} (h:E8 w1 p B lst ex sp ats n a0 L a w c A):∀{kn:List (Nat×Value)},(∀d∈kn,d.1∉sp.map (·.1)∧sl a0 d.1=d.2)→EvK a kn
 |[],_=>trivial
 |d::r,hk=>⟨by rw[C9,h.keep d.1 (hk d (by simp)).1];exact(hk d (by simp)).2,evK h fun x hx=>hk x (by simp[hx])⟩
theorem xI {o:Oper} {j:Nat} {L:Nat→Bool} (h:yD o j=true) (hd:∀e∈o.after.toList,Region.binds .any e=true→L e.on=true):L j=true:=by
 obtain⟨e,he,h2⟩:=List.any_eq_true.1 h
 simp only[Bool.and_eq_true,beq_iff_eq]at h2
 rw[←h2.2];exact hd e he h2.1
theorem evD {n:Nat} {a0:Act} {L:Nat→Bool} {a:Act} {w:World} {c:Nat} {A:Option Addr} {o:Oper} (h:E8 w1 p B lst ex sp ats n a0 L a w c A) (hd:∀e∈o.after.toList,Region.binds .any e=true→L e.on=true):∀{dp:List Nat},dp.all (yD o)=true→EvD p lst sp a dp
 |[],_=>trivial
 |j::r,hk=>by
  simp only[List.all_cons,Bool.and_eq_true]at hk
  refine⟨?_,evD h hd hk.2⟩
  have hL:=xI hk.1 hd
  have hv:=fun d s=>h.vals j d s hL
  split
  ·next d x e=>rw[C9];exact hv d _ e
  ·next d x e=>rw[C9];exact hv d _ e
  ·next d x e=>rw[C9];exact hv d _ e
  ·trivial
theorem Ch {n:Nat} {a0:Act} {L:Nat→Bool} {a:Act} {w:World} {c:Nat} {A:Option Addr} {o:Oper} {k:Nat} (h:E8 w1 p B lst ex sp ats n a0 L a w c A) (hd:∀e∈o.after.toList,Region.binds .any e=true→L e.on=true) (hat:∀(k j:Nat),ats[k]? =some j→∃d,sp[j]? =some (d,Sp.w k)) (hp:nT ats o k=true):k≤c:=by
 unfold nT at hp
 rcases Nat.eq_zero_or_pos k with rfl|h0
 ·omega
 ·rw[Bool.or_eq_true]at hp
  rcases hp with hp|hp
  ·simp at hp;omega
  ·split at hp
   ·next j e=>
    obtain⟨d,hj⟩:=hat _ _ e
    have h1:=(h.ws j d _ hj).symm.trans (xI hp hd)
    simp at h1;omega
   ·cases hp
theorem jK {id n:Nat} {opl:List Oper} {Q:Exit→Act→World→Prop} {a:Act} {w:World} {dr:Bool} {A0:Option Addr} (hs:Sz n a) (hch:Chn w1 p B A0 (lst 0) w) (hx:EX ex B A0 w) (hkn:∀d∈kn,d.1∉sp.map (·.1)∧sl a d.1=d.2) (hok:OKs w1 p B lst ex sp ats P kn sp opl)
 (hend:∀a' w' A',Sz n a'→(∀k,k∉sp.map (·.1)→sl a' k=sl a k)→(∀(i d:Nat) (s:Sp),sp[i]? =some (d,s)→s.is p lst (sl a' d))→Chn w1 p B A' (lst ats.length) w'→EX ex B A' w'→Q .normal a' w')
 (hm:P.follows .mixedOrders=true) (hb:nE opl.toArray=true) (hgd:(List.range opl.toArray.size).all (fun i=>match opl.toArray[i]? with|some o=>o.guard.isNone|none=>true)=true)
 (hB:(wOK ats 0 sp&&((List.range ats.length).all fun k=>match ats[k]? with|some j=>(match sp[j]? with|some (_,.w k')=>k'==k|_=>false)|none=>false)&&decide ((sp.map (·.1)).Nodup)&&(sp.all fun e=>decide (e.1<n))&&sp.length==opl.length)=true):
 (Code.region id opl.toArray dr).wp P Q a w:=by
 simp only[Bool.and_eq_true,decide_eq_true_eq,beq_iff_eq]at hB
 obtain⟨⟨⟨⟨hw0,hat0⟩,hnd⟩,hlt0⟩,hlen⟩:=hB
 have hlt:∀e∈sp,e.1<n:=fun e he=>by simpa using List.all_eq_true.1 hlt0 e he
 have hat:∀(k j:Nat),ats[k]? =some j→∃d,sp[j]? =some (d,Sp.w k):=by
  intro k j hk
  have hkl:k<ats.length:=by
   rcases Nat.lt_or_ge k ats.length with x|x
   ·exact x
   ·rw[List.getElem?_eq_none x]at hk;cases hk
  have h1:=List.all_eq_true.1 hat0 k (by simpa using hkl)
  rw[hk]at h1
  simp only at h1
  split at h1
  ·next d k' e=>simp at h1;subst h1;exact⟨d,e⟩
  ·cases h1
 have hwk:∀(i d k:Nat),sp[i]? =some (d,Sp.w k)→ats[k]? =some i:=fun i d k h=>by simpa using E4 hw0 i d k h
 refine oY hm (fun L a' w'=>∃c A,E8 w1 p B lst ex sp ats n a L a' w' c A) hb hgd ?_ ?_ ?_
 ·rintro w' (rfl|rfl)
  ·exact⟨0,A0,hs,fun _ _=>rfl,(fun _ _ _ h=>by cases h),by omega,fun _ _ _ _=>by simp,hch,fun _ _ _ _ _ _=>AlS.false,hx⟩
  ·exact⟨0,A0,hs,fun _ _=>rfl,(fun _ _ _ h=>by cases h),by omega,fun _ _ _ _=>by simp,hch.drew2,fun _ _ _ _ _ _=>AlS.false,fun e he=>(hx e he).drew2⟩
 ·rintro L a' w' i o ⟨c,A,hI⟩ ho hL hd K hK
  obtain⟨d,s,hi,hdst,hop⟩:=hok.at i o (by simpa using ho)
  have hek:=evK hI hkn
  have wsK:∀(i' d' k:Nat),(∀k,s≠Sp.w k)→sp[i']? =some (d',Sp.w k)→(if i'=i then true else L i')=decide (k<c):=by
   intro i' d' k hs' h'
   by_cases e:i'=i
   ·subst e;rw[hi]at h';injection h' with h';injection h' with _ h';exact absurd h' (hs' k)
   ·rw[if_neg e];exact hI.ws i' d' k h'
  unfold Oper.wp
  cases s with
  |v x=>
   obtain⟨dp,h1,h2⟩:=hop
   rw[h2 a' w' A _ hek (evD hI hd h1) hI.ch hI.ex,Oper.upon_value,hdst]
   exact hK _ _ ⟨c,A,hI.put hnd hlt hi rfl hI.le (fun i' d' k=>wsK i' d' k (fun _ e=>by cases e)) hI.ch (fun _ _ _ _ _ h=>h) (fun _ _ _ e=>by cases e)⟩
  |m n' t cs=>
   obtain⟨dp,h1,h2⟩:=hop
   rw[h2 a' w' hek (evD hI hd h1),Oper.upon_value,hdst]
   refine hK _ _ ⟨c,A,hI.put hnd hlt hi trivial hI.le (fun i' d' k=>wsK i' d' k (fun _ e=>by cases e)) (hI.ch.alloc _) (fun _ _ _ _ _ h=>h.alloc _) ?_⟩
   intro n2 t2 cs2 e
   injection e with e1 e2 e3;subst e1;subst e2;subst e3
   exact AlS.new hI.ch _ _ _
  |w k=>
   obtain⟨hp,dp,h1,h2⟩:=hop
   have hck:c=k:=by
    have h3:=Ch hI hd hat hp
    have h4:=hL.symm.trans (hI.ws i d k hi)
    simp at h4;omega
   subst hck
   have hkl:c<ats.length:=by
    have h3:=hwk i d c hi
    rcases Nat.lt_or_ge c ats.length with x|x
    ·exact x
    ·rw[List.getElem?_eq_none x]at h3;cases h3
   have hws:∀(i' d' k:Nat),sp[i']? =some (d',Sp.w k)→(if i'=i then true else L i')=decide (k<c+1):=by
    intro i' d' k h'
    have h3:=hwk i' d' k h'
    by_cases e:i'=i
    ·subst e
     rw[hi]at h';injection h' with h';injection h' with _ h';injection h' with h';subst h'
     simp
    ·rw[if_neg e,hI.ws i' d' k h',decide_eq_decide]
     have:k≠c:=by
      rintro rfl
      have h5:=hwk i d k hi
      rw[h3]at h5;injection h5 with h5;exact e h5
     omega
   have go:∀f vs,Calls P f vs w' (qO w1 p B A (lst (c+1)) w')→(execOp a'.eval o).run P w'= .ok (.enter f vs) w'→o.upon P a' K Q ((execOp a'.eval o).run P w'):=by
    intro f vs hcall hrun
    rw[hrun,Oper.upon_enter]
    refine hcall.mono ?_
    rintro e w2 ⟨rfl,A2,hch2,hal2⟩
    simp only[hdst]
    exact hK _ _ ⟨c+1,A2,hI.put hnd hlt hi rfl (by omega) hws hch2 hal2 (fun _ _ _ e=>by cases e)⟩
   rcases h2 with⟨f,vs,h2⟩|⟨j,dj,n',t,cs,f,vs,hj,hej,h2⟩
   ·obtain⟨h3,h4⟩:=h2 a' w' A hek (evD hI hd h1) hI.ch
    exact go f vs h4 h3
   ·have hLj:=xI hej hd
    have ha:=hI.al j dj n' t cs hj
    obtain⟨g,hg,hb,hB,hne⟩:=ha hLj
    obtain⟨h3,h4⟩:=h2 a' w' A g hek (evD hI hd h1) (by rw[C9];exact hg) hI.ch (fun _=>⟨g,rfl,hb,hB,hne⟩)
    exact go f (vs g) h4 h3
  |s k=>
   obtain⟨hk,hp,dp,h1,f,vs,h2⟩:=hop
   have hck:c=k:=by
    have h3:=Ch hI hd hat hp
    have:=hI.le
    omega
   subst hck
   obtain⟨h3,h4⟩:=h2 a' w' A hek (evD hI hd h1) hI.ch
   rw[h3,Oper.upon_enter]
   refine h4.mono ?_
   rintro e w2 ⟨rfl,rfl⟩
   simp only[hdst]
   exact hK _ _ ⟨c,A,hI.put hnd hlt hi rfl hI.le (fun i' d' k=>wsK i' d' k (fun _ e=>by cases e)) hI.ch (fun _ _ _ _ _ h=>h) (fun _ _ _ e=>by cases e)⟩
 ·rintro L a' w' ⟨c,A,hI⟩ hall
  have hl:∀(i:Nat) (e:Nat×Sp),sp[i]? =some e→L i=true:=by
   intro i e h
   refine hall i ?_
   rcases Nat.lt_or_ge i sp.length with x|x
   ·simpa[hlen]using x
   ·rw[List.getElem?_eq_none x]at h;cases h
  have hc:c=ats.length:=by
   have hle:=hI.le
   rcases Nat.eq_zero_or_pos ats.length with h0|h0
   ·omega
   ·obtain⟨j,hj⟩:∃j,ats[ats.length-1]? =some j:=⟨_,List.getElem?_eq_getElem (by omega)⟩
    obtain⟨d,hd⟩:=hat _ _ hj
    have h1:=(hI.ws j d _ hd).symm.trans (hl _ _ hd)
    simp at h1;omega
  subst hc
  exact hend a' w' A hI.sz hI.keep (fun i d s h=>hI.vals i d s (hl _ _ h) h) hI.ch hI.ex
theorem okn:OKs w1 p B lst ex sp ats P kn [] []:=trivial
theorem okv (dp:List Nat) {d:Nat} {x:Value} {r:List (Nat×Sp)} {o:Oper} {q:List Oper} (h:OKs w1 p B lst ex sp ats P kn r q) (he:dp.all (yD o)=true:=by rfl) (hd:o.dst=some d:=by rfl)
 (hr:∀a w,EvK a kn→EvD p lst sp a dp→(execOp a.eval o).run P w= .ok (.value x) w:=by intro a w hk hd;simp only[EvK,EvD,gt,List.getElem?_cons_zero,List.getElem?_cons_succ]at hk hd;((go_simp;try rfl);done)):OKs w1 p B lst ex sp ats P kn ((d,.v x)::r) (o::q):=
 ⟨hd,⟨dp,he,fun a w _ _ h1 h2 _ _=>hr a w h1 h2⟩,h⟩
theorem okl (dp:List Nat) {C:World→Prop} (hC:∀w A l,Chn w1 p B A l w→EX ex B A w→C w) {d:Nat} {x:Value} {r:List (Nat×Sp)} {o:Oper} {q:List Oper} (h:OKs w1 p B lst ex sp ats P kn r q) (he:dp.all (yD o)=true:=by rfl) (hd:o.dst=some d:=by rfl)
 (hr:∀a w,EvK a kn→EvD p lst sp a dp→C w→(execOp a.eval o).run P w= .ok (.value x) w:=by intro a w hk hd hc;simp only[EvK,EvD,gt,List.getElem?_cons_zero,List.getElem?_cons_succ]at hk hd;((go_simp;try rfl);done)):OKs w1 p B lst ex sp ats P kn ((d,.v x)::r) (o::q):=
 ⟨hd,⟨dp,he,fun a w A l h1 h2 h3 h4=>hr a w h1 h2 (hC w A l h3 h4)⟩,h⟩
theorem okm (dp:List Nat) {d n:Nat} {t:TypeId} {cs:Array Value} {r:List (Nat×Sp)} {o:Oper} {q:List Oper} (h:OKs w1 p B lst ex sp ats P kn r q) (he:dp.all (yD o)=true:=by rfl) (hd:o.dst=some d:=by rfl)
 (hr:∀a w,EvK a kn→EvD p lst sp a dp→(execOp a.eval o).run P w= .ok (.value (.slice (some ⟨w.heap.size,0,none⟩) n n)) (w.alloc (.cells cs t)):=by intro a w hk hd;simp only[EvK,EvD,gt,List.getElem?_cons_zero,List.getElem?_cons_succ]at hk hd;((go_simp;try rfl);done)):OKs w1 p B lst ex sp ats P kn ((d,.m n t cs)::r) (o::q):=
 ⟨hd,⟨dp,he,hr⟩,h⟩
theorem okw {k:Nat} (dp:List Nat) {f:FuncId} {vs:Array Value} (hc:∀w A,Chn w1 p B A (lst k) w→Calls P f vs w (qO w1 p B A (lst (k+1)) w)) {d:Nat} {r:List (Nat×Sp)} {o:Oper} {q:List Oper} (h:OKs w1 p B lst ex sp ats P kn r q) (hp:nT ats o k=true:=by rfl) (he:dp.all (yD o)=true:=by rfl) (hd:o.dst=some d:=by rfl)
 (hr:∀a w,EvK a kn→EvD p lst sp a dp→(execOp a.eval o).run P w= .ok (.enter f vs) w:=by intro a w hk hd;simp only[EvK,EvD,gt,List.getElem?_cons_zero,List.getElem?_cons_succ]at hk hd;((go_simp;try rfl);done)):OKs w1 p B lst ex sp ats P kn ((d,.w k)::r) (o::q):=
 ⟨hd,⟨hp,dp,he,.inl ⟨f,vs,fun a w A h1 h2 h3=>⟨hr a w h1 h2,hc w A h3⟩⟩⟩,h⟩
theorem oks {k:Nat} (dp:List Nat) {f:FuncId} {vs:Array Value} (hc:∀w A,Chn w1 p B A (lst k) w→Calls P f vs w fun e w'=>e= .returned (.string (bs (lst k)))∧w=w') {d:Nat} {r:List (Nat×Sp)} {o:Oper} {q:List Oper} (h:OKs w1 p B lst ex sp ats P kn r q) (hk:k=ats.length:=by rfl) (hp:nT ats o k=true:=by rfl) (he:dp.all (yD o)=true:=by rfl) (hd:o.dst=some d:=by rfl)
 (hr:∀a w,EvK a kn→EvD p lst sp a dp→(execOp a.eval o).run P w= .ok (.enter f vs) w:=by intro a w hk hd;simp only[EvK,EvD,gt,List.getElem?_cons_zero,List.getElem?_cons_succ]at hk hd;((go_simp;try rfl);done)):OKs w1 p B lst ex sp ats P kn ((d,.s k)::r) (o::q):=
 ⟨hd,⟨hk,hp,dp,he,f,vs,fun a w A h1 h2 h3=>⟨hr a w h1 h2,hc w A h3⟩⟩,h⟩
theorem oka {k:Nat} (j:Nat) (dp:List Nat) {dj n:Nat} {t:TypeId} {cs:Array Value} {f:FuncId} {vs:Nat→Array Value} (hj:sp[j]? =some (dj,.m n t cs)) (hc:∀w A g,Chn w1 p B A (lst k) w→AlS true (.slice (some ⟨g,0,none⟩) n n) n t cs B A w→Calls P f (vs g) w (qO w1 p B A (lst (k+1)) w)) {d:Nat} {r:List (Nat×Sp)} {o:Oper} {q:List Oper} (h:OKs w1 p B lst ex sp ats P kn r q) (hej:yD o j=true:=by rfl) (hp:nT ats o k=true:=by rfl) (he:dp.all (yD o)=true:=by rfl) (hd:o.dst=some d:=by rfl)
 (hr:∀a w g,EvK a kn→EvD p lst sp a dp→gt a dj= .slice (some ⟨g,0,none⟩) n n→(execOp a.eval o).run P w= .ok (.enter f (vs g)) w:=by intro a w g hk hd hg;simp only[EvK,EvD,gt,List.getElem?_cons_zero,List.getElem?_cons_succ]at hk hd hg;((go_simp;try rfl);done)):OKs w1 p B lst ex sp ats P kn ((d,.w k)::r) (o::q):=
 ⟨hd,⟨hp,dp,he,.inr ⟨j,dj,n,t,cs,f,vs,hj,hej,fun a w A g h1 h2 h3 h4 h5=>⟨hr a w g h1 h2 h3,hc w A g h4 h5⟩⟩⟩,h⟩
end
section
variable {w1 w:World} {p B n g:Nat} {A:Option Addr} {l:List UInt8} {cs:Array Value}
theorem AlS.U8 (s:AlS true (.slice (some ⟨g,0,none⟩) n n) n 5 cs B A w) (hc:Chn w1 p B A l w) (hl:l.length≤60000000) (xs:List UInt8) (e:cs.toList=u8s xs:=by rfl) (hn:cs.size=n*1:=by rfl) (hn1:n≤1000:=by omega):Calls Tryz.prog 134 #[pt p,.slice (some ⟨g,0,none⟩) n n] w (qO w1 p B A (l++xs) w):=s.u8 hc xs e hn (by omega)
theorem AlS.U16 (s:AlS true (.slice (some ⟨g,0,none⟩) n n) n 80 cs B A w) (hc:Chn w1 p B A l w) (hl:l.length≤60000000) (xs:List Int) (e:cs.toList=Df .u16 xs:=by rfl) (hn:cs.size=n*1:=by rfl) (hx:∀x∈xs,0≤x∧x≤65535:=by intro x hx;simp at hx;omega) (hn1:n≤1000:=by omega):Calls Tryz.prog 133 #[pt p,.slice (some ⟨g,0,none⟩) n n] w (qO w1 p B A (l++bG 2 xs) w):=s.u16 hc xs e hn hx hn1 (by omega)
theorem AlS.IP (s:AlS true (.slice (some ⟨g,0,none⟩) n n) n 53 cs B A w) (hc:Chn w1 p B A l w) (hl:l.length≤60000000) (xs:List Int) (e:cs.toList=Df .u32 xs:=by rfl) (hn:cs.size=n*1:=by rfl) (hx:∀x∈xs,0≤x∧x≤4294967295:=by intro x hx;simp at hx;omega) (hn1:n≤1000:=by omega):Calls Tryz.prog 136 #[pt p,.slice (some ⟨g,0,none⟩) n n] w (qO w1 p B A (l++bG 4 xs) w):=s.ip hc xs e hn hx hn1 (by omega)
theorem AlS.MAC (s:AlS true (.slice (some ⟨g,0,none⟩) n n) n 26 cs B A w) (hc:Chn w1 p B A l w) (hl:l.length≤60000000) (xs:List Mac) (e:cs.toList=oG xs:=by rfl) (hn:cs.size=n*6:=by rfl) (hn1:n≤1000:=by omega):Calls Tryz.prog 135 #[pt p,.slice (some ⟨g,0,none⟩) n n] w (qO w1 p B A (l++xs.flatMap cG) w):=s.mac hc xs e hn hn1 (by omega)
theorem AlS.STR (s:AlS true (.slice (some ⟨g,0,none⟩) n n) n 9 cs B A w) (hc:Chn w1 p B A l w) (hl:l.length≤60000000) (xs:List (List UInt8)) (e:cs.toList=FJ xs:=by rfl) (hn:cs.size=n*1:=by rfl) (hn1:n≤1000:=by omega) (hx:xs.flatten.length≤40000000:=by first|omega|(simp;done)|(simp;omega)):Calls Tryz.prog 189 #[pt p,.slice (some ⟨g,0,none⟩) n n] w (qO w1 p B A (l++xs.flatten) w):=s.str hc xs e hn hn1 (by omega)
theorem Chn.NUM (hc:Chn w1 p B A l w) (hl:l.length≤60000000) (n:Nat) (x:Int) (hx0:0≤x:=by omega) (hx1:x≤4294967295:=by omega) (hn:n≤4:=by omega):Calls Tryz.prog 188 #[pt p,.int .i64 n,.int .u32 x] w (qO w1 p B A (l++big n x.toNat) w):=hc.num n x hx0 hx1 hn (by omega)
theorem Chn.ZERO (hc:Chn w1 p B A l w) (hl:l.length≤60000000) (n:Nat) (hn:n≤1000:=by omega):Calls Tryz.prog 190 #[pt p,.int .i64 n] w (qO w1 p B A (l++List.replicate (n-l.length) 0) w):=hc.zero n hn (by omega)
end
def kx (n:Nat) (l:List Nat):List Nat:=(List.range n).filter fun k=> !l.contains k
theorem Kp.kx {n:Nat} {l:List Nat} {a a':Act} (h:∀k,k∉l→sl a' k=sl a k):Kp (kx n l) a a':=fun k hk=>by
 unfold Go.Proofs.YtcllkmllflheiaaGreatDoor.kx at hk
 simp at hk
 exact h k hk.2
theorem EX.nil {B:Nat} {A:Option Addr} {w:World}:EX [] B A w:=fun _ h=>nomatch h
theorem EX.cons {B g:Nat} {t:TypeId} {cs:Array Value} {r:List (Nat×TypeId×Array Value)} {A:Option Addr} {w:World} (h:AlS true (.slice (some ⟨g,0,none⟩) 0 0) 0 t cs B A w) (hr:EX r B A w):EX ((g,t,cs)::r) B A w:=fun e he=>by
 rcases List.mem_cons.1 he with rfl|he
 ·exact h
 ·exact hr e he
def jT (l0:List UInt8) (fs:List (List UInt8→List UInt8)) (k:Nat):List UInt8:=(fs.take k).foldl (fun l f=>f l) l0
theorem BU {l0:List UInt8} {fs:List (List UInt8→List UInt8)} (h0:l0.length≤50000000) (m:Nat) (hf:∀f∈fs,∀l:List UInt8,(f l).length≤l.length+m) (hm:fs.length*m≤10000000) (k:Nat):(jT l0 fs k).length≤60000000:=by
 have key:∀(gs:List (List UInt8→List UInt8)) (l:List UInt8),(∀f∈gs,∀l:List UInt8,(f l).length≤l.length+m)→(gs.foldl (fun l f=>f l) l).length≤l.length+gs.length*m:=by
  intro gs
  induction gs with
  |nil=>intro l _;simp
  |cons g r ih=>
   intro l hg
   have h1:=ih (g l) fun f hf=>hg f (by simp[hf])
   have h2:=hg g (by simp) l
   have h3:(r.length+1)*m=r.length*m+m:=by rw[Nat.add_mul,Nat.one_mul]
   simp only[List.foldl_cons,List.length_cons]
   omega
 have h1:=key (fs.take k) l0 fun f h=>hf f (List.mem_of_mem_take h)
 have h2:(fs.take k).length*m≤fs.length*m:=Nat.mul_le_mul_right m (by rw[List.length_take];omega)
 unfold jT;omega
end Go.Proofs.YtcllkmllflheiaaGreatDoor
namespace Go.Proofs.YtcllkmllflheiaaGreatDoor
open Go.RowKit Go.Proofs
attribute [local go_sem] aG aD aE aH
theorem Cp (P:Program) (w:World) (b:UInt8) (t:TypeId) (src dst e:TypeId) (hs:P.underlying src=some (.slice e)) (he:P.underlying e=some (.int .u8)) (hd:P.underlying dst=some .string):
 (convert src dst (.slice (some ⟨w.heap.size,0,none⟩) 1 1)).run P (w.alloc (.cells #[.int .u8 (b.toNat:Int)] t))= .ok (.string (bs [b])) (w.alloc (.cells #[.int .u8 (b.toNat:Int)] t)):=
 gT _ src dst e hs he hd noB _ 1 1 [b] (SlR.of_bk (n:=1) (size:=1) (S:=noB) (Bk.new w t #[.int .u8 (b.toNat:Int)]) (fun x=>x) rfl) (.inr ⟨_,_,rfl⟩)
theorem FC (n j x:Nat):big (n+j) x=big n (x/256^j)++big j x:=by
 induction j generalizing x with
 |zero=>simp[big]
 |succ j ih=>
  rw[show n+(j+1)=(n+j)+1 by omega,big,ih,big,Nat.div_div_eq_div_mul,Nat.mul_comm 256,←Nat.pow_succ,List.append_assoc]
theorem Dx (j x:Nat):big (j+1) x=UInt8.ofNat (x/256^j)::big j x:=by
 rw[show j+1=1+j by omega,FC];rfl
theorem Dq (x:Nat):Value.int .u8 (IntKind.u8.wrap (x:Int))= .int .u8 ((UInt8.ofNat x).toNat:Int):=by
 rw[IntKind.wrap_u8',UInt8.toNat_ofNat'];congr 1
theorem iO (x n:Nat) (w:World) (hx:x≤4611686018427387904) (hn:n≤1000):
 Calls Tryz.prog 145 #[.int .i64 x,.int .i64 n] w fun e w'=>e= .returned (.string (bs (big n x)))∧Fr noB w w':=by
 go_enter Tryz.func145,Tryz.ntmps145
 go_wp2_with fail
 go_loopw [0,1,5] (fun y m s wr=>∃j:Nat,j≤n∧m= .int .i64 ((n-j:Nat):Int)∧y= .int .i64 ((x/256^j:Nat):Int)∧s= .string (bs (big j x))∧Fr noB w wr) (fun _ m _ _=>(intOf m).toNat)
 case atStart=>exact⟨0,Nat.zero_le _,rfl,by simp,by simp[big,bs],Fr.refl _ _⟩
 case round=>
  obtain⟨j,hj,rfl,rfl,rfl,hfr⟩:=hrel
  by_cases hlt:j<n
  ·have hy:x/256^j≤x:=Nat.div_le_self _ _
   have Hb:=Lib.hid (Dx j x)
   have Hd:Hid (x/256^(j+1)=x/256^j/256):=by unfold Hid;rw[Nat.pow_succ,Nat.div_div_eq_div_mul]
   generalize x/256^j=y at*
   have hy2:(y:Int)≤4611686018427387904:=by omega
   have hm:(0:Int)<((n-j:Nat):Int):=by omega
   have hm2:((n-j:Nat):Int)≤1000:=by omega
   have Hm:Hid ((n-(j+1):Nat)=(n-j)-1):=by unfold Hid;omega
   generalize n-j=m at*
   have hbw:=Dq y
   have hcv:=fun w:World=>Cp Tryz.prog w (UInt8.ofNat y) 5 55 9 5 Tryz.underlying55 Tryz.underlying5 Tryz.underlying9
   generalize UInt8.ofNat y=b at*
   go_wp2_with fail
   refine⟨⟨j+1,by omega,by rw[Hm.out]<;>go_num,by rw[Hd.out]<;>go_num,by rw[Hb.out]<;>rfl,hfr.alloc _⟩,by simp[intOf]<;>omega⟩
  ·go_wp2_with fail
   go_ret
   obtain rfl:j=n:=by omega
   exact⟨rfl,hfr⟩
theorem lI (x:Nat) (w:World) (hx:x≤4294967295):
 Calls Tryz.prog 93 #[.int .u32 x] w fun e w'=>e= .returned (.string (bs (big 4 x)))∧Fr noB w w':=by
 go_enter Tryz.func93,Tryz.ntmps93
 go_wp2_with fail
 refine(iO x 4 _ (by omega) (by omega)).mono ?_
 rintro e w1 ⟨rfl,h1⟩
 go_wp2_with fail
 go_ret
 exact⟨rfl,h1⟩
def xQ (m:Mac):Value:= .agg #[.int .u8 (m.1.toNat:Int),.int .u8 (m.2.1.toNat:Int),.int .u8 (m.2.2.1.toNat:Int),.int .u8 (m.2.2.2.1.toNat:Int),.int .u8 (m.2.2.2.2.1.toNat:Int),.int .u8 (m.2.2.2.2.2.toNat:Int)]
theorem uD (m:Mac) (w:World):
 Calls Tryz.prog 146 #[xQ m] w fun e w'=>e= .returned (.string (bs (cG m)))∧Fr noB w w':=by
 obtain⟨m0,m1,m2,m3,m4,m5⟩:=m
 unfold xQ
 simp only
 have hbk:=Bk.new w 26 #[.int .u8 (m0.toNat:Int),.int .u8 (m1.toNat:Int),.int .u8 (m2.toNat:Int),.int .u8 (m3.toNat:Int),.int .u8 (m4.toNat:Int),.int .u8 (m5.toNat:Int)]
 go_enter Tryz.func146,Tryz.ntmps146
 go_wp2_with fail
 go_loopw [3,4] (fun s i wr=>∃j:Nat,j≤6∧i= .int .i64 j∧s= .string (bs ((cG (m0,m1,m2,m3,m4,m5)).take j))∧Fr noB (w.alloc (.cells #[.int .u8 (m0.toNat:Int),.int .u8 (m1.toNat:Int),.int .u8 (m2.toNat:Int),.int .u8 (m3.toNat:Int),.int .u8 (m4.toNat:Int),.int .u8 (m5.toNat:Int)] 26)) wr) (fun _ i _=>6-(intOf i).toNat)
 case atStart=>exact⟨0,by omega,rfl,rfl,Fr.refl _ _⟩
 case round=>
  obtain⟨j,hj,rfl,rfl,hfr⟩:=hrel
  by_cases hlt:j<6
  ·have hc:∃b:UInt8,(cG (m0,m1,m2,m3,m4,m5))[j]? =some b∧wr.cell? ⟨w.heap.size,j,none⟩=some (.int .u8 (b.toNat:Int)):=by
    have hb1:=(hbk.keep hfr (fun x=>x)).cell j
    match j,hlt with
    |0,_=>exact⟨m0,rfl,hb1⟩
    |1,_=>exact⟨m1,rfl,hb1⟩
    |2,_=>exact⟨m2,rfl,hb1⟩
    |3,_=>exact⟨m3,rfl,hb1⟩
    |4,_=>exact⟨m4,rfl,hb1⟩
    |5,_=>exact⟨m5,rfl,hb1⟩
   obtain⟨b,hb,hc⟩:=hc
   have Hs:Hid ((cG (m0,m1,m2,m3,m4,m5)).take (j+1)=(cG (m0,m1,m2,m3,m4,m5)).take j++[b]):=by
    unfold Hid;rw[List.take_add_one,hb];rfl
   have hl6:((cG (m0,m1,m2,m3,m4,m5)).take j).length≤6:=by rw[List.length_take];omega
   clear hb
   generalize(cG (m0,m1,m2,m3,m4,m5)).take j=s at*
   have hcv:=Cp Tryz.prog wr b 5 55 9 5 Tryz.underlying55 Tryz.underlying5 Tryz.underlying9
   go_wp2_with fail
   refine⟨⟨j+1,by omega,by go_num,by rw[Hs.out],hfr.alloc _⟩,by simp[intOf];omega⟩
  ·go_wp2_with fail
   go_ret
   obtain rfl:j=6:=by omega
   exact⟨rfl,((Fr.refl _ _).alloc _).trans hfr⟩
theorem xA (l:List UInt8) (n:Nat) (w:World) (hl:l.length≤1000000000) (hn:n≤1000):
 Calls Tryz.prog 149 #[.string (bs l),.int .i64 n] w fun e w'=>e= .returned (.string (bs (l++List.replicate (n-l.length) 0)))∧Fr noB w w':=by
 by_cases h:n≤l.length
 ·go_enter Tryz.func149,Tryz.ntmps149
  go_wp2_with fail
  go_ret
  exact⟨by simp[show n-l.length=0 by omega],Fr.refl _ _⟩
 ·obtain⟨i0,hi0,hz0,hz1,hz2⟩:=info_parts kD
  have hk:((n:Int)-(l.length:Int))=((n-l.length:Nat):Int):=by omega
  have hk1:n-l.length≤1000:=by omega
  generalize hkk:n-l.length=k at*
  have Hk:=Lib.hid hkk
  clear hkk
  have hmk:=pD (P:=Tryz.prog) 55 5 i0 Tryz.underlying55 hi0 hz0 hz1 hz2 k (by omega) w
  have hcv:=gT (P:=Tryz.prog) (w.alloc (.cells (List.replicate k (Value.int .u8 0)).toArray 5)) 55 9 5 Tryz.underlying55 Tryz.underlying5 Tryz.underlying9 noB (some ⟨w.heap.size,0,none⟩) k k (List.replicate k 0)
   (by
    have h:=SlR.of_bk (n:=k) (size:=1) (S:=noB) (Bk.new w 5 (List.replicate k (Value.int .u8 0)).toArray) (fun x=>x) (by simp)
    rw[CH];simpa using h) (.inr ⟨_,_,rfl⟩)
  generalize hwa:w.alloc (.cells (List.replicate k (Value.int .u8 0)).toArray 5)=wa at*
  have hfa:Fr noB w wa:=by rw[←hwa];exact(Fr.refl _ _).alloc _
  clear hwa
  have hm0:0≤(k:Int):=by omega
  go_enter Tryz.func149,Tryz.ntmps149
  go_wp2_with fail
  go_ret
  exact⟨rfl,hfa⟩
end Go.Proofs.YtcllkmllflheiaaGreatDoor
namespace Go.Proofs.YtcllkmllflheiaaGreatDoor
open Go.RowKit Go.Proofs
attribute [local go_sem] aG aD cV aF
def mM (tm fm:Mac) (ty:Nat) (ld:List UInt8):List UInt8:=cG tm++cG fm++big 2 ty++ld
def lA (tm fm:Mac) (ty:Nat) (ld:List UInt8):List UInt8:=mM tm fm ty ld++List.replicate (60-(mM tm fm ty ld).length) 0
def eG (tm fm:Mac) (ty:Nat) (ld:List UInt8):List UInt8×Nat:=if ty<1536 then([],3)else if 1500<ld.length then([],7)else(lA tm fm ty ld,0)
theorem Fs (tm fm:Mac) (ty:Nat) (ld:List UInt8):([]++List.flatMap cG [tm,fm]++bG 2 [(ty:Int)]++List.flatten [ld])=mM tm fm ty ld:=by
 simp[mM,bG]
theorem nC (ty:Nat) (ld:List UInt8) (m0 m1 m2 m3 m4 m5 n0 n1 n2 n3 n4 n5:UInt8) (w:World) (hty:ty<65536) (hld:ld.length≤9223372036854775807):
 Calls Tryz.prog 138 #[.agg #[.int .u8 (m0.toNat:Int),.int .u8 (m1.toNat:Int),.int .u8 (m2.toNat:Int),.int .u8 (m3.toNat:Int),.int .u8 (m4.toNat:Int),.int .u8 (m5.toNat:Int),.int .u8 (n0.toNat:Int),.int .u8 (n1.toNat:Int),.int .u8 (n2.toNat:Int),.int .u8 (n3.toNat:Int),.int .u8 (n4.toNat:Int),.int .u8 (n5.toNat:Int),.int .u16 (ty:Int),.string (bs ld)]] w (eL (eG (m0,m1,m2,m3,m4,m5) (n0,n1,n2,n3,n4,n5) ty ld) w):=by
 have hpa:=(Bk.new w 118 #[.int .u8 (m0.toNat:Int),.int .u8 (m1.toNat:Int),.int .u8 (m2.toNat:Int),.int .u8 (m3.toNat:Int),.int .u8 (m4.toNat:Int),.int .u8 (m5.toNat:Int),.int .u8 (n0.toNat:Int),.int .u8 (n1.toNat:Int),.int .u8 (n2.toNat:Int),.int .u8 (n3.toNat:Int),.int .u8 (n4.toNat:Int),.int .u8 (n5.toNat:Int),.int .u16 (ty:Int),.string (bs ld)]).alloc (.cells #[.slice none 0 0] 200)
 have hbw:=Bk.new (w.alloc (.cells #[.int .u8 (m0.toNat:Int),.int .u8 (m1.toNat:Int),.int .u8 (m2.toNat:Int),.int .u8 (m3.toNat:Int),.int .u8 (m4.toNat:Int),.int .u8 (m5.toNat:Int),.int .u8 (n0.toNat:Int),.int .u8 (n1.toNat:Int),.int .u8 (n2.toNat:Int),.int .u8 (n3.toNat:Int),.int .u8 (n4.toNat:Int),.int .u8 (n5.toNat:Int),.int .u16 (ty:Int),.string (bs ld)] 118)) 200 #[.slice none 0 0]
 rw[show(w.alloc (.cells #[.int .u8 (m0.toNat:Int),.int .u8 (m1.toNat:Int),.int .u8 (m2.toNat:Int),.int .u8 (m3.toNat:Int),.int .u8 (m4.toNat:Int),.int .u8 (m5.toNat:Int),.int .u8 (n0.toNat:Int),.int .u8 (n1.toNat:Int),.int .u8 (n2.toNat:Int),.int .u8 (n3.toNat:Int),.int .u8 (n4.toNat:Int),.int .u8 (n5.toNat:Int),.int .u16 (ty:Int),.string (bs ld)] 118)).heap.size=w.heap.size+1 by simp]at hbw
 have hpa0:=(Bk.new w 118 #[.int .u8 (m0.toNat:Int),.int .u8 (m1.toNat:Int),.int .u8 (m2.toNat:Int),.int .u8 (m3.toNat:Int),.int .u8 (m4.toNat:Int),.int .u8 (m5.toNat:Int),.int .u8 (n0.toNat:Int),.int .u8 (n1.toNat:Int),.int .u8 (n2.toNat:Int),.int .u8 (n3.toNat:Int),.int .u8 (n4.toNat:Int),.int .u8 (n5.toNat:Int),.int .u16 (ty:Int),.string (bs ld)]).cells
 go_enter Tryz.func138,Tryz.ntmps138
 by_cases h1:ty<1536
 ·have hs:Hid (eG (m0,m1,m2,m3,m4,m5) (n0,n1,n2,n3,n4,n5) ty ld=([],3)):=by unfold Hid eG;rw[if_pos h1]
  have b1:(ty:Int)<1536:=by omega
  clear h1
  go_wp2_with fail
  go_ret2
  exact⟨by rw[hs.out];rfl,(Fr.refl _ _).alloc _⟩
 have b1:¬(ty:Int)<1536:=by omega
 by_cases h2:1500<ld.length
 ·have hs:Hid (eG (m0,m1,m2,m3,m4,m5) (n0,n1,n2,n3,n4,n5) ty ld=([],7)):=by unfold Hid eG;rw[if_neg h1,if_pos h2]
  have b2:1500<(ld.length:Int):=by omega
  clear h1 h2
  go_wp2_with fail
  go_ret2
  exact⟨by rw[hs.out];rfl,(Fr.refl _ _).alloc _⟩
 have b2:¬1500<(ld.length:Int):=by omega
 have hs:Hid (eG (m0,m1,m2,m3,m4,m5) (n0,n1,n2,n3,n4,n5) ty ld=(lA (m0,m1,m2,m3,m4,m5) (n0,n1,n2,n3,n4,n5) ty ld,0)):=by unfold Hid eG;rw[if_neg h1,if_neg h2]
 have hl2:ld.length≤1500:=by omega
 clear h1 h2
 go_upto_region 5 with fail
 go_cut [4]from 5 to 15 (fun q wx=>q= .pointer (some ⟨w.heap.size+1,0,none⟩)∧wx=(w.alloc (.cells #[.int .u8 (m0.toNat:Int),.int .u8 (m1.toNat:Int),.int .u8 (m2.toNat:Int),.int .u8 (m3.toNat:Int),.int .u8 (m4.toNat:Int),.int .u8 (m5.toNat:Int),.int .u8 (n0.toNat:Int),.int .u8 (n1.toNat:Int),.int .u8 (n2.toNat:Int),.int .u8 (n3.toNat:Int),.int .u8 (n4.toNat:Int),.int .u8 (n5.toNat:Int),.int .u16 (ty:Int),.string (bs ld)] 118)).alloc (.cells #[.slice none 0 0] 200))
 case first=>
  go_wp2_with fail
  go_meet
  case rel=>exact⟨rfl,rfl⟩
 case rest=>
 obtain⟨rfl,rfl⟩:=hcut
 clear hpa0
 go_upto_region 6 with fail
 have hf0:Fr noB w ((w.alloc (.cells #[.int .u8 (m0.toNat:Int),.int .u8 (m1.toNat:Int),.int .u8 (m2.toNat:Int),.int .u8 (m3.toNat:Int),.int .u8 (m4.toNat:Int),.int .u8 (m5.toNat:Int),.int .u8 (n0.toNat:Int),.int .u8 (n1.toNat:Int),.int .u8 (n2.toNat:Int),.int .u8 (n3.toNat:Int),.int .u8 (n4.toNat:Int),.int .u8 (n5.toNat:Int),.int .u16 (ty:Int),.string (bs ld)] 118)).alloc (.cells #[.slice none 0 0] 200)):=((Fr.refl _ _).alloc _).alloc _
 have hsz:((w.alloc (.cells #[.int .u8 (m0.toNat:Int),.int .u8 (m1.toNat:Int),.int .u8 (m2.toNat:Int),.int .u8 (m3.toNat:Int),.int .u8 (m4.toNat:Int),.int .u8 (m5.toNat:Int),.int .u8 (n0.toNat:Int),.int .u8 (n1.toNat:Int),.int .u8 (n2.toNat:Int),.int .u8 (n3.toNat:Int),.int .u8 (n4.toNat:Int),.int .u8 (n5.toNat:Int),.int .u16 (ty:Int),.string (bs ld)] 118)).alloc (.cells #[.slice none 0 0] 200)).heap.size=w.heap.size+2:=by simp
 generalize(w.alloc (.cells #[.int .u8 (m0.toNat:Int),.int .u8 (m1.toNat:Int),.int .u8 (m2.toNat:Int),.int .u8 (m3.toNat:Int),.int .u8 (m4.toNat:Int),.int .u8 (m5.toNat:Int),.int .u8 (n0.toNat:Int),.int .u8 (n1.toNat:Int),.int .u8 (n2.toNat:Int),.int .u8 (n3.toNat:Int),.int .u8 (n4.toNat:Int),.int .u8 (n5.toNat:Int),.int .u16 (ty:Int),.string (bs ld)] 118)).alloc (.cells #[.slice none 0 0] 200)=w1 at*
 have hwr0:=Wr.zero hbw
 have hN:=BU (l0:=([]:List UInt8)) (fs:=[(· ++List.flatMap cG [(m0,m1,m2,m3,m4,m5),(n0,n1,n2,n3,n4,n5)]),(· ++bG 2 [(ty:Int)]),(· ++List.flatten [ld]),fun l=>l++List.replicate (60-l.length) 0]) (by simp) 2000000 (by intro f hf l;simp at hf;rcases hf with rfl|rfl|rfl|rfl<;>simp[aN,cG,aH]<;>omega) (by simp)
 refine jK (n:=33) (w1:=w1) (p:=(w.heap.size+1)) (lst:=jT ([]:List UInt8) _) (ats:=[6,10,14,15]) (kn:=[(4,pt (w.heap.size+1)),(1,.pointer (some ⟨w.heap.size,0,none⟩))]) (ex:=[]) (sp:=[(16,.v (pt (w.heap.size+1))),(17,.v (.pointer (some ⟨w.heap.size,0,none⟩))),(18,.v (.agg #[.int .u8 (m0.toNat:Int),.int .u8 (m1.toNat:Int),.int .u8 (m2.toNat:Int),.int .u8 (m3.toNat:Int),.int .u8 (m4.toNat:Int),.int .u8 (m5.toNat:Int)])),(19,.v (.pointer (some ⟨w.heap.size,6,none⟩))),(20,.v (.agg #[.int .u8 (n0.toNat:Int),.int .u8 (n1.toNat:Int),.int .u8 (n2.toNat:Int),.int .u8 (n3.toNat:Int),.int .u8 (n4.toNat:Int),.int .u8 (n5.toNat:Int)])),(21,.m 2 26 #[.int .u8 (m0.toNat:Int),.int .u8 (m1.toNat:Int),.int .u8 (m2.toNat:Int),.int .u8 (m3.toNat:Int),.int .u8 (m4.toNat:Int),.int .u8 (m5.toNat:Int),.int .u8 (n0.toNat:Int),.int .u8 (n1.toNat:Int),.int .u8 (n2.toNat:Int),.int .u8 (n3.toNat:Int),.int .u8 (n4.toNat:Int),.int .u8 (n5.toNat:Int)]),(22,.w 0),(23,.v (.pointer (some ⟨w.heap.size,12,none⟩))),(24,.v (.int .u16 (ty:Int))),(25,.m 1 80 #[.int .u16 (ty:Int)]),(26,.w 1),(27,.v (.pointer (some ⟨w.heap.size,13,none⟩))),(28,.v (.string (bs ld))),(29,.m 1 9 #[.string (bs ld)]),(30,.w 2),(31,.w 3),(32,.s 4),(2,.v (.string (bs (jT ([]:List UInt8) [(· ++List.flatMap cG [(m0,m1,m2,m3,m4,m5),(n0,n1,n2,n3,n4,n5)]),(· ++bG 2 [(ty:Int)]),(· ++List.flatten [ld]),fun l=>l++List.replicate (60-l.length) 0] 4)))),(3,.v (.int .i64 0))]) ⟨rfl,rfl⟩ (Chn.start0 hwr0 rfl) .nil (by simp[sl])
  (okv []<|okv []<|okl [1] (fun _ _ _ c x=>((hpa).keep c.fr (by unfold aJ;have:=c.lt;omega)).cells)<|okv []<|okl [3] (fun _ _ _ c x=>((hpa).keep c.fr (by unfold aJ;have:=c.lt;omega)).cells)<|okm [2,4]<|oka 5 [0] rfl (fun _ _ _ c s=>s.MAC c (hN 0) [(m0,m1,m2,m3,m4,m5),(n0,n1,n2,n3,n4,n5)])<|okv []<|okl [7] (fun _ _ _ c x=>((hpa).keep c.fr (by unfold aJ;have:=c.lt;omega)).cells)<|okm [8]<|oka 9 [6] rfl (fun _ _ _ c s=>s.U16 c (hN 1) [(ty:Int)])<|okv []<|okl [11] (fun _ _ _ c x=>((hpa).keep c.fr (by unfold aJ;have:=c.lt;omega)).cells)<|okm [12]<|oka 13 [10] rfl (fun _ _ _ c s=>s.STR c (hN 2) [ld])<|okw [14] (fun _ _ c=>c.ZERO (hN 3) 60)<|oks [15] (fun _ _ c=>kH _ _ _ _ c.wr)<|okv [16]<|okv []<|okn) ?_ (by kernel_rfl) (by kernel_rfl) (by kernel_rfl) (by kernel_rfl)
 intro a' w3 A' hs' hk' hv' hch _
 rw[Kp.eq_put (n:=33) [16,17,18,19,20,21,22,23,24,25,26,27,28,29,30,31,32,2,3] ⟨rfl,rfl⟩ hs' (Kp.kx hk':Kp (kx 33 [16,17,18,19,20,21,22,23,24,25,26,27,28,29,30,31,32,2,3]) _ _) rfl rfl]
 simp only[List.foldl,Act.put,List.setIfInBounds_toArray,List.set_cons_zero,List.set_cons_succ]
 rw[(hv' 17 2 _ rfl:sl a' 2= .string (bs (jT ([]:List UInt8) [(· ++List.flatMap cG [(m0,m1,m2,m3,m4,m5),(n0,n1,n2,n3,n4,n5)]),(· ++bG 2 [(ty:Int)]),(· ++List.flatten [ld]),fun l=>l++List.replicate (60-l.length) 0] 4)))]
 rw[(hv' 18 3 _ rfl:sl a' 3= .int .i64 0)]
 have hby:jT [] [(· ++List.flatMap cG [(m0,m1,m2,m3,m4,m5),(n0,n1,n2,n3,n4,n5)]),(· ++bG 2 [(ty:Int)]),(· ++List.flatten [ld]),fun l=>l++List.replicate (60-l.length) 0] 4=lA (m0,m1,m2,m3,m4,m5) (n0,n1,n2,n3,n4,n5) ty ld:=by
  have h3:jT [] [(· ++List.flatMap cG [(m0,m1,m2,m3,m4,m5),(n0,n1,n2,n3,n4,n5)]),(· ++bG 2 [(ty:Int)]),(· ++List.flatten [ld]),fun l=>l++List.replicate (60-l.length) 0] 3=mM (m0,m1,m2,m3,m4,m5) (n0,n1,n2,n3,n4,n5) ty ld:=Fs _ _ _ _
  rw[show jT [] [(· ++List.flatMap cG [(m0,m1,m2,m3,m4,m5),(n0,n1,n2,n3,n4,n5)]),(· ++bG 2 [(ty:Int)]),(· ++List.flatten [ld]),fun l=>l++List.replicate (60-l.length) 0] 4=jT [] [(· ++List.flatMap cG [(m0,m1,m2,m3,m4,m5),(n0,n1,n2,n3,n4,n5)]),(· ++bG 2 [(ty:Int)]),(· ++List.flatten [ld]),fun l=>l++List.replicate (60-l.length) 0] 3++List.replicate (60-(jT [] [(· ++List.flatMap cG [(m0,m1,m2,m3,m4,m5),(n0,n1,n2,n3,n4,n5)]),(· ++bG 2 [(ty:Int)]),(· ++List.flatten [ld]),fun l=>l++List.replicate (60-l.length) 0] 3).length) 0 from rfl,h3];rfl
 rw[hby]
 have hfr:=hf0.trans' hch.fr (fun b hb e=>by unfold aJ at e;omega)
 skip
 clear hby
 generalize lA (m0,m1,m2,m3,m4,m5) (n0,n1,n2,n3,n4,n5) ty ld=R at*
 go_wp2_with fail
 go_ret2
 exact⟨by rw[hs.out];rfl,hfr⟩
end Go.Proofs.YtcllkmllflheiaaGreatDoor
