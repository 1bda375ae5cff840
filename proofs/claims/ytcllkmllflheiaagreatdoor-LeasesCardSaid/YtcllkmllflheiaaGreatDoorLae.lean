/- Parts of the walk; written by programs, merged. -/
import Derived.Test.YtcllkmllflheiaaGreatDoorLad
import Derived.Deep.QuietTactic
import Derived.BigQuiet
set_option linter.unusedSimpArgs false
set_option linter.unusedVariables false
set_option maxRecDepth 20000
set_option maxHeartbeats 8000000
namespace Go.Proofs.YtcllkmllflheiaaGreatDoor
open Go.RowKit Go.Proofs
section
variable {x:Code} {a:Act} {id:Nat} {P:Program} {opl:List Oper} {Q:Exit→Act→World→Prop} {n:Nat} {u:Nat→Value} {l:List (Nat×Value)} {w:World} {o:Oper} {v:Value} {d k:Nat} {c:Bool} {S:World→Prop} {brk t:List Nat}
theorem dT {r:Result Next} {f:FuncId} {xs:Array Value} {R:Ending→World→Prop} (hc:Calls P f xs w R) (h:∀e w',R e w'→∃v,e= .returned v∧wdr P opl Q S brk false t (F n u ((d,v)::l)) w') (hk:Nat.blt k 1000=true:=by rfl) (h0:kdO opl k=2:=by rfl) (ho:opl[k]? =some o:=by rfl) (hw:Region.wanted o (yielded opl.toArray (F n u l).tmps)=true:=by first|exact aL rfl|exact wg rfl rfl rfl|(refine aM rfl (aI (Lib.hid rfl) rfl) ?_;go_simp<;>fail)) (hd:o.dst=some d:=by rfl)
 (hb:(c&& !(brk.contains k))=false:=by rfl) (hv:(execOp (F n u l).eval o).run P w=r:=by go_simp;((try with_reducible rfl);done)) (hr:r= .ok (.enter f xs) w:=by rfl):wdr P opl Q S brk c (k::t) (F n u l) w:=by
 rw[aR,plN hk h0]
 refine EA (bY ho) hw hb fun K hK=> ?_
 unfold Oper.wp
 rw[hv,hr]
 refine hc.mono fun e w' hr'=> ?_
 obtain⟨v,rfl,hφ⟩:=h e w' hr'
 show K ((F n u l).put o.dst v) w'
 rw[hd,eJ]
 refine hK _ _ ?_
 rw[←aR];exact hφ
theorem dA2 {r:Result Next} {cs:Array Value} {ty:TypeId} (hK:Kp0 S) (hS:S w) (h:∀w2,S w2→Bk w2 w.heap.size ty cs→Fr noB w w2→wdr P opl Q S brk true t (F n u ((d,v)::l)) w2) (hk:Nat.blt k 1000=true:=by rfl) (h0:kdO opl k=2:=by rfl) (ho:opl[k]? =some o:=by rfl) (hw:Region.wanted o (yielded opl.toArray (F n u l).tmps)=true:=by first|exact aL rfl|exact wg rfl rfl rfl|(refine aM rfl (aI (Lib.hid rfl) rfl) ?_;go_simp<;>fail)) (hd:o.dst=some d:=by rfl)
 (hb:(c&& !(brk.contains k))=true:=by rfl) (hv:(execOp (F n u l).eval o).run P w=r:=by go_simp;((try with_reducible rfl);done)) (hr:r= .ok (.value v) (w.alloc (.cells cs ty)):=by rfl):wdr P opl Q S brk c (k::t) (F n u l) w:=by
 rw[aR,plN hk h0]
 refine E9 (bY ho) hw hb fun K hK'=> ?_
 unfold Oper.wp
 rw[hv,hr]
 have hf:Fr noB w (w.alloc (.cells cs ty)):=(Fr.refl _ _).alloc _
 have hs2:=hK.kp _ _ hS hf
 show K ((F n u l).put o.dst v) _
 rw[hd,eJ]
 refine hK' _ _ hs2 fun _=> ?_
 rw[←aR];exact h _ hs2 (Bk.new _ _ _) hf
theorem dZ {ty t':TypeId} {x y:Operand} {g:Nat} {cs cells:Array Value} {vx vy:Value} (h:∀w',Bk w' g t' cells→Fr (aJ g) w w'→wdr P opl Q S brk false t (F n u l) w') (hk:Nat.blt k 1000=true:=by rfl) (h0:kdO opl k=2:=by rfl) (ho':opl[k]? =some o:=by rfl) (hw:Region.wanted o (yielded opl.toArray (F n u l).tmps)=true:=by first|exact aL rfl|exact wg rfl rfl rfl|(refine aM rfl (aI (Lib.hid rfl) rfl) ?_;go_simp<;>fail)) (ho:o.op= .store ty x y:=by rfl) (hd:o.dst=none:=by rfl)
 (hb:(c&& !(brk.contains k))=false:=by rfl) (hx:(F n u l).eval x=vx:=by go_simp;((try with_reducible rfl);done)) (hx':vx= .pointer (some ⟨g,0,none⟩):=by rfl) (hy:(F n u l).eval y=vy:=by go_simp;((try with_reducible rfl);done)) (hy':vy= .agg cells:=by rfl)
 (hB:Bk w g t' cs:=by assumption) (hs:cells.size=cs.size:=by rfl) (hi:(P.info? ty).map (·.size)=some cells.size:=by kernel_rfl) (h1:cells.all (·.oneCell')=true:=by simp[Value.oneCell']):wdr P opl Q S brk c (k::t) (F n u l) w:=by
 rw[aR,plN hk h0]
 refine EA (bY ho') hw hb fun K hK=> ?_
 refine eH ty x y ho g t' cs cells (hx.trans hx') (hy.trans hy') hB hs hi h1 fun w' h2 h3=> ?_
 rw[hd]
 refine hK _ _ ?_
 rw[←aR];exact h w' h2 h3
theorem sP {rest:List Oper} {base size bytes:Nat} {e ty:TypeId} {z:Value} {A0 A:Option Addr} {k0 cap m cc:Nat} {xs news:List Value} {R:Nat→Prop} {x y:Operand} {vx vy:Value} (hown:w.ownsRow base e size (.slice A0 k0 cap) k0 xs) (hr:SlR w R size A m news) (h1:∀u∈news,u.oneCell'=true) (ht:P.underlying ty=some (.slice e)) (h63:k0+m≤maxLen) (hbytes:(k0+m)*bytes≤140737488355328) (hbase:base≤w.heap.size)
 (h:∀A' cap' w',Apd w w' base e size A0 A' cap' (k0+m) (xs++news)→wl P opl Q rest (F n u ((d,.slice A' (k0+m) cap')::l)) w') (hg:o.guard=none:=by rfl) (ho:o.op= .call {callee:= .builtin .append,args:= #[x,y],argTypes:= #[ty,ty]}:=by rfl) (hd:o.dst=some d:=by rfl)
 (hi:(P.info? e).map (fun i=>(i.zero,i.size,i.bytes))=some (some z,size,bytes):=by kernel_rfl) (hzs:z.cells.size=size:=by rfl) (hsz:0<size:=by decide)
 (hx:(F n u l).eval x=vx:=by go_simp;((try with_reducible rfl);done)) (hx':vx= .slice A0 k0 cap:=by rfl) (hy:(F n u l).eval y=vy:=by go_simp;((try with_reducible rfl);done)) (hy':vy= .slice A m cc:=by rfl):wl P opl Q (o::rest) (F n u l) w:=by
 obtain⟨i,hi,hz,hs,hby⟩:=info_parts hi
 rw[cJ]
 refine eU hg x y ty ho base e i z size bytes ht hi hz hs hby hzs hsz A0 k0 cap xs (hx.trans hx') hown R A m cc news (hy.trans hy') hr h1 h63 hbytes hbase fun A' cap' w' ha=> ?_
 rw[hd,eJ,←cJ]
 exact h A' cap' w' ha
theorem sK {rest:List Oper} {r:Result Next} {g i:Nat} {t:TypeId} {cs:Array Value} (cs':Array Value) (hB:Bk w g t cs) (h:∀w',Bk w' g t cs'→Fr (aJ g) w w'→wl P opl Q rest (F n u l) w') (hw:Region.wanted o (yielded opl.toArray (F n u l).tmps)=true:=by first|exact aL rfl|exact wg rfl rfl rfl|(refine aM rfl (aI (Lib.hid rfl) rfl) ?_;go_simp<;>fail)) (hd:o.dst=none:=by rfl)
 (hv:(∀j,w.cell? ⟨g,j,none⟩=cs[j]?)→(∀j,w.frozen? ⟨g,j,none⟩=false)→(execOp (F n u l).eval o).run P w=r:=by intro _ _;go_simp;((try with_reducible rfl);done)) (hr:r= .ok .skip (w.setCell ⟨g,i,none⟩ v):=by rfl) (he:cs.setIfInBounds i v=cs':=by rfl):wl P opl Q (o::rest) (F n u l) w:=
 sS hw hd (hv hB.cells hB.frees) hr (h _ (he▸hB.set i v) ((Fr.refl (aJ g) w).setCell (p:=⟨g,i,none⟩) (fun _=>rfl) v))
theorem sKm {rest:List Oper} {g i:Nat} {t ty:TypeId} {x y:Operand} {cs cells:Array Value} {vx vy:Value} (cs':Array Value) (hB:Bk w g t cs) (h:∀w',Bk w' g t cs'→Fr (aJ g) w w'→wl P opl Q rest (F n u l) w') (hg:o.guard=none:=by rfl) (ho:o.op= .store ty x y:=by rfl) (hd:o.dst=none:=by rfl)
 (hx:(F n u l).eval x=vx:=by go_simp;((try with_reducible rfl);done)) (hx':vx= .pointer (some ⟨g,i,none⟩):=by rfl) (hy:(F n u l).eval y=vy:=by go_simp;((try with_reducible rfl);done)) (hy':vy= .agg cells:=by rfl) (hs:Nat.ble (i+cells.size) cs.size=true:=by rfl) (hi:(P.info? ty).map (·.size)=some cells.size:=by kernel_rfl) (h1:cells.all (·.oneCell')=true:=by simp[Value.oneCell'])
 (he:cs'.toList=cs.toList.take i++(cells.toList++cs.toList.drop (i+cells.size)):=by rfl):wl P opl Q (o::rest) (F n u l) w:=by
 have hs:i+cells.size≤cs.size:=by simpa using hs
 rw[cJ]
 refine wpList_plain hg fun K hK=>wp_store_mid ty x y ho g i cells (hx.trans hx') (hy.trans hy') (fun j hj=>⟨by rw[hB.cell (i+j),Array.getElem?_eq_getElem (by omega)];rfl,hB.free _⟩) hi h1 (hK _ _ ?_)
 obtain⟨c2,b1,b2,b3⟩:=Bk.setMany cells.toList i w cs hB (by simpa using hs)
 have hl:(cs.toList.take i).length=i:=by rw[List.length_take,Array.length_toList];omega
 have hc:cells.toList.length=cells.size:=Array.length_toList
 have e:c2=cs':=Array.ext_getElem? fun j=>by
  rw[b3 j,←Array.getElem?_toList (xs:=cs'),he]
  by_cases h1:j<i
  ·rw[if_neg (by omega),List.getElem?_append_left (by omega),List.getElem?_take_of_lt h1,Array.getElem?_toList]
  ·rw[List.getElem?_append_right (by omega),hl]
   by_cases h2:j<i+cells.toList.length
   ·rw[if_pos ⟨by omega,h2⟩,List.getElem?_append_left (by omega)]
   ·rw[if_neg (by omega),List.getElem?_append_right (by omega),List.getElem?_drop,Array.getElem?_toList,show i+cells.size+(j-i-cells.toList.length)=j by omega]
 subst e
 rw[hd,HW,←cJ]
 exact h _ b1 (kE (S:=aJ g) (fun _=>rfl) _ _ _ (Fr.refl (aJ g) w))
theorem cY {α:Type} {x:Code} {K:Act→World→Prop} (ls:α→List (Nat×Value)) (Φ:α→World→Prop) (h1:cw P x (Exit.then (fun a w'=>∃g,(∃u',a=F n u' (ls g))∧Φ g w') Q) (F n u l) w) (h2:∀g u' w',Φ g w'→K (F n u' (ls g)) w'):cw P x (Exit.then K Q) (F n u l) w:=by
 rw[fC]at h1⊢
 refine wp_mono h1 fun e a w hq=> ?_
 cases e with
 |normal=>obtain⟨g,⟨u',rfl⟩,hφ⟩:=hq;exact h2 g u' w hφ
 |_=>exact hq
def orP (k:Value→Prop) (kp:List PanicEntry→Prop):Ending→Prop
 | .returned v=>k v
 | .panicked c=>kp c
 | .outgrown=>False
theorem sZ {rest:List Oper} {r:Result Next} {f:FuncId} {xs:Array Value} {R:Ending→World→Prop} (hc:Calls P f xs w R) (h:∀e w',R e w'→orP (fun v=>wl P opl Q rest (F n u ((d,v)::l)) w') (fun c=>Q (.panic c) (F n u l) w') e) (hw:Region.wanted o (yielded opl.toArray (F n u l).tmps)=true:=by first|exact aL rfl|exact wg rfl rfl rfl|(refine aM rfl (aI (Lib.hid rfl) rfl) ?_;go_simp<;>fail)) (hd:o.dst=some d:=by rfl)
 (hv:(execOp (F n u l).eval o).run P w=r:=by go_simp;((try with_reducible rfl);done)) (hr:r= .ok (.enter f xs) w:=by rfl):wl P opl Q (o::rest) (F n u l) w:=by
 rw[cJ]
 unfold wpList
 rw[if_pos hw]
 left
 unfold Oper.wp
 rw[hv,hr]
 refine hc.mono fun e w' hr'=> ?_
 have h2:=h e w' hr'
 cases e with
 |returned v=>show wpList P opl.toArray Q rest ((F n u l).put o.dst v) w';rw[hd,eJ,←cJ];exact h2
 |panicked c=>exact h2
 |outgrown=>exact h2.elim
theorem dP {r:Result Next} {f:FuncId} {xs:Array Value} {R:Ending→World→Prop} (hc:Calls P f xs w R) (h:∀e w',R e w'→orP (fun v=>wdr P opl Q S brk false t (F n u ((d,v)::l)) w') (fun c=>Q (.panic c) (F n u l) w') e) (hk:Nat.blt k 1000=true:=by rfl) (h0:kdO opl k=2:=by rfl) (ho:opl[k]? =some o:=by rfl) (hw:Region.wanted o (yielded opl.toArray (F n u l).tmps)=true:=by first|exact aL rfl|exact wg rfl rfl rfl|(refine aM rfl (aI (Lib.hid rfl) rfl) ?_;go_simp<;>fail)) (hd:o.dst=some d:=by rfl)
 (hb:(c&& !(brk.contains k))=false:=by rfl) (hv:(execOp (F n u l).eval o).run P w=r:=by go_simp;((try with_reducible rfl);done)) (hr:r= .ok (.enter f xs) w:=by rfl):wdr P opl Q S brk c (k::t) (F n u l) w:=by
 rw[aR,plN hk h0]
 refine EA (bY ho) hw hb fun K hK=> ?_
 unfold Oper.wp
 rw[hv,hr]
 refine hc.mono fun e w' hr'=> ?_
 have h2:=h e w' hr'
 cases e with
 |returned v=>show K ((F n u l).put o.dst v) w';rw[hd,eJ];refine hK _ _ ?_;rw[←aR];exact h2
 |panicked c=>exact h2
 |outgrown=>exact h2.elim
theorem rgF {X:Prop} {K:KT} {c':Code} {a:Act} (l:List (Nat×Value)) (hK:X) (hs:Sz n a) (hl:∀x∈l,sl a x.1=x.2) (H:Hid X→(∀x∈l,sl a x.1=x.2)→cw P c' K (F n (sl a) l) w) (hc:x=c':=by conv=>lhs;whnf):x.wp P K a w:=by
 subst hc
 have h:=H (Lib.hid hK) hl
 rw[fC]at h
 have e:a=F n (sl a) l:=by
  conv=>lhs;rw[hs.eq]
  rw[AE]
  refine oI fun k _=> ?_
  clear h H
  induction l with
  |nil=>rfl
  |cons x r ih=>
   rw[show x::r=(x.1,x.2)::r from rfl,iU]
   by_cases hk:x.1=k
   ·rw[if_pos hk,←hk];exact hl x (.head _)
   ·rw[if_neg hk];exact ih fun y hy=>hl y (.tail _ hy)
 rw[e];exact h
theorem dEf {c':Bool} (hk:Nat.blt k 1000=true) (h0:kdO opl k=2) (ho:opl[k]? =some o) (hw:Region.wanted o (yielded opl.toArray (F n u l).tmps)=true) (hb:(c&& !(brk.contains k))=c')
 (h:∀K:Act→World→Prop,(∀a' w',(c'=true→S w')→wdr P opl Q S brk c' t a' w'→K a' w')→o.wp P (F n u l) w K Q):wdr P opl Q S brk c (k::t) (F n u l) w:=by
 rw[aR,plN hk h0]
 cases c' with
 |true=>exact E9 (bY ho) hw hb fun K hK=>h K fun a' w' h1 h2=>hK a' w' (h1 rfl) fun _=>aR▸h2
 |false=>exact EA (bY ho) hw hb fun K hK=>h K fun a' w' _ h2=>hK a' w' (aR▸h2)
theorem dZ2 {c':Bool} {ty t':TypeId} {x y:Operand} {g:Nat} {cs cells:Array Value} {vx vy:Value} (h:∀w',Bk w' g t' cells→Fr (aJ g) w w'→(c'=true→S w')∧wdr P opl Q S brk c' t (F n u l) w') (hk:Nat.blt k 1000=true:=by rfl) (h0:kdO opl k=2:=by rfl) (ho':opl[k]? =some o:=by rfl) (hw:Region.wanted o (yielded opl.toArray (F n u l).tmps)=true:=by first|exact aL rfl|exact wg rfl rfl rfl|(refine aM rfl (aI (Lib.hid rfl) rfl) ?_;go_simp<;>fail)) (ho:o.op= .store ty x y:=by rfl) (hd:o.dst=none:=by rfl)
 (hb:(c&& !(brk.contains k))=c':=by rfl) (hx:(F n u l).eval x=vx:=by go_simp;((try with_reducible rfl);done)) (hx':vx= .pointer (some ⟨g,0,none⟩):=by rfl) (hy:(F n u l).eval y=vy:=by go_simp;((try with_reducible rfl);done)) (hy':vy= .agg cells:=by rfl)
 (hB:Bk w g t' cs:=by assumption) (hs:cells.size=cs.size:=by rfl) (hi:(P.info? ty).map (·.size)=some cells.size:=by kernel_rfl) (h1:cells.all (·.oneCell')=true:=by simp[Value.oneCell']):wdr P opl Q S brk c (k::t) (F n u l) w:=
 dEf hk h0 ho' hw hb fun K hK=>eH ty x y ho g t' cs cells (hx.trans hx') (hy.trans hy') hB hs hi h1 fun w' h2 h3=>by rw[hd];exact hK _ _ (h w' h2 h3).1 (h w' h2 h3).2
theorem dZn {c':Bool} {r:Result Next} {t':TypeId} {g:Nat} {v0:Value} (h:∀w',Bk w' g t' #[v]→Fr (aJ g) w w'→(c'=true→S w')∧wdr P opl Q S brk c' t (F n u l) w') (hB:Bk w g t' #[v0]) (hk:Nat.blt k 1000=true:=by rfl) (h0:kdO opl k=2:=by rfl) (ho:opl[k]? =some o:=by rfl) (hw:Region.wanted o (yielded opl.toArray (F n u l).tmps)=true:=by first|exact aL rfl|exact wg rfl rfl rfl|(refine aM rfl (aI (Lib.hid rfl) rfl) ?_;go_simp<;>fail)) (hd:o.dst=none:=by rfl)
 (hb:(c&& !(brk.contains k))=c':=by rfl) (hv:(∀j,w.cell? ⟨g,j,none⟩= #[v0][j]?)→(∀j,w.frozen? ⟨g,j,none⟩=false)→(execOp (F n u l).eval o).run P w=r:=by intro _ _;go_simp;((try with_reducible rfl);done)) (hr:r= .ok .skip (w.setCell ⟨g,0,none⟩ v):=by rfl):wdr P opl Q S brk c (k::t) (F n u l) w:=
 dEf hk h0 ho hw hb fun K hK=>by
  have h2:=h _ (hB.set 0 v) ((Fr.refl (aJ g) w).setCell (p:=⟨g,0,none⟩) (fun _=>rfl) v)
  unfold Oper.wp
  rw[hv hB.cells hB.frees,hr]
  show K ((F n u l).put o.dst undef) _
  rw[hd]
  exact hK _ _ h2.1 h2.2
theorem dQc {r:Result Next} {f:FuncId} {xs:Array Value} (hc:Calls P f xs w fun e w'=>e= .returned v∧Fr noB w w') (hS:S w) (h:∀w',Fr noB w w'→S w'→wdr P opl Q S brk true t (F n u ((d,v)::l)) w') (hK:Kp0 S:=by infer_instance) (hk:Nat.blt k 1000=true:=by rfl) (h0:kdO opl k=2:=by rfl) (ho:opl[k]? =some o:=by rfl) (hw:Region.wanted o (yielded opl.toArray (F n u l).tmps)=true:=by first|exact aL rfl|exact wg rfl rfl rfl|(refine aM rfl (aI (Lib.hid rfl) rfl) ?_;go_simp<;>fail)) (hd:o.dst=some d:=by rfl)
 (hb:(c&& !(brk.contains k))=true:=by rfl) (hv:(execOp (F n u l).eval o).run P w=r:=by go_simp;((try with_reducible rfl);done)) (hr:r= .ok (.enter f xs) w:=by rfl):wdr P opl Q S brk c (k::t) (F n u l) w:=
 dC hc (fun w' f'=>hK.kp _ _ hS f') h hk h0 ho hw hd hb (fun _ _ h=>h) hv hr
def aft (m:Nat) (l:List Nat):List Nat:=match l with
 |[]=>[]
 |k::r=>match Nat.beq k 3000 with
  |true=>(match m with|0=>r|m+1=>aft m r)
  |false=>match Nat.beq k 2000 with
   |true=>aft (m+1) r
   |false=>aft m r
theorem dF2 {tA:List Nat} {k':Nat} {x y:Pl} {a:Act} (hA:wdr P opl Q S brk c tA a w) (hB:wdr P opl Q S brk c (aft 0 tA) a w) (hq:plK opl (2000::tA)= .e2 k x k' y:=by rfl) (ha:plK opl tA= .e k x:=by rfl) (hb:plK opl (aft 0 tA)= .e k' y:=by rfl):wdr P opl Q S brk c (2000::tA) a w:=
 dF hA hB hq ha hb
end
end Go.Proofs.YtcllkmllflheiaaGreatDoor
namespace Go.Proofs.YtcllkmllflheiaaGreatDoor
open Go.RowKit Go.Proofs
def E6 (l:List (List UInt8)):List Value:=l.map fun p=> .string (bs p)
theorem wW (l:List (List UInt8)):(E6 l).length=l.length:=by simp[E6]
theorem Et (l:List (List UInt8)) (k:Nat) (hk:k<l.length):(E6 l)[k]? =some (.string (bs l[k])):=by simp[E6,hk]
def Ef (st:Bool×Nat) (o s:Value):Prop:=o= .bool st.1∧s= .int .u32 (st.2:Int)
theorem Fm {a b:Int} (h:a=b):Ending.returned (.int .u16 a)= .returned (.int .u16 b):=by rw[h]
theorem Bu (y:Nat) (hy:y<200000):(bits .and .u32 (y:Int) 65535+(y:Int)/65536)%4294967296=((y%65536+y/65536:Nat):Int):=by
 have h:=u32_and_nat y 65535 (by omega) (by omega)
 rw[nat_mask16]at h
 rw[show(65535:Int)=((65535:Nat):Int)from rfl,h];omega
theorem Dt (s:Nat) (b:UInt8) (hs:s≤65535):Ef (fU (false,s) b) (.bool true)
 (.int .u32 ((bits .and .u32 (((s:Int)+(b.toNat:Int)%4294967296*256)%4294967296) 65535+((s:Int)+(b.toNat:Int)%4294967296*256)%4294967296/65536)%4294967296)):=by
 have hb:=b.toNat_lt
 have e:((s:Int)+(b.toNat:Int)%4294967296*256)%4294967296=((s+b.toNat*256:Nat):Int):=by omega
 rw[e,Bu _ (by omega)]
 exact⟨rfl,by simp[fU]⟩
theorem FI (s:Nat) (b:UInt8) (hs:s≤65535):Ef (fU (true,s) b) (.bool false)
 (.int .u32 ((bits .and .u32 (((s:Int)+(b.toNat:Int))%4294967296) 65535+((s:Int)+(b.toNat:Int))%4294967296/65536)%4294967296)):=by
 have hb:=b.toNat_lt
 have e:((s:Int)+(b.toNat:Int))%4294967296=((s+b.toNat:Nat):Int):=by omega
 rw[e,Bu _ (by omega)]
 exact⟨rfl,by simp[fU]⟩
theorem G5 (l:List UInt8):bits .xor .u16 IntKind.u16.max (IntKind.u16.wrap ((ck l).2:Int))=(fB l:Int):=by
 have h:=HJ l
 rw[IntKind.wrap_u16,show IntKind.u16.max=((65535:Nat):Int)from rfl,show((ck l).2:Int)%65536=(((ck l).2:Nat):Int) by omega,u16_xor_nat _ _ (by omega) (by omega),Cw _ (by omega),Ew]
theorem iD (A:Option Addr) (n c:Nat) (ps:List (List UInt8)) (w:World) (S:Nat→Prop) (hr:SlR w S 1 A n (E6 ps)) (hn:n≤9223372036854775807) (hz:∀p∈ps,p.length≤9223372036854775807):
 Calls Tryz.prog 162 #[.slice A n c] w fun e w'=>e= .returned (.int .u16 (fB ps.flatten))∧w=w':=by
 have hlen:ps.length=n:=by have:=hr.1;rw[wW]at this;omega
 go_enter Tryz.func162,Tryz.ntmps162
 go_wp2_with fail
 go_loop [3,4,11] (fun s o i=>∃k:Nat,k≤n∧i= .int .i64 k∧Ef (ck (ps.take k).flatten) o s) (fun _ _ i=>n-(intOf i).toNat)
 case atStart=>exact⟨0,Nat.zero_le _,rfl,rfl,rfl⟩
 case round=>
  obtain⟨k,hk,rfl,rfl,rfl⟩:=hrel
  by_cases hlt:k<n
  ·obtain⟨ad,u,rfl,hu,hc⟩:=hr.at_ hlt
   rw[Et ps k (by omega)]at hu
   have hp:ps[k].length≤9223372036854775807:=hz _ (List.getElem_mem _)
   injection hu with hu
   subst hu
   have hp0:((ps.take k).flatten++ps[k].take 0)=(ps.take k).flatten:=by simp
   generalize hpk:ps[k]=p at*
   have Hpk:=Lib.hid hpk
   clear hpk
   generalize hpre:(ps.take k).flatten=pre at*
   have Hpre:=Lib.hid hpre
   have Hp0:=Lib.hid hp0
   clear hpre hp0
   have hbz:=aG p
   go_wp2_with fail
   go_loop [3,4,17] (fun s o i=>∃j:Nat,j≤p.length∧i= .int .i64 j∧Ef (ck (pre++p.take j)) o s) (fun _ _ i=>p.length-(intOf i).toNat)
   case atStart=>exact⟨0,Nat.zero_le _,rfl,by rw[Hp0.out];exact⟨rfl,rfl⟩⟩
   case round=>
    obtain⟨j,hj,rfl,rfl,rfl⟩:=hrel
    by_cases hlj:j<p.length
    ·have hck:=HJ (pre++p.take j)
     have hsn:ck (pre++p.take (j+1))=fU (ck (pre++p.take j)) p[j]:=by
      rw[List.take_succ_eq_append_getElem hlj,←List.append_assoc,Fb]
     have Hsn:=Lib.hid hsn
     clear hsn
     generalize hst:ck (pre++p.take j)=st at*
     have Hst:=Lib.hid hst
     clear hst
     obtain⟨o,s⟩:=st
     cases o
     ·go_wp2_with fail
      go_round
      case rel=>exact⟨j+1,by omega,by go_num,by rw[Hsn.out,gW];exact Dt s _ hck⟩
      case measure=>simp[intOf];omega
     ·go_wp2_with fail
      go_round
      case rel=>exact⟨j+1,by omega,by go_num,by rw[Hsn.out,gW];exact FI s _ hck⟩
      case measure=>simp[intOf];omega
    ·go_wp2_with fail
     obtain rfl:j=p.length:=by omega
     refine⟨⟨k+1,by omega,by go_num,?_⟩,by simp[intOf];omega⟩
     have e:(ps.take (k+1)).flatten=pre++p.take p.length:=by
      rw[List.take_succ_eq_append_getElem (by omega),List.flatten_append,Hpre.out,Hpk.out];simp
     rw[e];exact⟨rfl,rfl⟩
  ·go_wp2_with fail
   go_ret
   obtain rfl:k=n:=by omega
   refine⟨Fm ?_,rfl⟩
   rw[G5,List.take_of_length_le (by omega)]
theorem Fd {a b:Int} (h:a=b):Ending.returned (.int .i64 a)= .returned (.int .i64 b):=by rw[h]
theorem H8 (l:List UInt8) (h:l.length%2=1):bs l++{data:= #[0]}=bs (gS l):=by
 rw[show({data:= #[0]}:ByteArray)=bs [0]from rfl,aD];unfold gS;rw[if_pos h]
theorem zU:∀(q:List UInt8),jG q≤65535*q.length
 |[]=>by simp[jG]
 |[_]=>by simp[jG]
 |a::b::r=>by
  have:=zU r
  have ha:=a.toNat_lt
  have hb:=b.toNat_lt
  simp[jG];omega
theorem lJ (q:List UInt8) (k:Nat) (hq:q.length≤1000001):jG (q.take k)≤65536000000:=by
 have h:=zU (q.take k)
 have h2:(q.take k).length≤1000001:=by rw[List.length_take];omega
 omega
theorem xE (l:List UInt8):(gS l).length%2=0:=by unfold gS;split<;>(try simp)<;>omega
theorem Cf (l:List UInt8):(gS l).length≤l.length+1:=by unfold gS;split<;>simp
theorem B0 (s:Nat) (a b:UInt8) (hs:s≤65536000000):
 Value.int .i64 (wrap64 ((s:Int)+wrap64 (wrap64 (256*wrap64 (a.toNat:Int))+wrap64 (b.toNat:Int))))= .int .i64 ((s+a.toNat*256+b.toNat:Nat):Int):=by
 have ha:=a.toNat_lt
 have hb:=b.toNat_lt
 rw[GO (n:=(a.toNat:Int)) (by omega) (by omega),GO (n:=(b.toNat:Int)) (by omega) (by omega),GO (n:=256*(a.toNat:Int)) (by omega) (by omega),
  GO (n:=256*(a.toNat:Int)+(b.toNat:Int)) (by omega) (by omega),GO (by omega) (by omega)]
 congr 1;omega
def He (k:Nat):Prop:=k%2=0
def Jg (q:List UInt8) (k:Nat) (s i:Value):Prop:=k≤q.length∧He k∧i= .int .i64 (k:Int)∧s= .int .i64 (jG (q.take k):Int)
theorem Ap (q:List UInt8) (k:Nat) (hk:He k) (h:k+1<q.length):jG (q.take (k+2))=jG (q.take k)+q[k].toNat*256+q[k+1].toNat:=by
 obtain⟨j,rfl⟩:∃j,k=2*j:=⟨k/2,by unfold He at hk;omega⟩
 exact pT j q _ _ (List.getElem?_eq_getElem (by omega)) (List.getElem?_eq_getElem h)
def Id (l:List UInt8) (s:Value):Prop:=∃a:Nat,a≤65536000000∧E5 a (rH false l)∧s= .int .i64 (a:Int)
theorem gE (l:List UInt8) (w:World) (hl:l.length≤1000000):
 Calls Tryz.prog 117 #[.string (bs l)] w fun e w'=>e= .returned (.int .i64 (fB l))∧Fr noB w w':=by
 go_enter Tryz.func117,Tryz.ntmps117
 have hz:=aG l
 have hpw:=vE l
 have hpe:=xE l
 have hpl:=Cf l
 by_cases hodd:l.length%2=1
 all_goals
  go_wp2_with fail
  first
   |rw[H8 l hodd]
   |(have epad:gS l=l:=by unfold gS;rw[if_neg hodd]
     rw[show bs l=bs (gS l) by rw[epad]]
     clear epad)
  clear hz
  have hz:=aG (gS l)
  generalize gS l=q at*
  have Hpw:=Lib.hid hpw
  clear hpw hodd
  go_loopw [3,4] (fun s i wr=>∃k:Nat,Jg q k s i∧Fr noB w wr) (fun _ i _=>q.length-(intOf i).toNat)
  case atStart=>exact⟨0,⟨by omega,rfl,rfl,rfl⟩,Fr.refl _ _⟩
  case round=>
   obtain⟨k,⟨hk,hev,rfl,rfl⟩,hfr⟩:=hrel
   by_cases hlt:k<q.length
   ·have hk1:k+1<q.length:=by unfold He at hev;omega
    have hwn:=Lib.hid (Ap q k hev hk1)
    have hq0:(k:Int)<(q.length:Int):=by omega
    have hq1:(k:Int)+1<(q.length:Int):=by omega
    have hq2:=lJ q k (by omega)
    have hq3:IntKind.i64.wrap ((k:Int)+1)=(k:Int)+1:=IntWalk.i64_in _ (by omega)
    have hq4:(0:Int)≤(k:Int)+1:=by omega
    have hq5:((k:Int)+1).toNat=k+1:=by omega
    generalize hwt:jG (q.take k)=s at*
    have Hwt:=Lib.hid hwt
    clear hwt
    go_wp2_with fail
    go_quiet (fail)
    go_wp2_with fail
    go_roundw
    case rel=>exact⟨k+2,⟨by omega,by unfold He at*;omega,by go_num,by rw[hwn.out];exact B0 s _ _ hq2⟩,hfr.drewN _⟩
    case measure=>simp[intOf];omega
   ·go_wp2_with fail
    obtain rfl:k=q.length:=by omega
    rw[List.take_length]at*
    have hw0:=lJ q q.length (by omega)
    rw[List.take_length]at hw0
    rw[Hpw.out]at*
    go_loop [3] (fun s=>Id l s) (fun s=>(intOf s).toNat)
    case atStart=>exact⟨_,hw0,rfl,rfl⟩
    case round=>
     obtain⟨a,ha,hka,rfl⟩:=hrel
     by_cases hgt:65535<a
     ·go_wp2_with fail
      go_round
      case rel=>exact⟨a/65536+a%65536,by omega,hka.step,by go_num⟩
      case measure=>simp[intOf];omega
     ·go_wp2_with fail
      go_ret
      have hd:=hka.done (by omega)
      have hnl:=F0 (rH false l)
      exact⟨Fd (by unfold fB;omega),hfr⟩
end Go.Proofs.YtcllkmllflheiaaGreatDoor
namespace Go.Proofs.YtcllkmllflheiaaGreatDoor
open Go.RowKit Go.Proofs
attribute [local go_sem] aG aD cV aF
def rS (id:Nat) (ttl pr:UInt8) (n:Nat):List UInt8:=[69,0]++big 2 (20+n)++big 2 id++[64,0]++[ttl,pr]
def tM (fi ti:Nat):List UInt8:=big 4 fi++big 4 ti
def gF (id:Nat) (ttl pr:UInt8) (fi ti n sum:Nat):List UInt8:=rS id ttl pr n++big 2 sum++tM fi ti
def sF (id:Nat) (ttl pr:UInt8) (fi ti:Nat) (ld:List UInt8):List UInt8:=gF id ttl pr fi ti ld.length (fB (gF id ttl pr fi ti ld.length 0))++ld
def Be (id:Nat) (ttl pr:UInt8) (fi ti:Nat) (ld:List UInt8):List UInt8×Nat:=if ttl.toNat=0 then([],2)else if 1480<ld.length then([],7)else(sF id ttl pr fi ti ld,0)
theorem iA (id:Nat) (ttl pr:UInt8) (fi ti n sum:Nat):(gF id ttl pr fi ti n sum).length=20:=by simp[gF,rS,tM,aH]
theorem H4 (id:Nat) (ttl pr:UInt8) (fi ti n sum:Nat):([]++[69,0]++bG 2 [20+(n:Int),(id:Int),16384]++[ttl,pr]++bG 2 [(sum:Int)]++bG 4 [(fi:Int),(ti:Int)])=gF id ttl pr fi ti n sum:=by
 have e:bG 2 [20+(n:Int),(id:Int),16384]=big 2 (20+n)++big 2 id++[64,0]:=by
  have e1:(20+(n:Int)).toNat=20+n:=by omega
  have e2:big 2 (Int.toNat 16384)=[64,0]:=by decide
  simp only[bG,List.flatMap_cons,List.flatMap_nil,List.append_nil,e1,e2,Int.toNat_natCast,List.append_assoc]
 rw[e]
 simp[gF,rS,tM,bG]
theorem Dk (id fi ti:Nat) (ttl pr:UInt8) (ld:List UInt8) (sum q:Nat) (w:World) (hid:id<65536) (hfi:fi<4294967296) (hti:ti<4294967296) (hsum:sum<65536) (hld:ld.length≤1480) (hq:Bk w q 130 #[.int .u16 (id:Int),.int .u8 (ttl.toNat:Int),.int .u8 (pr.toNat:Int),.int .u32 (fi:Int),.int .u32 (ti:Int),.string (bs ld)]):
 Calls Tryz.prog 197 #[.int .u16 (sum:Int),.pointer (some ⟨q,0,none⟩)] w (fun e w'=>e= .returned (.string (bs (gF id ttl pr fi ti ld.length sum)))∧Fr noB w w'):=by
 have hql:=hq.lt
 have hpa:=hq.alloc (.cells #[.slice none 0 0] 200)
 have hbw:=Bk.new w 200 #[.slice none 0 0]
 have hf0:Fr noB w (w.alloc (.cells #[.slice none 0 0] 200)):=(Fr.refl _ _).alloc _
 have hsz:(w.alloc (.cells #[.slice none 0 0] 200)).heap.size=w.heap.size+1:=by simp
 go_enter Tryz.func197,Tryz.ntmps197
 go_upto_region 2 with fail
 generalize w.alloc (.cells #[.slice none 0 0] 200)=w1 at*
 have hwr0:=Wr.zero hbw
 have e6:IntKind.i64.wrap (20+(ld.length:Int))=20+ld.length:=IntWalk.i64_in _ (by omega)
 have e7:IntKind.u16.wrap (20+(ld.length:Int))=20+ld.length:=by rw[IntKind.wrap_u16];omega
 have e7':(20+(ld.length:Int))%65536=20+ld.length:=by omega
 have hN:=BU (l0:=([]:List UInt8)) (fs:=[(· ++[69,0]),(· ++bG 2 [(20+(ld.length:Int)),(id:Int),16384]),(· ++[ttl,pr]),(· ++bG 2 [(sum:Int)]),(· ++bG 4 [(fi:Int),(ti:Int)])]) (by simp) 1000000 (by intro f hf l;simp at hf;rcases hf with rfl|rfl|rfl|rfl|rfl<;>simp[aN,cG,aH]<;>omega) (by simp)
 refine jK (n:=35) (w1:=w1) (p:=w.heap.size) (lst:=jT ([]:List UInt8) _) (ats:=[2,11,17,20,26]) (kn:=[(4,.pointer (some ⟨w.heap.size,0,none⟩)),(1,pt q),(0,.int .u16 (sum:Int))]) (ex:=[]) (sp:=[(7,.v (.pointer (some ⟨w.heap.size,0,none⟩))),(8,.m 2 5 #[.int .u8 69,.int .u8 0]),(9,.w 0),(10,.v (.pointer (some ⟨q,5,none⟩))),(11,.v (.string (bs ld))),(12,.v (.int .i64 (ld.length:Int))),(13,.v (.int .i64 (20+(ld.length:Int)))),(14,.v (.int .u16 (20+(ld.length:Int)))),(15,.v (pt q)),(16,.v (.int .u16 (id:Int))),(17,.m 3 80 #[.int .u16 (20+(ld.length:Int)),.int .u16 (id:Int),.int .u16 16384]),(18,.w 1),(19,.v (.pointer (some ⟨q,1,none⟩))),(20,.v (.int .u8 (ttl.toNat:Int))),(21,.v (.pointer (some ⟨q,2,none⟩))),(22,.v (.int .u8 (pr.toNat:Int))),(23,.m 2 5 #[.int .u8 (ttl.toNat:Int),.int .u8 (pr.toNat:Int)]),(24,.w 2),(25,.v (.int .u16 (sum:Int))),(26,.m 1 80 #[.int .u16 (sum:Int)]),(27,.w 3),(28,.v (.pointer (some ⟨q,3,none⟩))),(29,.v (.int .u32 (fi:Int))),(30,.v (.pointer (some ⟨q,4,none⟩))),(31,.v (.int .u32 (ti:Int))),(32,.m 2 53 #[.int .u32 (fi:Int),.int .u32 (ti:Int)]),(33,.w 4),(34,.s 5),(3,.v (.string (bs (jT ([]:List UInt8) [(· ++[69,0]),(· ++bG 2 [(20+(ld.length:Int)),(id:Int),16384]),(· ++[ttl,pr]),(· ++bG 2 [(sum:Int)]),(· ++bG 4 [(fi:Int),(ti:Int)])] 5))))]) ⟨rfl,rfl⟩ (Chn.start0 hwr0 rfl) .nil (by simp[sl])
  (okv []<|okm []<|oka 1 [0] rfl (fun _ _ _ c s=>s.U8 c (hN 0) [69,0])<|okv []<|okl [3] (fun _ _ _ c x=>((hpa).keep c.fr (by unfold aJ;have:=c.lt;omega)).cells)<|okv [4]<|okv [5]<|okv [6]<|okv []<|okl [8] (fun _ _ _ c x=>((hpa).keep c.fr (by unfold aJ;have:=c.lt;omega)).cells)<|okm [7,9]<|oka 10 [2] rfl (fun _ _ _ c s=>s.U16 c (hN 1) [(20+(ld.length:Int)),(id:Int),16384])<|okv []<|okl [12] (fun _ _ _ c x=>((hpa).keep c.fr (by unfold aJ;have:=c.lt;omega)).cells)<|okv []<|okl [14] (fun _ _ _ c x=>((hpa).keep c.fr (by unfold aJ;have:=c.lt;omega)).cells)<|okm [13,15]<|oka 16 [11] rfl (fun _ _ _ c s=>s.U8 c (hN 2) [ttl,pr])<|okv []<|okm [18]<|oka 19 [17] rfl (fun _ _ _ c s=>s.U16 c (hN 3) [(sum:Int)])<|okv []<|okl [21] (fun _ _ _ c x=>((hpa).keep c.fr (by unfold aJ;have:=c.lt;omega)).cells)<|okv []<|okl [23] (fun _ _ _ c x=>((hpa).keep c.fr (by unfold aJ;have:=c.lt;omega)).cells)<|okm [22,24]<|oka 25 [20] rfl (fun _ _ _ c s=>s.IP c (hN 4) [(fi:Int),(ti:Int)])<|oks [26] (fun _ _ c=>kH _ _ _ _ c.wr)<|okv [27]<|okn) ?_ (by kernel_rfl) (by kernel_rfl) (by kernel_rfl) (by kernel_rfl)
 intro a' w3 A' hs' hk' hv' hch _
 rw[Kp.eq_put (n:=35) [7,8,9,10,11,12,13,14,15,16,17,18,19,20,21,22,23,24,25,26,27,28,29,30,31,32,33,34,3] ⟨rfl,rfl⟩ hs' (Kp.kx hk':Kp (kx 35 [7,8,9,10,11,12,13,14,15,16,17,18,19,20,21,22,23,24,25,26,27,28,29,30,31,32,33,34,3]) _ _) rfl rfl]
 simp only[List.foldl,Act.put,List.setIfInBounds_toArray,List.set_cons_zero,List.set_cons_succ]
 rw[(hv' 28 3 _ rfl:sl a' 3= .string (bs (jT ([]:List UInt8) [(· ++[69,0]),(· ++bG 2 [(20+(ld.length:Int)),(id:Int),16384]),(· ++[ttl,pr]),(· ++bG 2 [(sum:Int)]),(· ++bG 4 [(fi:Int),(ti:Int)])] 5)))]
 have hby:jT [] [(· ++[69,0]),(· ++bG 2 [(20+(ld.length:Int)),(id:Int),16384]),(· ++[ttl,pr]),(· ++bG 2 [(sum:Int)]),(· ++bG 4 [(fi:Int),(ti:Int)])] 5=gF id ttl pr fi ti ld.length sum:=H4 _ _ _ _ _ _ _
 rw[hby]
 have hfr:=hf0.trans' hch.fr (fun b hb e=>by unfold aJ at e;omega)
 generalize hR:gF id ttl pr fi ti ld.length sum=R at*
 have HR:=Lib.hid hR
 clear hR
 go_wp2_with fail
 go_ret
 exact⟨by rw[HR.out];rfl,hfr⟩
theorem pH (A:Option Addr) (c:Nat) (p:List UInt8) (w:World) (hr:SlR w noB 1 A 1 (E6 [p])) (hz:p.length≤9223372036854775807):
 Calls Tryz.prog 162 #[.slice A 1 c] w fun e w'=>e= .returned (.int .u16 (fB p))∧w=w':=by
 have h:=iD A 1 c [p] w noB hr (by omega) (by simpa using hz)
 simpa using h
attribute [local simp] ltN leN eqN eqL ltL gtL leL geL ibq
theorem rQ (id fi ti:Nat) (ttl pr:UInt8) (ld:List UInt8) (w:World) (hid:id<65536) (hfi:fi<4294967296) (hti:ti<4294967296) (hld:ld.length≤9223372036854775807):
 Calls Tryz.prog 143 #[.agg #[.int .u16 (id:Int),.int .u8 (ttl.toNat:Int),.int .u8 (pr.toNat:Int),.int .u32 (fi:Int),.int .u32 (ti:Int),.string (bs ld)]] w (eL (Be id ttl pr fi ti ld) w):=by
 have hmf:∀(fn:Fn) (first cap:Array Value) (w:World),(Instr.makeFunc fn first cap).run Tryz.prog w= .ok (.func fn first cap) w:=fun _ _ _ _=>rfl
 refine en Tryz.func143 Tryz.ntmps143 ?_
 refine W ?_
 refine sA ?_
 intro w1 hA f1
 by_cases h1:ttl.toNat=0
 ·refine W ?_
  exact⟨by unfold Be;rw[if_pos h1];rfl,f1⟩
 by_cases h2:1480<ld.length
 ·refine W ?_
  exact⟨by unfold Be;rw[if_neg h1,if_pos h2];rfl,f1⟩
 have Hs:=Lib.hid (show Be id ttl pr fi ti ld=(sF id ttl pr fi ti ld,0) by unfold Be;rw[if_neg h1,if_neg h2])
 have Hl:=Lib.hid (show ld.length≤1480 by omega)
 refine W ?_
 clear h1 h2
 refine dI (An hA f1) [] [0,1,6,7,2,3,4,5,8,9,10] (h:= ?_)
 intro w2 h2 _
 clear hA f1
 have hH:=fun(sum:Nat) (hs:sum<65536) (w':World) (hB:Bk w' w.heap.size 130 #[.int .u16 (id:Int),.int .u8 (ttl.toNat:Int),.int .u8 (pr.toNat:Int),.int .u32 (fi:Int),.int .u32 (ti:Int),.string (bs ld)])=>Dk id fi ti ttl pr ld sum w.heap.size w' hid hfi hti hs Hl.out hB
 have HH:=Lib.hid hH
 clear hH
 refine D ?_
 refine dC (HH.out 0 (by decide) w2 h2.1) ?_ ?_
 ·intro w' fw
  exact⟨h2.1.keep fw (fun x=>x),h2.2.none fw⟩
 intro w3 _ h3
 refine D ?_
 refine dA2 (by infer_instance) h3 ?_
 intro w4 h4 hB _
 refine D ?_
 refine dC (pH (some ⟨w3.heap.size,0,none⟩) 1 (gF id ttl pr fi ti ld.length 0) w4 (SlR.of_bk hB (fun x=>x) rfl) (by rw[iA];omega)) ?_ ?_
 ·rintro _ rfl
  exact h4
 rintro _ rfl _
 refine D ?_
 refine dC (HH.out (fB (gF id ttl pr fi ti ld.length 0)) (by have:=nL (gF id ttl pr fi ti ld.length 0);omega) w4 h4.1) ?_ ?_
 ·intro w' fw
  exact⟨h4.1.keep fw (fun x=>x),h4.2.none fw⟩
 intro w5 _ h5
 clear hB h2 h3 h4
 have hln:¬9223372036854775807<(gF id ttl pr fi ti ld.length (fB (gF id ttl pr fi ti ld.length 0))).length+ld.length:=by rw[iA];have:=Hl.out;omega
 refine D ?_
 refine W ?_
 exact⟨by rw[Hs.out];rfl,h5.2⟩
end Go.Proofs.YtcllkmllflheiaaGreatDoor
namespace Go.Proofs.YtcllkmllflheiaaGreatDoor
open Go.RowKit Go.Proofs
attribute [local go_sem] aG aD cV aF
def bC (fi ti n:Nat):List UInt8:=big 4 fi++big 4 ti++[0,17]++big 2 n
theorem lP (fi ti n:Nat):(bC fi ti n).length=12:=by simp[bC,aH]
theorem AO (fi ti:Nat) (n:Int):([]++bG 4 [(fi:Int),(ti:Int)]++[0,17]++bG 2 [n])=bC fi ti n.toNat:=by
 simp only[bG,List.flatMap_cons,List.flatMap_nil,List.append_nil,Int.toNat_natCast,List.nil_append,bC,List.append_assoc]
theorem lL (A:Option Addr) (c:Nat) (p q:List UInt8) (w:World) (hr:SlR w noB 1 A 2 (E6 [p,q])) (hz:p.length≤9223372036854775807) (hy:q.length≤9223372036854775807):
 Calls Tryz.prog 162 #[.slice A 2 c] w fun e w'=>e= .returned (.int .u16 (fB (p++q)))∧w=w':=by
 have h:=iD A 2 c [p,q] w noB hr (by omega) (by intro x hx;simp at hx;rcases hx with rfl|rfl<;>assumption)
 simpa using h
theorem F5 (x:Int) (n:Nat) (w:World) (h0:0≤x) (hx:x≤4611686018427387904) (hn:n≤1000):
 Calls Tryz.prog 145 #[.int .i64 x,.int .i64 n] w fun e w'=>e= .returned (.string (bs (big n x.toNat)))∧Fr noB w w':=by
 have h:=iO x.toNat n w (by omega) hn
 rw[Int.toNat_of_nonneg h0]at h
 exact h
theorem yW (fi ti:Nat) (n:Int) (w:World) (hfi:fi<4294967296) (hti:ti<4294967296) (hn0:0≤n) (hn1:n≤65535):
 Calls Tryz.prog 165 #[.int .u32 (fi:Int),.int .u32 (ti:Int),.int .i64 n] w (fun e w'=>e= .returned (.string (bs (bC fi ti n.toNat)))∧Fr noB w w'):=by
 have hbw:=Bk.new w 200 #[.slice none 0 0]
 have hf0:Fr noB w (w.alloc (.cells #[.slice none 0 0] 200)):=(Fr.refl _ _).alloc _
 have hsz:(w.alloc (.cells #[.slice none 0 0] 200)).heap.size=w.heap.size+1:=by simp
 go_enter Tryz.func165,Tryz.ntmps165
 go_upto_region 2 with fail
 generalize w.alloc (.cells #[.slice none 0 0] 200)=w1 at*
 have hwr0:=Wr.zero hbw
 have e8:IntKind.u16.wrap n=n:=by rw[IntKind.wrap_u16];omega
 have e8':n%65536=n:=by omega
 have hN:=BU (l0:=([]:List UInt8)) (fs:=[(· ++bG 4 [(fi:Int),(ti:Int)]),(· ++[0,17]),(· ++bG 2 [n])]) (by simp) 2000000 (by intro f hf l;simp at hf;rcases hf with rfl|rfl|rfl<;>simp[aN,cG,aH]<;>omega) (by simp)
 refine jK (n:=22) (w1:=w1) (p:=w.heap.size) (lst:=jT ([]:List UInt8) _) (ats:=[4,6,10]) (kn:=[(7,.pointer (some ⟨w.heap.size,0,none⟩)),(0,.int .u32 (fi:Int)),(1,.int .u32 (ti:Int)),(2,.int .i64 n)]) (ex:=[]) (sp:=[(10,.v (.pointer (some ⟨w.heap.size,0,none⟩))),(11,.v (.int .u32 (fi:Int))),(12,.v (.int .u32 (ti:Int))),(13,.m 2 53 #[.int .u32 (fi:Int),.int .u32 (ti:Int)]),(14,.w 0),(15,.m 2 5 #[.int .u8 0,.int .u8 17]),(16,.w 1),(17,.v (.int .i64 n)),(18,.v (.int .u16 n)),(19,.m 1 80 #[.int .u16 n]),(20,.w 2),(21,.s 3),(6,.v (.string (bs (jT ([]:List UInt8) [(· ++bG 4 [(fi:Int),(ti:Int)]),(· ++[0,17]),(· ++bG 2 [n])] 3))))]) ⟨rfl,rfl⟩ (Chn.start0 hwr0 rfl) .nil (by simp[sl])
  (okv []<|okv []<|okv []<|okm [1,2]<|oka 3 [0] rfl (fun _ _ _ c s=>s.IP c (hN 0) [(fi:Int),(ti:Int)])<|okm []<|oka 5 [4] rfl (fun _ _ _ c s=>s.U8 c (hN 1) [0,17])<|okv []<|okv [7]<|okm [8]<|oka 9 [6] rfl (fun _ _ _ c s=>s.U16 c (hN 2) [n])<|oks [10] (fun _ _ c=>kH _ _ _ _ c.wr)<|okv [11]<|okn) ?_ (by kernel_rfl) (by kernel_rfl) (by kernel_rfl) (by kernel_rfl)
 intro a' w3 A' hs' hk' hv' hch _
 rw[Kp.eq_put (n:=22) [10,11,12,13,14,15,16,17,18,19,20,21,6] ⟨rfl,rfl⟩ hs' (Kp.kx hk':Kp (kx 22 [10,11,12,13,14,15,16,17,18,19,20,21,6]) _ _) rfl rfl]
 simp only[List.foldl,Act.put,List.setIfInBounds_toArray,List.set_cons_zero,List.set_cons_succ]
 rw[(hv' 12 6 _ rfl:sl a' 6= .string (bs (jT ([]:List UInt8) [(· ++bG 4 [(fi:Int),(ti:Int)]),(· ++[0,17]),(· ++bG 2 [n])] 3)))]
 have hby:jT [] [(· ++bG 4 [(fi:Int),(ti:Int)]),(· ++[0,17]),(· ++bG 2 [n])] 3=bC fi ti n.toNat:=AO _ _ _
 rw[hby]
 have hfr:=hf0.trans' hch.fr (fun b hb e=>by unfold aJ at e;omega)
 generalize hR:bC fi ti n.toNat=R at*
 have HR:=Lib.hid hR
 clear hR
 go_wp2_with fail
 go_ret
 exact⟨by rw[HR.out];rfl,hfr⟩
theorem uK (fi ti:Nat) (n:Int) (w:World) (hfi:fi<4294967296) (hti:ti<4294967296) (hn0:0≤n) (hn1:n≤65535):
 Calls Tryz.prog 118 #[.int .u32 (fi:Int),.int .u32 (ti:Int),.int .i64 n] w (fun e w'=>e= .returned (.string (bs (bC fi ti n.toNat)))∧Fr noB w w'):=by
 go_enter Tryz.func118,Tryz.ntmps118
 go_upto_region 1 with fail
 obtain⟨y1,Hy1⟩:∃s:List UInt8,Hid (s=big 4 fi):=⟨big 4 fi,Lib.hid rfl⟩
 obtain⟨y2,Hy2⟩:∃s:List UInt8,Hid (s=big 4 ti):=⟨big 4 ti,Lib.hid rfl⟩
 obtain⟨t1,Ht1⟩:∃s:List UInt8,Hid (s=y1++y2):=⟨y1++y2,Lib.hid rfl⟩
 obtain⟨c1,Hc1⟩:∃s:List UInt8,Hid (s=[0,17]):=⟨[0,17],Lib.hid rfl⟩
 obtain⟨t2,Ht2⟩:∃s:List UInt8,Hid (s=t1++c1):=⟨t1++c1,Lib.hid rfl⟩
 obtain⟨y3,Hy3⟩:∃s:List UInt8,Hid (s=big 2 n.toNat):=⟨big 2 n.toNat,Lib.hid rfl⟩
 obtain⟨t3,Ht3⟩:∃s:List UInt8,Hid (s=t2++y3):=⟨t2++y3,Lib.hid rfl⟩
 have Ly1:Hid (y1.length≤4):=by unfold Hid;rw[Hy1.out];(simp[aH,cG,aN]<;>omega)
 have Ly2:Hid (y2.length≤4):=by have l_y1:=Ly1.out;unfold Hid;rw[Hy2.out];(simp[aH,cG,aN]<;>omega)
 have Lt1:Hid (t1.length≤8):=by have l_y1:=Ly1.out;have l_y2:=Ly2.out;unfold Hid;rw[Ht1.out];(simp[aH,cG,aN]<;>omega)
 have Lc1:Hid (c1.length≤2):=by have l_y1:=Ly1.out;have l_y2:=Ly2.out;have l_t1:=Lt1.out;unfold Hid;rw[Hc1.out];(simp[aH,cG,aN]<;>omega)
 have Lt2:Hid (t2.length≤10):=by have l_y1:=Ly1.out;have l_y2:=Ly2.out;have l_t1:=Lt1.out;have l_c1:=Lc1.out;unfold Hid;rw[Ht2.out];(simp[aH,cG,aN]<;>omega)
 have Ly3:Hid (y3.length≤2):=by have l_y1:=Ly1.out;have l_y2:=Ly2.out;have l_t1:=Lt1.out;have l_c1:=Lc1.out;have l_t2:=Lt2.out;unfold Hid;rw[Hy3.out];(simp[aH,cG,aN]<;>omega)
 have Lt3:Hid (t3.length≤12):=by have l_y1:=Ly1.out;have l_y2:=Ly2.out;have l_t1:=Lt1.out;have l_c1:=Lc1.out;have l_t2:=Lt2.out;have l_y3:=Ly3.out;unfold Hid;rw[Ht3.out];(simp[aH,cG,aN]<;>omega)
 obtain⟨V,hV⟩:∃V:Nat→Value,V=(fun j=>match j with|0=> .int .u32 (fi:Int)|1=> .string (bs y1)|2=> .int .u32 (ti:Int)|3=> .string (bs y2)|4=> .string (bs t1)|5=> .string (bs t2)|6=> .int .i64 n|7=> .string (bs y3)|8=> .string (bs t3)|9=> .string (bs t3)|_=>undef):=⟨_,rfl⟩
 have v0:V 0= .int .u32 (fi:Int):=congrFun hV 0
 have v1:V 1= .string (bs y1):=congrFun hV 1
 have v2:V 2= .int .u32 (ti:Int):=congrFun hV 2
 have v3:V 3= .string (bs y2):=congrFun hV 3
 have v4:V 4= .string (bs t1):=congrFun hV 4
 have v5:V 5= .string (bs t2):=congrFun hV 5
 have v6:V 6= .int .i64 n:=congrFun hV 6
 have v7:V 7= .string (bs y3):=congrFun hV 7
 have v8:V 8= .string (bs t3):=congrFun hV 8
 have v9:V 9= .string (bs t3):=congrFun hV 9
 clear hV
 refine jW (by kernel_rfl) (by kernel_rfl) (by kernel_rfl)
  (fun u=>⟨#[.int .u32 (fi:Int),.int .u32 (ti:Int),.int .i64 n,undef,undef,undef,u 9,u 0,u 1,u 2,u 3,u 4,u 5,u 6,u 7,u 8],[]⟩)
  (fun j v w3=>v=V j)
  (fun L u w3=>Fr noB w w3) (fun j=>if j=9 then .string ⟨#[]⟩else undef) ((Fr.refl _ _)) ?_ ?_
 ·rintro L u w3 i o hG hΦ ho hL hd K hK
  match i,ho with
  |0,ho=>
   simp at ho;subst ho
   clear hΦ hd
   go_simp
   exact hK _ _ v0.symm hG (fun _ _ _ h=>h)
  |1,ho=>
   simp at ho;subst ho
   have hu0:u 0=V 0:=hΦ 0 (hd ⟨0,.data⟩ (by simp) (by rfl))
   rw[v0]at hu0
   clear hΦ hd
   have hG0:=hG
   have hx:∃x,u=(upd x 0 (.int .u32 (fi:Int))):=⟨u,by rw[←aQ hu0]⟩
   clear hu0
   obtain⟨x,rfl⟩:=hx
   simp only[upd,reduceIte,Nat.reduceEqDiff]
   go_simp
   refine(lI fi w3 (by omega)).mono ?_
   rintro e w4 ⟨rfl,hf4⟩
   rw[←Hy1.out]
   exact hK _ _ v1.symm (hG0.none hf4) (fun _ _ _ h=>h)
  |2,ho=>
   simp at ho;subst ho
   clear hΦ hd
   go_simp
   exact hK _ _ v2.symm hG (fun _ _ _ h=>h)
  |3,ho=>
   simp at ho;subst ho
   have hu2:u 2=V 2:=hΦ 2 (hd ⟨2,.data⟩ (by simp) (by rfl))
   rw[v2]at hu2
   clear hΦ hd
   have hG0:=hG
   have hx:∃x,u=(upd x 2 (.int .u32 (ti:Int))):=⟨u,by rw[←aQ hu2]⟩
   clear hu2
   obtain⟨x,rfl⟩:=hx
   simp only[upd,reduceIte,Nat.reduceEqDiff]
   go_simp
   refine(lI ti w3 (by omega)).mono ?_
   rintro e w4 ⟨rfl,hf4⟩
   rw[←Hy2.out]
   exact hK _ _ v3.symm (hG0.none hf4) (fun _ _ _ h=>h)
  |4,ho=>
   simp at ho;subst ho
   have hu1:u 1=V 1:=hΦ 1 (hd ⟨1,.data⟩ (by simp) (by rfl))
   rw[v1]at hu1
   have hu3:u 3=V 3:=hΦ 3 (hd ⟨3,.data⟩ (by simp) (by rfl))
   rw[v3]at hu3
   clear hΦ hd
   have hx:∃x,u=(upd (upd x 1 (.string (bs y1))) 3 (.string (bs y2))):=⟨u,by rw[←aQ hu1,←aQ hu3]⟩
   clear hu1 hu3
   obtain⟨x,rfl⟩:=hx
   simp only[upd,reduceIte,Nat.reduceEqDiff]
   have hln:¬9223372036854775807<y1.length+y2.length:=by have l1:=Ly1.out;have l2:=Ly2.out;omega
   go_simp
   rw[←Ht1.out]
   exact hK _ _ v4.symm hG (fun _ _ _ h=>h)
  |5,ho=>
   simp at ho;subst ho
   have hu4:u 4=V 4:=hΦ 4 (hd ⟨4,.data⟩ (by simp) (by rfl))
   rw[v4]at hu4
   clear hΦ hd
   have hx:∃x,u=(upd x 4 (.string (bs t1))):=⟨u,by rw[←aQ hu4]⟩
   clear hu4
   obtain⟨x,rfl⟩:=hx
   simp only[upd,reduceIte,Nat.reduceEqDiff]
   have hln:¬9223372036854775807<t1.length+c1.length:=by have l1:=Lt1.out;have l2:=Lc1.out;omega
   have hcs:(⟨#[0,17]⟩:ByteArray)=bs c1:=by rw[Hc1.out];rfl
   go_simp
   rw[←Ht2.out]
   exact hK _ _ v5.symm hG (fun _ _ _ h=>h)
  |6,ho=>
   simp at ho;subst ho
   clear hΦ hd
   go_simp
   exact hK _ _ v6.symm hG (fun _ _ _ h=>h)
  |7,ho=>
   simp at ho;subst ho
   have hu6:u 6=V 6:=hΦ 6 (hd ⟨6,.data⟩ (by simp) (by rfl))
   rw[v6]at hu6
   clear hΦ hd
   have hG0:=hG
   have hx:∃x,u=(upd x 6 (.int .i64 n)):=⟨u,by rw[←aQ hu6]⟩
   clear hu6
   obtain⟨x,rfl⟩:=hx
   simp only[upd,reduceIte,Nat.reduceEqDiff]
   go_simp
   refine(F5 n 2 w3 hn0 (by omega) (by omega)).mono ?_
   rintro e w4 ⟨rfl,hf4⟩
   rw[←Hy3.out]
   exact hK _ _ v7.symm (hG0.none hf4) (fun _ _ _ h=>h)
  |8,ho=>
   simp at ho;subst ho
   have hu5:u 5=V 5:=hΦ 5 (hd ⟨5,.data⟩ (by simp) (by rfl))
   rw[v5]at hu5
   have hu7:u 7=V 7:=hΦ 7 (hd ⟨7,.data⟩ (by simp) (by rfl))
   rw[v7]at hu7
   clear hΦ hd
   have hx:∃x,u=(upd (upd x 5 (.string (bs t2))) 7 (.string (bs y3))):=⟨u,by rw[←aQ hu5,←aQ hu7]⟩
   clear hu5 hu7
   obtain⟨x,rfl⟩:=hx
   simp only[upd,reduceIte,Nat.reduceEqDiff]
   have hln:¬9223372036854775807<t2.length+y3.length:=by have l1:=Lt2.out;have l2:=Ly3.out;omega
   go_simp
   rw[←Ht3.out]
   exact hK _ _ v8.symm hG (fun _ _ _ h=>h)
  |9,ho=>
   simp at ho;subst ho
   have hu8:u 8=V 8:=hΦ 8 (hd ⟨8,.data⟩ (by simp) (by rfl))
   rw[v8]at hu8
   clear hΦ hd
   have hx:∃x,u=(upd x 8 (.string (bs t3))):=⟨u,by rw[←aQ hu8]⟩
   clear hu8
   obtain⟨x,rfl⟩:=hx
   simp only[upd,reduceIte,Nat.reduceEqDiff]
   go_simp
   exact hK _ _ v9.symm hG (fun _ _ _ h=>h)
 ·rintro u w3 hu L hall hG
  have hG0:=hG
  have h9:u 9=V 9:=hu 9 (by simp)
  rw[v9]at h9
  clear hu hall
  rw[h9]
  have hA:t3=bC fi ti n.toNat:=by rw[Ht3.out,Ht2.out,Ht1.out,Hc1.out,Hy1.out,Hy2.out,Hy3.out];rfl
  rw[hA]
  clear hA
  generalize hR:bC fi ti n.toNat=R at*
  have HR:=Lib.hid hR
  clear hR
  go_wp2_with fail
  go_ret
  exact⟨by rw[HR.out];rfl,hG0⟩
end Go.Proofs.YtcllkmllflheiaaGreatDoor
namespace Go.Proofs.YtcllkmllflheiaaGreatDoor
open Go.RowKit Go.Proofs
attribute [local go_sem] aG aD cV aF
def Bq (fm tp n:Nat):List UInt8:=big 2 fm++big 2 tp++big 2 n
def eR (fm tp:Nat) (ld:List UInt8) (sum:Nat):List UInt8:=Bq fm tp (8+ld.length)++big 2 sum++ld
def fY (fm tp fi ti:Nat) (ld:List UInt8):Nat:=fB (bC fi ti (8+ld.length)++Bq fm tp (8+ld.length)++[0,0]++ld)
def lK (fm tp fi ti:Nat) (ld:List UInt8):Nat:=if fY fm tp fi ti ld=0 then 65535 else fY fm tp fi ti ld
def mI (fm tp fi ti:Nat) (ld:List UInt8):List UInt8×Nat:=if 1480<8+ld.length then([],7)else(eR fm tp ld (lK fm tp fi ti ld),0)
theorem Ca (fm tp fi ti:Nat) (ld:List UInt8):lK fm tp fi ti ld≤65535:=by
 unfold lK;split
 ·omega
 ·exact nL _
theorem xJ (fm tp n:Nat):(Bq fm tp n).length=6:=by simp[Bq,aH]
theorem pI (fm tp:Nat) (ld:List UInt8) (sum:Nat):(eR fm tp ld sum).length=8+ld.length:=by simp[eR,Bq,aH];omega
theorem AZ (fm tp fi ti:Nat) (ld:List UInt8):fB (bC fi ti (8+ld.length)++eR fm tp ld 0)=fY fm tp fi ti ld:=by
 have e:big 2 0=[0,0]:=by decide
 unfold fY eR;rw[e];simp only[List.append_assoc]
theorem F9 (fm tp sum:Nat) (ld:List UInt8):([]++bG 2 [(fm:Int),(tp:Int),(8+(ld.length:Int)),(sum:Int)]++List.flatten [ld])=eR fm tp ld sum:=by
 have e1:(8+(ld.length:Int)).toNat=8+ld.length:=by omega
 simp only[bG,List.flatMap_cons,List.flatMap_nil,List.append_nil,e1,Int.toNat_natCast,List.nil_append,List.flatten_cons,List.flatten_nil,eR,Bq,List.append_assoc]
theorem oC (fm tp:Nat) (ld:List UInt8) (sum q qn:Nat) (w:World) (hfm:fm<65536) (htp:tp<65536) (hsum:sum<65536) (hl2:ld.length≤1480) (hq:Bk w q 134 #[.int .u16 (fm:Int),.int .u16 (tp:Int),.string (bs ld)]) (hqn:Bk w qn 3 #[.int .i64 (8+(ld.length:Int))]):
 Calls Tryz.prog 196 #[.int .u16 (sum:Int),.pointer (some ⟨q,0,none⟩),.pointer (some ⟨qn,0,none⟩)] w (fun e w'=>e= .returned (.string (bs (eR fm tp ld sum)))∧Fr noB w w'):=by
 have hql:=hq.lt
 have hqnl:=hqn.lt
 have hpa:=hq.alloc (.cells #[.slice none 0 0] 200)
 have hpn:=hqn.alloc (.cells #[.slice none 0 0] 200)
 have hbw:=Bk.new w 200 #[.slice none 0 0]
 have hf0:Fr noB w (w.alloc (.cells #[.slice none 0 0] 200)):=(Fr.refl _ _).alloc _
 have hsz:(w.alloc (.cells #[.slice none 0 0] 200)).heap.size=w.heap.size+1:=by simp
 go_enter Tryz.func196,Tryz.ntmps196
 go_upto_region 2 with fail
 generalize w.alloc (.cells #[.slice none 0 0] 200)=w1 at*
 have hwr0:=Wr.zero hbw
 have e7:IntKind.u16.wrap (8+(ld.length:Int))=8+(ld.length:Int):=by rw[IntKind.wrap_u16];omega
 have e7':(8+(ld.length:Int))%65536=8+(ld.length:Int):=by omega
 have hN:=BU (l0:=([]:List UInt8)) (fs:=[(· ++bG 2 [(fm:Int),(tp:Int),(8+(ld.length:Int)),(sum:Int)]),(· ++List.flatten [ld])]) (by simp) 2000000 (by intro f hf l;simp at hf;rcases hf with rfl|rfl<;>simp[aN,cG,aH]<;>omega) (by simp)
 refine jK (n:=23) (w1:=w1) (p:=w.heap.size) (lst:=jT ([]:List UInt8) _) (ats:=[9,13]) (kn:=[(5,.pointer (some ⟨w.heap.size,0,none⟩)),(1,pt q),(2,pt qn),(0,.int .u16 (sum:Int))]) (ex:=[]) (sp:=[(8,.v (.pointer (some ⟨w.heap.size,0,none⟩))),(9,.v (pt q)),(10,.v (.int .u16 (fm:Int))),(11,.v (.pointer (some ⟨q,1,none⟩))),(12,.v (.int .u16 (tp:Int))),(13,.v (.int .i64 (8+(ld.length:Int)))),(14,.v (.int .u16 (8+(ld.length:Int)))),(15,.v (.int .u16 (sum:Int))),(16,.m 4 80 #[.int .u16 (fm:Int),.int .u16 (tp:Int),.int .u16 (8+(ld.length:Int)),.int .u16 (sum:Int)]),(17,.w 0),(18,.v (.pointer (some ⟨q,2,none⟩))),(19,.v (.string (bs ld))),(20,.m 1 9 #[.string (bs ld)]),(21,.w 1),(22,.s 2),(4,.v (.string (bs (jT ([]:List UInt8) [(· ++bG 2 [(fm:Int),(tp:Int),(8+(ld.length:Int)),(sum:Int)]),(· ++List.flatten [ld])] 2))))]) ⟨rfl,rfl⟩ (Chn.start0 hwr0 rfl) .nil (by simp[sl])
  (okv []<|okv []<|okl [1] (fun _ _ _ c x=>((hpa).keep c.fr (by unfold aJ;have:=c.lt;omega)).cells)<|okv []<|okl [3] (fun _ _ _ c x=>((hpa).keep c.fr (by unfold aJ;have:=c.lt;omega)).cells)<|okl [] (fun _ _ _ c x=>((hpn).keep c.fr (by unfold aJ;have:=c.lt;omega)).cells)<|okv [5]<|okv []<|okm [2,4,6,7]<|oka 8 [0] rfl (fun _ _ _ c s=>s.U16 c (hN 0) [(fm:Int),(tp:Int),(8+(ld.length:Int)),(sum:Int)])<|okv []<|okl [10] (fun _ _ _ c x=>((hpa).keep c.fr (by unfold aJ;have:=c.lt;omega)).cells)<|okm [11]<|oka 12 [9] rfl (fun _ _ _ c s=>s.STR c (hN 1) [ld])<|oks [13] (fun _ _ c=>kH _ _ _ _ c.wr)<|okv [14]<|okn) ?_ (by kernel_rfl) (by kernel_rfl) (by kernel_rfl) (by kernel_rfl)
 intro a' w3 A' hs' hk' hv' hch _
 rw[Kp.eq_put (n:=23) [8,9,10,11,12,13,14,15,16,17,18,19,20,21,22,4] ⟨rfl,rfl⟩ hs' (Kp.kx hk':Kp (kx 23 [8,9,10,11,12,13,14,15,16,17,18,19,20,21,22,4]) _ _) rfl rfl]
 simp only[List.foldl,Act.put,List.setIfInBounds_toArray,List.set_cons_zero,List.set_cons_succ]
 rw[(hv' 15 4 _ rfl:sl a' 4= .string (bs (jT ([]:List UInt8) [(· ++bG 2 [(fm:Int),(tp:Int),(8+(ld.length:Int)),(sum:Int)]),(· ++List.flatten [ld])] 2)))]
 have hby:jT [] [(· ++bG 2 [(fm:Int),(tp:Int),(8+(ld.length:Int)),(sum:Int)]),(· ++List.flatten [ld])] 2=eR fm tp ld sum:=F9 _ _ _ _
 rw[hby]
 have hfr:=hf0.trans' hch.fr (fun b hb e=>by unfold aJ at e;omega)
 generalize hR:eR fm tp ld sum=R at*
 have HR:=Lib.hid hR
 clear hR
 go_wp2_with fail
 go_ret
 exact⟨by rw[HR.out];rfl,hfr⟩
attribute [local simp] ltN leN eqN eqL ltL gtL leL geL
theorem oW (fm tp fi ti:Nat) (ld:List UInt8) (w:World) (hfm:fm<65536) (htp:tp<65536) (hfi:fi<4294967296) (hti:ti<4294967296) (hld:ld.length≤4611686018427387000):
 Calls Tryz.prog 142 #[.agg #[.int .u16 (fm:Int),.int .u16 (tp:Int),.string (bs ld)],.int .u32 (fi:Int),.int .u32 (ti:Int)] w (eL (mI fm tp fi ti ld) w):=by
 have e8:IntKind.i64.wrap (8+(ld.length:Int))=8+(ld.length:Int):=IntWalk.i64_in _ (by omega)
 have hmf:∀(fn:Fn) (first cap:Array Value) (w:World),(Instr.makeFunc fn first cap).run Tryz.prog w= .ok (.func fn first cap) w:=fun _ _ _ _=>rfl
 refine en Tryz.func142 Tryz.ntmps142 ?_
 refine W ?_
 refine sA ?_
 intro w1 hA f1
 refine W ?_
 refine sA ?_
 intro w2 hN f2
 have hc:=hN.cells
 have hz:=hN.frees
 have hAl:=hA.lt
 have hN3:=hN.set 0 (.int .i64 (8+(ld.length:Int)))
 have hA3:=(hA.keep f2 id).far (p:=⟨w1.heap.size,0,none⟩) (by simp;omega) (.int .i64 (8+(ld.length:Int)))
 have f3:=(f1.none f2).setCell (p:=⟨w1.heap.size,0,none⟩) (fun x=>absurd x (by show ¬w1.heap.size<w.heap.size;omega)) (.int .i64 (8+(ld.length:Int)))
 replace hN3:Bk _ w1.heap.size 3 #[.int .i64 (8+(ld.length:Int))]:=hN3
 refine W ?_
 refine sS (h:= ?_)
 clear hc hz hN hA hAl f1 f2
 generalize w2.setCell ⟨w1.heap.size,0,none⟩ (.int .i64 (8+(ld.length:Int)))=w3 at*
 by_cases h1:1480<8+ld.length
 ·have b1:1480<8+(ld.length:Int):=by omega
  refine W ?_
  exact⟨by unfold mI;rw[if_pos h1];rfl,f3⟩
 have b1:¬1480<8+(ld.length:Int):=by omega
 have hs:Hid (mI fm tp fi ti ld=(eR fm tp ld (lK fm tp fi ti ld),0)):=by unfold Hid mI;rw[if_neg h1]
 have hl2:ld.length≤1480:=by omega
 have Hl:=Lib.hid hl2
 clear h1 hl2
 refine W ?_
 refine sC (yW fi ti (8+(ld.length:Int)) w3 hfi hti (by omega) (by have:=Hl.out;omega)) ?_
 intro w4 f4
 rw[show(8+(ld.length:Int)).toNat=8+ld.length by omega]
 refine W ?_
 refine sC (oC fm tp ld 0 w.heap.size w1.heap.size w4 hfm htp (by decide) Hl.out (hA3.keep f4 id) (hN3.keep f4 id)) ?_
 intro w5 f5
 refine W ?_
 refine sA ?_
 intro w6 hB f6
 refine W ?_
 refine sC (lL (some ⟨w5.heap.size,0,none⟩) 2 (bC fi ti (8+ld.length)) (eR fm tp ld 0) w6 (SlR.of_bk hB (fun x=>x) rfl) (by rw[lP];omega) (by rw[pI];have:=Hl.out;omega)) ?_
 rintro _ rfl
 rw[AZ]
 have f7:=(f4.none f5).none f6
 have hle:=Ca fm tp fi ti ld
 clear hB f4 f5 f6 b1 e8
 by_cases t0:fY fm tp fi ti ld=0
 ·have e:lK fm tp fi ti ld=65535:=by unfold lK;rw[if_pos t0]
  refine W ?_
  refine sC (oC fm tp ld 65535 w.heap.size w1.heap.size w6 hfm htp (by decide) Hl.out (hA3.keep f7 id) (hN3.keep f7 id)) ?_
  intro w8 f8
  refine W ?_
  exact⟨by rw[hs.out,e];rfl,(f3.none f7).none f8⟩
 ·have e:lK fm tp fi ti ld=fY fm tp fi ti ld:=by unfold lK;rw[if_neg t0]
  rw[e]at hle
  refine W ?_
  refine sC (oC fm tp ld (fY fm tp fi ti ld) w.heap.size w1.heap.size w6 hfm htp (by omega) Hl.out (hA3.keep f7 id) (hN3.keep f7 id)) ?_
  intro w8 f8
  refine W ?_
  exact⟨by rw[hs.out,e];rfl,(f3.none f7).none f8⟩
end Go.Proofs.YtcllkmllflheiaaGreatDoor
namespace Go.Proofs.YtcllkmllflheiaaGreatDoor
open Go.RowKit Go.Proofs
attribute [local go_sem] aG aD aE
def eQ (c:UInt8):Bool:=decide (33≤c.toNat)&&decide (c.toNat≤126)
def gJ (l:List UInt8):Bool:=l.all eQ&&decide (0<l.length)
theorem wC {l:List UInt8} {i:Nat} {c:UInt8} (h:l[i]? =some c) (hc:eQ c=false):gJ l=false:=by
 unfold gJ
 have:l.all eQ=false:=by
  rw[List.all_eq_false]
  exact⟨c,List.mem_of_getElem? h,by rw[hc];decide⟩
 rw[this];rfl
theorem zZ {l:List UInt8} {i:Nat} {c:UInt8} (h:l[i]? =some c) (ha:(l.take i).all eQ=true) (hc:eQ c=true):(l.take (i+1)).all eQ=true:=by
 rw[List.take_add_one,h];simp[List.all_append,ha,hc]
theorem oO (l:List UInt8) (w:World) (hl:l.length≤4611686018427387904):
 Calls Tryz.prog 31 #[.string (bs l)] w fun e w'=>e= .returned (.bool (gJ l))∧w'=w:=by
 go_enter Tryz.func31,Tryz.ntmps31
 go_wp2_with fail
 go_loopw [3] (fun iv wr=>∃(i:Nat),i≤l.length∧iv= .int .i64 (i:Int)∧(l.take i).all eQ=true∧wr=w) (fun iv _=>l.length-(intOf iv).toNat)
 case atStart=>exact⟨0,by omega,rfl,rfl,rfl⟩
 case round=>
  obtain⟨i,hi,rfl,ha,hw⟩:=hrel
  subst hw
  by_cases hlt:i<l.length
  ·obtain⟨c,hc⟩:∃c,l[i]? =some c:=⟨_,List.getElem?_eq_getElem hlt⟩
   have hgi:∀h:i<(bs l).size,(bs l)[i]'h=c:=fun h=>by rw[gW l i h];rw[List.getElem?_eq_getElem hlt]at hc;injection hc
   have hcl:=c.toNat_lt
   have Hc:=Lib.hid hc
   clear hc
   by_cases h1:c.toNat<33
   ·have hbad:gJ l=false:=wC Hc.out (by unfold eQ;simp;omega)
    have Hbad:=Lib.hid hbad
    clear hbad
    have h1i:(c.toNat:Int)<33:=by omega
    go_wp2_with fail
    go_ret
    exact⟨congrArg (fun b=>Ending.returned (.bool b)) Hbad.out.symm,rfl⟩
   ·have h1i:¬(c.toNat:Int)<33:=by omega
    by_cases h2:126<c.toNat
    ·have hbad:gJ l=false:=wC Hc.out (by unfold eQ;simp;omega)
     have Hbad:=Lib.hid hbad
     clear hbad
     have h2i:126<(c.toNat:Int):=by omega
     go_wp2_with fail
     go_ret
     exact⟨congrArg (fun b=>Ending.returned (.bool b)) Hbad.out.symm,rfl⟩
    ·have h2i:¬126<(c.toNat:Int):=by omega
     have ha2:=zZ Hc.out ha (by unfold eQ;simp;omega)
     have Ha2:=Lib.hid ha2
     clear ha2 ha
     go_wp2_with fail
     exact⟨⟨i+1,by omega,by rw[Int.natCast_add];rfl,Ha2.out,trivial⟩,by simp only[intOf];omega⟩
  ·obtain rfl:i=l.length:=by omega
   rw[List.take_length]at ha
   have hfin:gJ l=decide (0<l.length):=by unfold gJ;rw[ha];rfl
   have Hfin:=Lib.hid hfin
   clear ha hfin
   go_wp2_with fail
   go_ret
   exact⟨congrArg (fun b=>Ending.returned (.bool b)) (by rw[Hfin.out];try simp),rfl⟩
end Go.Proofs.YtcllkmllflheiaaGreatDoor
namespace Go.Proofs.YtcllkmllflheiaaGreatDoor
open Go.RowKit Go.Proofs
attribute [local go_sem] aG aD aE
def Kr (c:UInt8):UInt8:=if 65≤c.toNat∧c.toNat≤90 then c+32 else c
def Is (l:List UInt8):List UInt8:=l.map Kr
end Go.Proofs.YtcllkmllflheiaaGreatDoor
namespace Go.Proofs.YtcllkmllflheiaaGreatDoor
structure CP where
 name:List UInt8
 value:List UInt8
structure FY where
 op:Nat
 block:Nat
 text:List UInt8
 data:List UInt8
 fs:List CP
def zH:FY:=⟨0,0,[],[],[]⟩
def qV:List UInt8→Option (List UInt8×List UInt8)
 |[]=>none
 |c::r=>if c=0 then some ([],r)else(qV r).map fun x=>(c::x.1,x.2)
def named (fs:List CP) (n:List UInt8):Bool:=fs.any fun f=>f.name==n
def Cu:Nat→List CP→List UInt8→Option (List CP)
 |0,_,_=>none
 |_+1,fs,[]=>some fs
 |n+1,fs,c::l=>match qV (c::l)with
  |none=>none
  |some (a,r)=>match qV r with
   |none=>none
   |some (b,r2)=>if gJ a&&gJ b&& !(named fs (Is a))then Cu n (fs++[⟨Is a,b⟩]) r2 else none
def G1 (fs:List CP) (l:List UInt8):Option (List CP):=Cu (l.length+1) fs l
def I0:List UInt8:=[111,99,116,101,116]
def sH (l:List UInt8):FY×Nat:=
 if l.length<2 then(zH,1)
 else if num (sub l 0 2)=1 then match qV (l.drop 2)with
  |none=>(zH,2)
  |some (a,r)=>if gJ a=false then(zH,2)else match qV r with
   |none=>(zH,2)
   |some (b,r2)=>if Is b=I0 then(match G1 [] r2 with
    |none=>(zH,2)
    |some fs=>(⟨1,0,a,[],fs⟩,0))else(zH,2)
 else if num (sub l 0 2)=6 then match G1 [] (l.drop 2)with
  |none=>(zH,2)
  |some fs=>(⟨6,0,[],[],fs⟩,0)
 else if num (sub l 0 2)=3 then if l.length<4 then(zH,1)else if 1024<(l.drop 4).length then(zH,7)else(⟨3,num (sub l 2 4),[],l.drop 4,[]⟩,0)
 else if num (sub l 0 2)=4 then if l.length<4 then(zH,1)else if l.drop 4≠[]then(zH,2)else(⟨4,num (sub l 2 4),[],[],[]⟩,0)
 else if num (sub l 0 2)=5 then if l.length<4 then(zH,1)else match qV (l.drop 4)with
  |some (a,[])=>(⟨5,num (sub l 2 4),a,[],[]⟩,0)
  |_=>(zH,2)
 else(zH,2)
end Go.Proofs.YtcllkmllflheiaaGreatDoor
