/- Parts of the walk; written by programs, merged. -/
import Derived.Test.YtcllkmllflheiaaGreatDoorLag
import Derived.Lib.LaidTab
import Derived.Lib.ItoaNum
import Derived.Maps.Own
import Derived.Maps.OwnOps
import Derived.Maps.OwnSet
import Derived.Maps.Views
import Derived.Lib.LaidU8T
import Derived.PinnedBridge
set_option linter.unusedSimpArgs false
set_option linter.unusedVariables false
set_option maxRecDepth 20000
set_option maxHeartbeats 8000000
namespace Go.Proofs.YtcllkmllflheiaaGreatDoor
open Go.RowKit Go.Proofs Go.Maps
def pB (e:aS):Value:= .agg #[.int .u8 (e.card.1.toNat:Int),.int .u8 (e.card.2.1.toNat:Int),.int .u8 (e.card.2.2.1.toNat:Int),.int .u8 (e.card.2.2.2.1.toNat:Int),.int .u8 (e.card.2.2.2.2.1.toNat:Int),.int .u8 (e.card.2.2.2.2.2.toNat:Int),.bool e.known,.int .i64 e.due,.int .i64 e.asked,.string (bs e.waits)]
def fE (e:aS):DataW Unit:= .agg [.lit (.int .u8 (e.card.1.toNat:Int)),.lit (.int .u8 (e.card.2.1.toNat:Int)),.lit (.int .u8 (e.card.2.2.1.toNat:Int)),.lit (.int .u8 (e.card.2.2.2.1.toNat:Int)),.lit (.int .u8 (e.card.2.2.2.2.1.toNat:Int)),.lit (.int .u8 (e.card.2.2.2.2.2.toNat:Int)),.lit (.bool e.known),.lit (.int .i64 e.due),.lit (.int .i64 e.asked),.lit (.string e.waits)]
def AX:Value→Option (DataW Unit)
 | .int k n=>some (.lit (.int k n))
 | .bool b=>some (.lit (.bool b))
 | .string s=>some (.lit (.string s.data.toList))
 |_=>none
def kB:List Value→Option (List (DataW Unit))
 |[]=>some []
 |v::r=>match AX v,kB r with
  |some d,some l=>some (d::l)
  |_,_=>none
theorem C5 {a b:Value} {d:DataW Unit} (ha:AX a=some d) (hb:AX b=some d):a=b:=by
 cases a<;>simp only[AX,Option.some.injEq,reduceCtorEq]at ha<;>cases b<;>simp only[AX,Option.some.injEq,reduceCtorEq]at hb<;>rw[←hb]at ha<;>simp only[DataW.lit.injEq,Lit.int.injEq,Lit.bool.injEq,Lit.string.injEq,reduceCtorEq]at ha
 ·rw[ha]
 ·rw[ha.1,ha.2]
 ·next s t=>
  have h:=congrArg bs ha
  rw[xP,xP]at h
  rw[h]
theorem qU:∀{a b:List Value} {l:List (DataW Unit)},kB a=some l→kB b=some l→a=b
 |[],[],_,_,_=>rfl
 |[],y::s,l,ha,hb=>by
  simp only[kB,Option.some.injEq]at ha;subst ha
  simp only[kB]at hb
  split at hb<;>cases hb
 |x::r,[],l,ha,hb=>by
  simp only[kB,Option.some.injEq]at hb;subst hb
  simp only[kB]at ha
  split at ha<;>cases ha
 |x::r,y::s,l,ha,hb=>by
  simp only[kB]at ha hb
  split at ha
  ·next d1 l1 h1 h2=>
   split at hb
   ·next d2 l2 h3 h4=>
    cases ha
    cases hb
    rw[C5 h1 h3,qU h2 h4]
   ·cases hb
  ·cases ha
def mE:Value→Option (DataW Unit×List MemPlace)
 | .agg cs=>(kB cs.toList).map fun l=>(.agg l,[])
 |_=>none
theorem fV (e:aS):mE (pB e)=some (fE e,[]):=by simp[pB,mE,fE,kB,AX,bs]
theorem jN {v:Value} {e:aS} {ps:List MemPlace} (h:mE v=some (fE e,ps)):v=pB e:=by
 cases v<;>simp only[mE,reduceCtorEq]at h
 next cs=>
 rw[Option.map_eq_some_iff]at h
 obtain⟨l,h1,h2⟩:=h
 injection h2 with h2 _
 have h3:=fV e
 simp only[pB,mE,Option.map_eq_some_iff]at h3
 obtain⟨l',h4,h5⟩:=h3
 injection h5 with h5 _
 rw[←h5]at h2
 injection h2 with h2
 subst h2
 have:=qU h1 h4
 unfold pB
 congr 1
 apply Array.ext'
 exact this
def ipL (ip:Nat):Lit:= .int .u32 (ip:Int)
structure Rep (D:DataW Unit) (l:List aS):Prop where
 nd:(l.map (·.ip)).Nodup
 lt:∀e∈l,e.ip<4294967296
 has:∀ip,Maps.has D (ipL ip)=l.any fun e=>e.ip==ip
 at_:∀e∈l,∀z,D.atKey (ipL e.ip) z=fE e
 size:Maps.size D=l.length
 tidy:Tidy D
def dR (w:World) (b:Nat) (l:List aS):Prop:=∃D:DataW Unit,w.ownsMap Tryz.prog 53 mE b l.length D∧Rep D l
structure Lay where
 p:Nat
 rx:Nat
 rxs:Nat
 tx:Nat
 txs:Nat
 mp:Nat
 img:Option Addr
 icap:Nat
def Lay.blocks (L:Lay):List Nat:=[L.p,L.rx,L.rxs,L.tx,L.txs,L.mp]
def bW (L:Lay) (b:Nat):Prop:=b∈L.blocks∨∃a,L.img=some a∧a.block=b
def eC (s:St) (L:Lay):Array Value:= #[.int .u8 (s.c.card.1.toNat:Int),.int .u8 (s.c.card.2.1.toNat:Int),.int .u8 (s.c.card.2.2.1.toNat:Int),.int .u8 (s.c.card.2.2.2.1.toNat:Int),.int .u8 (s.c.card.2.2.2.2.1.toNat:Int),.int .u8 (s.c.card.2.2.2.2.2.toNat:Int),
 .string (bs s.c.name),.int .i64 (s.c.cap:Int),.string (bs s.c.digest),.int .i64 (s.c.block:Int),.int .i64 (s.c.window:Int),.int .i64 (s.c.rx:Int),.int .i64 (s.c.tx:Int),
 .pointer (some ⟨L.rx,0,none⟩),.pointer (some ⟨L.tx,0,none⟩),.map (some L.mp),.int .i64 s.now,.int .u32 (s.draw:Int),.int .i64 s.boots,.int .i64 s.lost,.int .u16 ((s.id%65536:Nat):Int),
 .int .i64 (s.lease:Int),.int .u32 (s.xid:Int),.int .u32 (s.addr:Int),.int .u32 (s.mask:Int),.int .u32 (s.router:Int),.int .u32 (s.server:Int),.int .u32 (s.source:Int),.int .i64 s.t1,.int .i64 s.t2,.int .i64 s.untl,.int .i64 s.lagain,.int .i64 (s.lsends:Int),
 .int .i64 (s.phase:Int),.int .u16 (s.port:Int),.int .u16 (s.peer:Int),.int .u16 (s.goal:Int),.int .i64 (s.block:Int),.int .i64 (s.wind:Int),.int .u16 ((s.next%65536:Nat):Int),.int .i64 s.came,.int .i64 s.tagain,.int .i64 (s.tsends:Int),.string (bs s.last),.slice L.img s.image.length L.icap]
structure St.Ok (s:St):Prop where
 rx0:0<s.c.rx
 rx1:s.c.rx≤16
 tx0:0<s.c.tx
 tx1:s.c.tx≤16
 draw:s.draw<4294967296
 xid:s.xid<4294967296
 addr:s.addr<4294967296
 mask:s.mask<4294967296
 router:s.router<4294967296
 server:s.server<4294967296
 source:s.source<4294967296
 lsends:s.lsends≤4
 tsends:s.tsends≤4
 port:s.port<65536
 peer:s.peer<65536
 goal:s.goal<65536
 last:s.last.length≤1472
 name:s.c.name.length≤20
 cap:s.c.cap≤600000
 block:s.c.block≤1024
 window:s.c.window≤8
 blk:s.block≤1024
 wind:s.wind≤8
 next:s.next≤s.image.length+2
 image:s.image.length≤s.c.cap
 waits:∀e∈s.cache,e.waits.length≤1500
 cache:s.cache.length≤4
 now0:0≤s.now
 now1:s.now≤4611686018427387904
 dues:∀e∈s.cache,0≤e.due∧e.due≤4611686018427388000
def wU (w:World) (g:Nat) (cs:Array Value):Prop:=g<w.heap.size∧∀(j:Nat) (u:Value),cs[j]? =some u→w.cell? ⟨g,j,none⟩=some u
theorem wU.keep {w w':World} {S:Nat→Prop} {g:Nat} {cs:Array Value} (h:wU w g cs) (hf:Fr S w w') (hg:¬S g):wU w' g cs:=
 ⟨Nat.lt_of_lt_of_le h.1 hf.size,fun j u hu=>(hf.cell (a:=⟨g,j,none⟩) h.1 hg).trans (h.2 j u hu)⟩
theorem E0 {P:Program} {w:World} {g:Nat} {name:String} {k:IntKind} {zs:List Int} (h:Lib.TabIs P w name k zs) (hn:P.globalNamed name=some g):g<w.heap.size:=by
 unfold Lib.TabIs World.var? at h
 rw[hn]at h
 rcases Nat.lt_or_ge g w.heap.size with h1|h1
 ·exact h1
 ·simp[Array.getElem?_eq_none h1]at h
theorem Eu {P:Program} {w w':World} {S:Nat→Prop} {g:Nat} {name:String} {k:IntKind} {zs:List Int} (h:Lib.TabIs P w name k zs) (hn:P.globalNamed name=some g) (hf:Fr S w w') (hg:¬S g):Lib.TabIs P w' name k zs:=by
 have hlt:=E0 h hn
 unfold Lib.TabIs World.var? at h⊢
 rw[hn]at h⊢
 simp only[Option.bind_some]at h⊢
 rw[hf.block g hlt hg];exact h
theorem JN:Tryz.prog.globalNamed "internal/strconv.uint64pow10" =some 3:=by kernel_rfl
def glB (b:Nat):Prop:=b=0∨b=5∨b=2∨b=8∨b=9∨b=3
structure Glb (w:World):Prop where
 all:wU w 0 #[.int .u8 255,.int .u8 255,.int .u8 255,.int .u8 255,.int .u8 255,.int .u8 255]
 rounds:RU w 5 GA
 begin:RU w 2 h0.list
 tabs:Gy w
 pow:Lib.TabIs Tryz.prog w "internal/strconv.uint64pow10" .u64 Lib.pow10Tab
theorem Glb.keep {w w':World} {S:Nat→Prop} (h:Glb w) (hf:Fr S w w') (hS:∀b,glB b→¬S b):Glb w' where
 all:=h.all.keep hf (hS _ (.inl rfl))
 rounds:=h.rounds.keep hf (hS _ (.inr (.inl rfl)))
 begin:=h.begin.keep hf (hS _ (.inr (.inr (.inl rfl))))
 tabs:=h.tabs.keep hf (hS _ (.inr (.inr (.inr (.inl rfl))))) (hS _ (.inr (.inr (.inr (.inr (.inl rfl))))))
 pow:=Eu h.pow JN hf (hS _ (.inr (.inr (.inr (.inr (.inr rfl))))))
structure aC (w:World) (L:Lay) (s:St):Prop where
 bk:Bk w L.p 86 (eC s L)
 rx:fG w L.rx L.rxs s.c.rx s.rx
 tx:fG w L.tx L.txs s.c.tx s.tx
 mp:dR w L.mp s.cache
 im:w.ownsRow 0 5 1 (.slice L.img s.image.length L.icap) s.image.length (u8s s.image)
 ne:L.blocks.Nodup
 ni:∀a,L.img=some a→a.block∉L.blocks
 ok:s.Ok
 gb:Glb w
 gd:∀b,bW L b→¬glB b
section
variable {w:World} {L:Lay} {s:St}
theorem aC.g0 (h:aC w L s):w.cell? ⟨L.p,0,none⟩=some (.int .u8 (s.c.card.1.toNat:Int)):=h.bk.cell 0
theorem aC.g1 (h:aC w L s):w.cell? ⟨L.p,1,none⟩=some (.int .u8 (s.c.card.2.1.toNat:Int)):=h.bk.cell 1
theorem aC.g2 (h:aC w L s):w.cell? ⟨L.p,2,none⟩=some (.int .u8 (s.c.card.2.2.1.toNat:Int)):=h.bk.cell 2
theorem aC.g3 (h:aC w L s):w.cell? ⟨L.p,3,none⟩=some (.int .u8 (s.c.card.2.2.2.1.toNat:Int)):=h.bk.cell 3
theorem aC.g4 (h:aC w L s):w.cell? ⟨L.p,4,none⟩=some (.int .u8 (s.c.card.2.2.2.2.1.toNat:Int)):=h.bk.cell 4
theorem aC.g5 (h:aC w L s):w.cell? ⟨L.p,5,none⟩=some (.int .u8 (s.c.card.2.2.2.2.2.toNat:Int)):=h.bk.cell 5
theorem aC.g13 (h:aC w L s):w.cell? ⟨L.p,13,none⟩=some (.pointer (some ⟨L.rx,0,none⟩)):=h.bk.cell 13
theorem aC.g14 (h:aC w L s):w.cell? ⟨L.p,14,none⟩=some (.pointer (some ⟨L.tx,0,none⟩)):=h.bk.cell 14
theorem aC.g15 (h:aC w L s):w.cell? ⟨L.p,15,none⟩=some (.map (some L.mp)):=h.bk.cell 15
theorem aC.g16 (h:aC w L s):w.cell? ⟨L.p,16,none⟩=some (.int .i64 s.now):=h.bk.cell 16
theorem aC.g17 (h:aC w L s):w.cell? ⟨L.p,17,none⟩=some (.int .u32 (s.draw:Int)):=h.bk.cell 17
theorem aC.g18 (h:aC w L s):w.cell? ⟨L.p,18,none⟩=some (.int .i64 s.boots):=h.bk.cell 18
theorem aC.g19 (h:aC w L s):w.cell? ⟨L.p,19,none⟩=some (.int .i64 s.lost):=h.bk.cell 19
theorem aC.g20 (h:aC w L s):w.cell? ⟨L.p,20,none⟩=some (.int .u16 ((s.id%65536:Nat):Int)):=h.bk.cell 20
theorem aC.g21 (h:aC w L s):w.cell? ⟨L.p,21,none⟩=some (.int .i64 (s.lease:Int)):=h.bk.cell 21
theorem aC.g22 (h:aC w L s):w.cell? ⟨L.p,22,none⟩=some (.int .u32 (s.xid:Int)):=h.bk.cell 22
theorem aC.g23 (h:aC w L s):w.cell? ⟨L.p,23,none⟩=some (.int .u32 (s.addr:Int)):=h.bk.cell 23
theorem aC.g24 (h:aC w L s):w.cell? ⟨L.p,24,none⟩=some (.int .u32 (s.mask:Int)):=h.bk.cell 24
theorem aC.g25 (h:aC w L s):w.cell? ⟨L.p,25,none⟩=some (.int .u32 (s.router:Int)):=h.bk.cell 25
theorem aC.g26 (h:aC w L s):w.cell? ⟨L.p,26,none⟩=some (.int .u32 (s.server:Int)):=h.bk.cell 26
theorem aC.g27 (h:aC w L s):w.cell? ⟨L.p,27,none⟩=some (.int .u32 (s.source:Int)):=h.bk.cell 27
theorem aC.g28 (h:aC w L s):w.cell? ⟨L.p,28,none⟩=some (.int .i64 s.t1):=h.bk.cell 28
theorem aC.g29 (h:aC w L s):w.cell? ⟨L.p,29,none⟩=some (.int .i64 s.t2):=h.bk.cell 29
theorem aC.g30 (h:aC w L s):w.cell? ⟨L.p,30,none⟩=some (.int .i64 s.untl):=h.bk.cell 30
theorem aC.g31 (h:aC w L s):w.cell? ⟨L.p,31,none⟩=some (.int .i64 s.lagain):=h.bk.cell 31
theorem aC.g32 (h:aC w L s):w.cell? ⟨L.p,32,none⟩=some (.int .i64 (s.lsends:Int)):=h.bk.cell 32
theorem aC.g33 (h:aC w L s):w.cell? ⟨L.p,33,none⟩=some (.int .i64 (s.phase:Int)):=h.bk.cell 33
theorem aC.g34 (h:aC w L s):w.cell? ⟨L.p,34,none⟩=some (.int .u16 (s.port:Int)):=h.bk.cell 34
theorem aC.g35 (h:aC w L s):w.cell? ⟨L.p,35,none⟩=some (.int .u16 (s.peer:Int)):=h.bk.cell 35
theorem aC.g36 (h:aC w L s):w.cell? ⟨L.p,36,none⟩=some (.int .u16 (s.goal:Int)):=h.bk.cell 36
theorem aC.g37 (h:aC w L s):w.cell? ⟨L.p,37,none⟩=some (.int .i64 (s.block:Int)):=h.bk.cell 37
theorem aC.g38 (h:aC w L s):w.cell? ⟨L.p,38,none⟩=some (.int .i64 (s.wind:Int)):=h.bk.cell 38
theorem aC.g39 (h:aC w L s):w.cell? ⟨L.p,39,none⟩=some (.int .u16 ((s.next%65536:Nat):Int)):=h.bk.cell 39
theorem aC.g40 (h:aC w L s):w.cell? ⟨L.p,40,none⟩=some (.int .i64 s.came):=h.bk.cell 40
theorem aC.g41 (h:aC w L s):w.cell? ⟨L.p,41,none⟩=some (.int .i64 s.tagain):=h.bk.cell 41
theorem aC.g42 (h:aC w L s):w.cell? ⟨L.p,42,none⟩=some (.int .i64 (s.tsends:Int)):=h.bk.cell 42
theorem aC.g43 (h:aC w L s):w.cell? ⟨L.p,43,none⟩=some (.string (bs s.last)):=h.bk.cell 43
theorem aC.g44 (h:aC w L s):w.cell? ⟨L.p,44,none⟩=some (.slice L.img s.image.length L.icap):=h.bk.cell 44
theorem aC.fr (h:aC w L s):∀j,w.frozen? ⟨L.p,j,none⟩=false:=h.bk.frees
end
theorem iT {w w':World} {S:Nat→Prop} {b n:Nat} {D:DataW Unit} (h:w.ownsMap Tryz.prog 53 mE b n D) (hf:Fr S w w') (hb:¬S b):w'.ownsMap Tryz.prog 53 mE b n D:=by
 have hl:=h.lt
 obtain⟨es,cl,h1,h2⟩:=h
 exact⟨es,cl,(hf.block b hl hb).trans h1,h2⟩
theorem dR.keep {w w':World} {S:Nat→Prop} {b:Nat} {l:List aS} (h:dR w b l) (hf:Fr S w w') (hb:¬S b):dR w' b l:=by
 obtain⟨D,h1,h2⟩:=h
 exact⟨D,iT h1 hf hb,h2⟩
theorem dR.lt {w:World} {b:Nat} {l:List aS} (h:dR w b l):b<w.heap.size:=by obtain⟨D,h1,_⟩:=h;exact h1.lt
theorem kN {w w':World} {S:Nat→Prop} {A:Option Addr} {n c:Nat} {xs:List Value} (h:w.ownsRow 0 5 1 (.slice A n c) n xs) (hf:Fr S w w') (hb:∀a,A=some a→¬S a.block):w'.ownsRow 0 5 1 (.slice A n c) n xs:=by
 refine⟨h.1,?_⟩
 rcases h.2 with h1|⟨g,cap,cur,h1,h2,h3,h4⟩
 ·exact .inl h1
 ·refine .inr ⟨g,cap,cur,h1,h2,?_,h4⟩
  have hl:g<w.heap.size:=by
   rcases Nat.lt_or_ge g w.heap.size with hlt|hge
   ·exact hlt
   ·rw[Array.getElem?_eq_none hge]at h3;cases h3
  injection h1 with h1
  exact(hf.block g hl (hb _ h1)).trans h3
theorem aC.keep {w w':World} {S:Nat→Prop} {L:Lay} {s:St} (h:aC w L s) (hf:Fr S w w') (hS:∀b,bW L b→¬S b) (hG:∀b,glB b→¬S b):aC w' L s where
 bk:=h.bk.keep hf (hS _ (.inl (by simp[Lay.blocks])))
 rx:=h.rx.keep hf (hS _ (.inl (by simp[Lay.blocks]))) (hS _ (.inl (by simp[Lay.blocks])))
 tx:=h.tx.keep hf (hS _ (.inl (by simp[Lay.blocks]))) (hS _ (.inl (by simp[Lay.blocks])))
 mp:=h.mp.keep hf (hS _ (.inl (by simp[Lay.blocks])))
 im:=kN h.im hf fun a ha=>hS _ (.inr ⟨a,ha,rfl⟩)
 ne:=h.ne
 ni:=h.ni
 ok:=h.ok
 gb:=h.gb.keep hf hG
 gd:=h.gd
theorem aC.none {w w':World} {L:Lay} {s:St} (h:aC w L s) (hf:Fr noB w w'):aC w' L s:=h.keep hf (fun _ _ x=>x) (fun _ _ x=>x)
theorem mH (L:Lay):bW L L.p:= .inl (by simp[Lay.blocks])
theorem BH (L:Lay):bW L L.rx:= .inl (by simp[Lay.blocks])
theorem xD (L:Lay):bW L L.rxs:= .inl (by simp[Lay.blocks])
theorem zD (L:Lay):bW L L.tx:= .inl (by simp[Lay.blocks])
theorem rY (L:Lay):bW L L.txs:= .inl (by simp[Lay.blocks])
theorem oP (L:Lay):bW L L.mp:= .inl (by simp[Lay.blocks])
theorem aC.turn {w w':World} {L:Lay} {s:St} (s':St) (h:aC w L s) (hf:Fr (aJ L.p) w w') (hb:Bk w' L.p 86 (eC s' L)) (hc:s'.c=s.c) (hr:s'.rx=s.rx) (ht:s'.tx=s.tx) (hm:s'.cache=s.cache) (hi:s'.image=s.image) (ok:s'.Ok):aC w' L s':=by
 have hn:=h.ne
 simp only[Lay.blocks,List.nodup_cons,List.mem_cons,List.not_mem_nil,or_false,not_or]at hn
 obtain⟨⟨n1,n2,n3,n4,n5⟩,_⟩:=hn
 refine⟨hb,?_,?_,?_,?_,h.ne,h.ni,ok,h.gb.keep hf (fun b hb x=>h.gd _ (mH L) (x▸hb)),h.gd⟩
 ·rw[hc,hr];exact h.rx.keep hf (fun x=>n1 x.symm) (fun x=>n2 x.symm)
 ·rw[hc,ht];exact h.tx.keep hf (fun x=>n3 x.symm) (fun x=>n4 x.symm)
 ·rw[hm];exact h.mp.keep hf (fun x=>n5 x.symm)
 ·rw[hi];exact kN h.im hf fun a ha x=>h.ni a ha (by simp only[Lay.blocks,List.mem_cons];exact .inl x)
theorem aC.txTurn {w w':World} {L:Lay} {s:St} {q:List (List UInt8)} (h:aC w L s) (hf:Fr (fun b=>b=L.tx∨b=L.txs) w w') (hr:fG w' L.tx L.txs s.c.tx q):aC w' L {s with tx:=q}:=by
 have hn:=h.ne
 simp only[Lay.blocks,List.nodup_cons,List.mem_cons,List.not_mem_nil,or_false,not_or]at hn
 obtain⟨⟨n1,n2,n3,n4,n5⟩,⟨m2,m3,m4,m5⟩,⟨k3,k4,k5⟩,⟨j4,j5⟩,i5,_⟩:=hn
 have ok:=h.ok
 refine⟨h.bk.keep hf (by rintro(x|x);exact n3 x;exact n4 x),h.rx.keep hf (by rintro(x|x);exact m3 x;exact m4 x) (by rintro(x|x);exact k3 x;exact k4 x),hr,
  h.mp.keep hf (by rintro(x|x);exact j5 x.symm;exact i5 x.symm),kN h.im hf fun a ha x=>h.ni a ha (by simp only[Lay.blocks,List.mem_cons];rcases x with x|x<;>simp[x]),h.ne,h.ni,{ok with},h.gb.keep hf (fun b hb x=>by rcases x with rfl|rfl;exact h.gd _ (zD L) hb;exact h.gd _ (rY L) hb),h.gd⟩
theorem aC.rxTurn {w w':World} {L:Lay} {s:St} {q:List (List UInt8)} (h:aC w L s) (hf:Fr (fun b=>b=L.rx∨b=L.rxs) w w') (hr:fG w' L.rx L.rxs s.c.rx q):aC w' L {s with rx:=q}:=by
 have hn:=h.ne
 simp only[Lay.blocks,List.nodup_cons,List.mem_cons,List.not_mem_nil,or_false,not_or]at hn
 obtain⟨⟨n1,n2,n3,n4,n5⟩,⟨m2,m3,m4,m5⟩,⟨k3,k4,k5⟩,⟨j4,j5⟩,i5,_⟩:=hn
 have ok:=h.ok
 refine⟨h.bk.keep hf (by rintro(x|x);exact n1 x;exact n2 x),hr,h.tx.keep hf (by rintro(x|x);exact m3 x.symm;exact k3 x.symm) (by rintro(x|x);exact m4 x.symm;exact k4 x.symm),
  h.mp.keep hf (by rintro(x|x);exact m5 x.symm;exact k5 x.symm),kN h.im hf fun a ha x=>h.ni a ha (by simp only[Lay.blocks,List.mem_cons];rcases x with x|x<;>simp[x]),h.ne,h.ni,{ok with},h.gb.keep hf (fun b hb x=>by rcases x with rfl|rfl;exact h.gd _ (BH L) hb;exact h.gd _ (xD L) hb),h.gd⟩
def cH (L:Lay) (s:St) (r:Value) (w:World) (e:Ending) (w':World):Prop:=e= .returned r∧aC w' L s∧Fr (bW L) w w'
theorem aC.drew {w:World} {L:Lay} {s:St} (h:aC w L s):aC w.drew L s:=h.none ((Fr.refl _ _).drew)
theorem aC.lt {w:World} {L:Lay} {s:St} (h:aC w L s):∀b,bW L b→b<w.heap.size:=by
 intro b hb
 obtain⟨i,cs,r1,r2,_⟩:=h.rx
 obtain⟨i',cs',t1,t2,_⟩:=h.tx
 rcases hb with hb|⟨a,ha,rfl⟩
 ·simp only[Lay.blocks,List.mem_cons,List.not_mem_nil,or_false]at hb
  rcases hb with rfl|rfl|rfl|rfl|rfl|rfl
  ·exact h.bk.lt
  ·exact r1.lt
  ·exact r2.lt
  ·exact t1.lt
  ·exact t2.lt
  ·exact h.mp.lt
 ·rcases h.im.2 with⟨h1,_⟩|⟨g,cap,cur,h1,_,h3,_⟩
  ·injection h1 with h1;rw[ha]at h1;cases h1
  ·injection h1 with h1
   rw[ha]at h1;injection h1 with h1;subst h1
   rcases Nat.lt_or_ge g w.heap.size with hlt|hge
   ·exact hlt
   ·rw[Array.getElem?_eq_none hge]at h3;cases h3
end Go.Proofs.YtcllkmllflheiaaGreatDoor
namespace Go.Proofs.YtcllkmllflheiaaGreatDoor
open Go.RowKit Go.Proofs
theorem jI {W:World} {name:String} {k:IntKind} {zs:List Int} {g:Nat} {t e:TypeId} {n:Nat} (hg:Tryz.prog.globalNamed name=some g) (hty:(Tryz.prog.globals[g]?).map (·.type)=some t)
 (ht:Tryz.prog.underlying t=some (.array n e)) (he:Tryz.prog.underlying e=some (.int k)) (hce:Tryz.prog.cellsOf e=1) (hct:Tryz.prog.cellsOf t=n) (h:Lib.VarReads Tryz.prog W name (Lib.tabData k zs)):Lib.TabIs Tryz.prog W name k zs:=by
 obtain⟨g',t',cs,fuel,p,hg',ht',hvar,hd⟩:=h
 obtain rfl:=Option.some.inj (hg.symm.trans hg')
 obtain rfl:=Option.some.inj (hty.symm.trans ht')
 unfold Lib.TabIs
 rw[hvar,←Lib.cells_of_tab ht he hce hct hd]
theorem zF {W:World} {g i:Nat} {v:Value} (h:W.cell? ⟨g,i,none⟩=some v):g<W.heap.size:=by
 rcases Nat.lt_or_ge g W.heap.size with h1|h1
 ·exact h1
 ·simp[World.cell?,Array.getElem?_eq_none h1]at h
theorem rV {W:World} {name:String} {k:IntKind} {zs:List Int} {g:Nat} (h:Lib.TabIs Tryz.prog W name k zs) (hg:Tryz.prog.globalNamed name=some g) (i:Nat) (z:Int) (hz:zs[i]? =some z):W.cell? ⟨g,i,none⟩=some (.int k z):=by
 have hi:i<zs.length:=by
  rcases Nat.lt_or_ge i zs.length with h1|h1
  ·exact h1
  ·rw[List.getElem?_eq_none h1]at hz;cases hz
 rw[h.cell hg i hi]
 simp[List.getD,hz]
theorem Cc {W:World} {name:String} {k:IntKind} {z:Int} {zs:List Int} {g:Nat} (h:Lib.TabIs Tryz.prog W name k (z::zs)) (hg:Tryz.prog.globalNamed name=some g):wU W g ((z::zs).map (Value.int k)).toArray:=by
 refine⟨zF (rV h hg 0 z rfl),fun j u hu=> ?_⟩
 rw[List.getElem?_toArray,List.getElem?_map,Option.map_eq_some_iff]at hu
 obtain⟨y,hy,rfl⟩:=hu
 exact rV h hg j y hy
theorem EW {W:World} {name:String} {l:List UInt32} {g:Nat} (h:Lib.TabIs Tryz.prog W name .u32 (l.map fun x=>(x.toNat:Int))) (hg:Tryz.prog.globalNamed name=some g) (h0:l≠[]):RU W g l:=by
 have key:∀(k:Nat) (x:UInt32),l[k]? =some x→W.cell? ⟨g,k,none⟩=some (.int .u32 (x.toNat:Int)):=fun k x hx=>rV h hg k _ (by rw[List.getElem?_map,hx];rfl)
 obtain⟨x,r,rfl⟩:=List.exists_cons_of_ne_nil h0
 exact⟨zF (key 0 x rfl),key⟩
def Ii:Go.Shelf.Ren:=⟨fun n=>n,fun|5=>5|119=>322|138=>324|139=>325|n=>n,fun|3=>8|4=>9|n=>n⟩
theorem Fz:U8Types Tryz.prog Ii:=⟨by kernel_rfl,by kernel_rfl,by kernel_rfl,by kernel_rfl⟩
theorem Fj:U8Extra Tryz.prog Ii:=⟨by kernel_rfl,by kernel_rfl,by kernel_rfl,by kernel_rfl,by kernel_rfl,by kernel_rfl,by kernel_rfl⟩
theorem GL:(Rows.laid_unicode_utf8_acceptRanges:DataW Unit)=Lib.acceptData:=by kernel_rfl
theorem G8:Rows.laid_unicode_utf8_first=Lib.firstData:=Go.Pinned.utf8First_eq
theorem BD {W:World} {l:List (String×DataW Unit)} (h:laidMet Tryz.prog l W) (m1:("netboot/packet.All",Rows.laid_netboot_packet_All)∈l) (m2:("netboot/hash.begin",Rows.laid_netboot_hash_begin)∈l) (m3:("netboot/hash.rounds",Rows.laid_netboot_hash_rounds)∈l)
 (m4:("internal/strconv.uint64pow10",Rows.laid_internal_strconv_uint64pow10)∈l) (m5:("unicode/utf8.acceptRanges",Rows.laid_unicode_utf8_acceptRanges)∈l) (m6:("unicode/utf8.first",Rows.laid_unicode_utf8_first)∈l):Glb W where
 all:=Cc (z:=255) (zs:=[255,255,255,255,255]) (jI (name:= "netboot/packet.All") (g:=0) (t:=26) (e:=5) (n:=6) (by kernel_rfl) (by kernel_rfl) Tryz.underlying26 Tryz.underlying5 (by kernel_rfl) (by kernel_rfl) (Lib.laidMet.reads h m1)) (by kernel_rfl)
 rounds:=EW (jI (name:= "netboot/hash.rounds") (g:=5) (t:=318) (e:=50) (n:=64) (by kernel_rfl) (by kernel_rfl) Tryz.underlying318 Tryz.underlying50 (by kernel_rfl) (by kernel_rfl) (show Lib.VarReads _ _ _ (Lib.tabData .u32 (GA.map fun x=>(x.toNat:Int)))from(show(Rows.laid_netboot_hash_rounds:DataW Unit)=Lib.tabData .u32 (GA.map fun x=>(x.toNat:Int)) by kernel_rfl)▸Lib.laidMet.reads h m3)) (by kernel_rfl) (by decide)
 begin:=EW (jI (name:= "netboot/hash.begin") (g:=2) (t:=289) (e:=50) (n:=8) (by kernel_rfl) (by kernel_rfl) Tryz.underlying289 Tryz.underlying50 (by kernel_rfl) (by kernel_rfl) (show Lib.VarReads _ _ _ (Lib.tabData .u32 (h0.list.map fun x=>(x.toNat:Int)))from(show(Rows.laid_netboot_hash_begin:DataW Unit)=Lib.tabData .u32 (h0.list.map fun x=>(x.toNat:Int)) by kernel_rfl)▸Lib.laidMet.reads h m2)) (by kernel_rfl) (by decide)
 tabs:=utf8Tabs_of_readsT Fz Fj (G8▸Lib.laidMet.reads h m6) (GL▸Lib.laidMet.reads h m5)
 pow:=jI (g:=3) (t:=298) (e:=243) (n:=20) (by kernel_rfl) (by kernel_rfl) Tryz.underlying298 Tryz.underlying243 (by kernel_rfl) (by kernel_rfl) ((show(Rows.laid_internal_strconv_uint64pow10:DataW Unit)=Lib.tabData .u64 Lib.pow10Tab by kernel_rfl)▸Lib.laidMet.reads h m4)
end Go.Proofs.YtcllkmllflheiaaGreatDoor
namespace Go.Proofs.YtcllkmllflheiaaGreatDoor
open Go.RowKit Go.Proofs
theorem aC.set1 {w:World} {L:Lay} {s:St} (h:aC w L s) (k:Nat) (v:Value) (s':St) (he:(eC s L).setIfInBounds k v=eC s' L) (hc:s'.c=s.c) (hr:s'.rx=s.rx) (ht:s'.tx=s.tx) (hm:s'.cache=s.cache) (hi:s'.image=s.image) (ok:s'.Ok):
 aC (w.setCell ⟨L.p,k,Option.none⟩ v) L s':=by
 have hb:Bk (w.setCell ⟨L.p,k,Option.none⟩ v) L.p 86 (eC s' L):=by rw[←he];exact h.bk.set k v
 exact h.turn s' ((Fr.refl (aJ L.p) w).setCell (p:=⟨L.p,k,Option.none⟩) (fun _=>rfl) v) hb hc hr ht hm hi ok
theorem mD (L:Lay) (w:World) (k:Nat) (v:Value):Fr (bW L) w (w.setCell ⟨L.p,k,none⟩ v):=(Fr.refl (bW L) w).setCell (p:=⟨L.p,k,none⟩) (fun _=>mH L) v
section
variable {P:Program} {opl:List Oper} {Q:Exit→Act→World→Prop} {rest:List Oper} {n:Nat} {u:Nat→Value} {l:List (Nat×Value)} {w:World} {o:Oper} {v:Value} {L:Lay} {s:St} {k:Nat}
theorem sB {r:Result Next} (s':St) (ok:s'.Ok) (hB:aC w L s) (h:∀w',aC w' L s'→Fr (bW L) w w'→wl P opl Q rest (F n u l) w')
 (hw:Region.wanted o (yielded opl.toArray (F n u l).tmps)=true:=by first|exact aL rfl|exact wg rfl rfl rfl|(refine aM rfl (aI (Lib.hid rfl) rfl) ?_;go_simp<;>fail)) (hd:o.dst=none:=by rfl)
 (hv:(∀j,w.cell? ⟨L.p,j,none⟩=(eC s L)[j]?)→(∀j,w.frozen? ⟨L.p,j,none⟩=false)→(execOp (F n u l).eval o).run P w=r:=by intro _ _;go_simp;((try with_reducible rfl);done)) (hr:r= .ok .skip (w.setCell ⟨L.p,k,none⟩ v):=by rfl)
 (he:(eC s L).setIfInBounds k v=eC s' L:=by rfl) (hc:s'.c=s.c:=by rfl) (hrx:s'.rx=s.rx:=by rfl) (ht:s'.tx=s.tx:=by rfl) (hm:s'.cache=s.cache:=by rfl) (hi:s'.image=s.image:=by rfl):wl P opl Q (o::rest) (F n u l) w:=
 sS hw hd (hv hB.bk.cells hB.fr) hr (h _ (hB.set1 k v s' he hc hrx ht hm hi ok) (mD L w k v))
theorem dB {S:World→Prop} {brk t:List Nat} {c:Bool} {j:Nat} {r:Result Next} (s':St) (ok:s'.Ok) (hB:aC w L s) (h:∀w',aC w' L s'→Fr (bW L) w w'→wdr P opl Q S brk false t (F n u l) w')
 (hk:Nat.blt j 1000=true:=by rfl) (h0:kdO opl j=2:=by rfl) (ho:opl[j]? =some o:=by rfl) (hw:Region.wanted o (yielded opl.toArray (F n u l).tmps)=true:=by first|exact aL rfl|exact wg rfl rfl rfl|(refine aM rfl (aI (Lib.hid rfl) rfl) ?_;go_simp<;>fail)) (hd:o.dst=none:=by rfl) (hb:(c&& !(brk.contains j))=false:=by rfl)
 (hv:(∀j,w.cell? ⟨L.p,j,none⟩=(eC s L)[j]?)→(∀j,w.frozen? ⟨L.p,j,none⟩=false)→(execOp (F n u l).eval o).run P w=r:=by intro _ _;go_simp;((try with_reducible rfl);done)) (hr:r= .ok .skip (w.setCell ⟨L.p,k,none⟩ v):=by rfl)
 (he:(eC s L).setIfInBounds k v=eC s' L:=by rfl) (hc:s'.c=s.c:=by rfl) (hrx:s'.rx=s.rx:=by rfl) (ht:s'.tx=s.tx:=by rfl) (hm:s'.cache=s.cache:=by rfl) (hi:s'.image=s.image:=by rfl):wdr P opl Q S brk c (j::t) (F n u l) w:=
 dS (h _ (hB.set1 k v s' he hc hrx ht hm hi ok) (mD L w k v)) hk h0 ho hw hd hb (hv hB.bk.cells hB.fr) hr
end
instance (L:Lay) (s:St):Kp0 fun w=>aC w L s:=⟨fun _ _ h f=>h.none f⟩
end Go.Proofs.YtcllkmllflheiaaGreatDoor
namespace Go.Proofs.YtcllkmllflheiaaGreatDoor
open Go.RowKit Go.Proofs
attribute [local go_sem] aG aD aE aF
theorem Fr.ofDrew {w:World} (n:Nat):Fr noB w (w.drewN n):=(Fr.refl _ _).drewN n
theorem rR (L:Lay) (s:St) (k:Nat) (hk:k≤4) (w:World) (h:aC w L s):
 Calls Tryz.prog 40 #[.pointer (some ⟨L.p,0,none⟩),.int .i64 (k:Int)] w fun e w'=>e= .returned (.int .i64 (s.wait k))∧Fr noB w w':=by
 have c17:=h.g17
 have hd:=h.ok.draw
 have hw:∀k:Nat,s.wait k=((2*2^k+s.draw%3:Nat):Int)-1:=fun _=>rfl
 rw[hw]
 clear hw
 match k,hk with
 |0,_=>
  go_enter Tryz.func40,Tryz.ntmps40
  go_wp2
  go_quiet (fail)
  go_wp2
  go_ret
  exact⟨by first|rfl|(congr 2;omega),Fr.ofDrew _⟩
 |1,_=>
  go_enter Tryz.func40,Tryz.ntmps40
  go_wp2
  go_quiet (fail)
  go_wp2
  go_ret
  exact⟨by first|rfl|(congr 2;omega),Fr.ofDrew _⟩
 |2,_=>
  go_enter Tryz.func40,Tryz.ntmps40
  go_wp2
  go_quiet (fail)
  go_wp2
  go_ret
  exact⟨by first|rfl|(congr 2;omega),Fr.ofDrew _⟩
 |3,_=>
  go_enter Tryz.func40,Tryz.ntmps40
  go_wp2
  go_quiet (fail)
  go_wp2
  go_ret
  exact⟨by first|rfl|(congr 2;omega),Fr.ofDrew _⟩
 |4,_=>
  go_enter Tryz.func40,Tryz.ntmps40
  go_wp2
  go_quiet (fail)
  go_wp2
  go_ret
  exact⟨by first|rfl|(congr 2;omega),Fr.ofDrew _⟩
theorem Ad (L:Lay) (s:St) (w:World) (h:aC w L s):
 Calls Tryz.prog 34 #[.pointer (some ⟨L.p,0,none⟩)] w fun e w'=>e= .returned (.bool s.over)∧w=w':=by
 have c33:=h.g33
 unfold St.over
 by_cases h3:s.phase=3
 ·have e3:(s.phase:Int)=3:=by omega
  have e4:(s.phase==3||s.phase==4)=true:=by simp[h3]
  rw[e4]
  clear h3 e4
  go_enter Tryz.func34,Tryz.ntmps34
  go_wp2_with fail
  go_ret
  exact⟨rfl,rfl⟩
 ·have e3:((s.phase:Int)==3)=false:=by rw[beq_eq_false_iff_ne];omega
  by_cases h4:s.phase=4
  ·have e4:(s.phase:Int)=4:=by omega
   have e5:(s.phase==3||s.phase==4)=true:=by simp[h4]
   rw[e5]
   clear h3 h4 e5 e3
   go_enter Tryz.func34,Tryz.ntmps34
   go_wp2_with fail
   go_ret
   exact⟨rfl,rfl⟩
  ·have e4:((s.phase:Int)==4)=false:=by rw[beq_eq_false_iff_ne];omega
   have e5:(s.phase==3||s.phase==4)=false:=by simp[h3,h4]
   rw[e5]
   clear h3 h4 e5
   go_enter Tryz.func34,Tryz.ntmps34
   go_wp2_with fail
   go_ret
   exact⟨rfl,rfl⟩
theorem aY (L:Lay) (s:St) (w:World) (h:aC w L s):
 Calls Tryz.prog 37 #[.pointer (some ⟨L.p,0,none⟩)] w fun e w'=>e= .returned (.int .u32 (s.address:Int))∧w=w':=by
 have c21:=h.g21
 have c23:=h.g23
 unfold St.address
 by_cases h4:4≤s.lease
 ·have e4:¬(s.lease:Int)<4:=by omega
  rw[if_pos h4]
  clear h4
  go_enter Tryz.func37,Tryz.ntmps37
  go_wp2_with fail
  go_ret
  exact⟨rfl,rfl⟩
 ·have e4:(s.lease:Int)<4:=by omega
  rw[if_neg h4]
  clear h4
  go_enter Tryz.func37,Tryz.ntmps37
  go_wp2_with fail
  go_ret
  exact⟨rfl,rfl⟩
theorem jC (L:Lay) (s:St) (m0 m1 m2 m3 m4 m5:UInt8) (kind:Nat) (ld:List UInt8) (w:World) (h:aC w L s) (hkd:kind<65536) (hld:ld.length≤9223372036854775807):
 Calls Tryz.prog 84 #[.pointer (some ⟨L.p,0,none⟩),.agg #[.int .u8 (m0.toNat:Int),.int .u8 (m1.toNat:Int),.int .u8 (m2.toNat:Int),.int .u8 (m3.toNat:Int),.int .u8 (m4.toNat:Int),.int .u8 (m5.toNat:Int)],.int .u16 (kind:Int),.string (bs ld)] w (cH L (s.send (m0,m1,m2,m3,m4,m5) kind ld) (.tuple #[]) w):=by
 have hf1:Fr noB w (w.alloc (.cells #[.int .u8 (m0.toNat:Int),.int .u8 (m1.toNat:Int),.int .u8 (m2.toNat:Int),.int .u8 (m3.toNat:Int),.int .u8 (m4.toNat:Int),.int .u8 (m5.toNat:Int)] 26)):=(Fr.refl _ _).alloc _
 have hB1:=h.none hf1
 have hg1:=Bk.new w 26 #[.int .u8 (m0.toNat:Int),.int .u8 (m1.toNat:Int),.int .u8 (m2.toNat:Int),.int .u8 (m3.toNat:Int),.int .u8 (m4.toNat:Int),.int .u8 (m5.toNat:Int)]
 obtain⟨g,hg⟩:∃g,w.heap.size=g:=⟨_,rfl⟩
 rw[hg]at hg1
 have Hg:=Lib.hid hg
 clear hg
 go_enter Tryz.func84,Tryz.ntmps84
 go_upto_region 1 with fail
 rw[Hg.out]
 generalize w.alloc (.cells #[.int .u8 (m0.toNat:Int),.int .u8 (m1.toNat:Int),.int .u8 (m2.toNat:Int),.int .u8 (m3.toNat:Int),.int .u8 (m4.toNat:Int),.int .u8 (m5.toNat:Int)] 26)=w1 at*
 refine wpr (fun w'=>aC w' L s∧Bk w' g 26 #[.int .u8 (m0.toNat:Int),.int .u8 (m1.toNat:Int),.int .u8 (m2.toNat:Int),.int .u8 (m3.toNat:Int),.int .u8 (m4.toNat:Int),.int .u8 (m5.toNat:Int)]∧Fr noB w w') [] (.p 1 (.p 2 (.p 3 (.p 4 (.p 6 (.p 7 (.q 0 (.q 5 (.p 8 (.e 9 (.p 10 (.p 11 (.p 12 (.p 13 (.p 14 .nil))))))))))))))) (⟨hB1.drew,hg1.drew,hf1.drew⟩) ?_
 intro ops Q' hO hQ' wr1 hR1
 iterate 6 refine pP hO ?_
 iterate 2 (refine pQ hO rfl rfl (fun w' hS=>by obtain⟨hB,hG,hF⟩:=hS;have hGc:=hG.cells;have c0:=hB.g0;have c1:=hB.g1;have c2:=hB.g2;have c3:=hB.g3;have c4:=hB.g4;have c5:=hB.g5;exact qd) ?_)
 refine pP hO ?_
 refine fJ hO rfl rfl rfl (fun K hK=> ?_)
 go_simp
 refine(nC kind ld m0 m1 m2 m3 m4 m5 s.c.card.1 s.c.card.2.1 s.c.card.2.2.1 s.c.card.2.2.2.1 s.c.card.2.2.2.2.1 s.c.card.2.2.2.2.2 _ hkd hld).mono ?_
 rintro e w2 ⟨rfl,f2⟩
 refine hK _ _ (⟨hR1.1.none f2,hR1.2.1.keep f2 (fun x=>x),hR1.2.2.none f2⟩) (fun hR_9=> ?_)
 clear hK K
 iterate 5 refine pP hO ?_
 refine bV (hQ' _ _ ?_)
 obtain⟨hB2,hg2,hf2⟩:=hR_9
 have c14:=hB2.g14
 clear hR1 hB1 hg1 hf1 f2
 obtain⟨i,cs,hrr,hrg,hrs,hri,hql,hne,hso⟩:=id hB2.tx
 clear hrr hrg hrs hri hne hso i cs
 have hrp:=Cd L.tx L.txs s.c.tx s.tx (eG (m0,m1,m2,m3,m4,m5) s.c.card kind ld).1 w2 hB2.ok.tx0 (by have:=hB2.ok.tx1;omega) hB2.tx
 unfold sD at hrp
 obtain⟨fb,hfb⟩:∃fb,(eG (m0,m1,m2,m3,m4,m5) s.c.card kind ld).1=fb:=⟨_,rfl⟩
 have hsd:s.send (m0,m1,m2,m3,m4,m5) kind ld=if s.tx.length=s.c.tx then {s with lost:=wrap64 (s.lost+1)}else {s with tx:=s.tx++[fb]}:=by unfold St.send;rw[hfb]
 have Hsd:=Lib.hid hsd
 have hfb':(eG (m0,m1,m2,m3,m4,m5) (s.c.card.1,s.c.card.2.1,s.c.card.2.2.1,s.c.card.2.2.2.1,s.c.card.2.2.2.2.1,s.c.card.2.2.2.2.2) kind ld).1=fb:=hfb
 rw[hfb]at hrp
 rw[hfb']
 clear hsd hfb hfb'
 have hF2:Fr (bW L) w w2:=hf2.of_no _
 by_cases hfull:s.tx.length=s.c.tx
 ·have hnl:¬s.tx.length<s.c.tx:=by omega
  rw[decide_eq_false hnl,if_neg hnl]at hrp
  have Hfull:=Lib.hid hfull
  have Hrp:=Lib.hid hrp
  clear hrp hnl hfull hql
  go_wp2_with fail
  refine Hrp.out.mono ?_
  rintro e w3 ⟨rfl,hr3,hf3⟩
  have hB3:=hB2.txTurn hf3 hr3
  have hF3:=hF2.trans (hf3.mono fun b _ hb=>by rcases hb with rfl|rfl;exact zD L;exact rY L)
  have c19:=hB3.g19
  have hfz:=hB3.fr
  clear c14
  go_wp2_with fail
  refine bodyPost_end (results_none rfl _ _ _) rfl ⟨rfl,?_,?_⟩
  ·rw[Hsd.out,if_pos Hfull.out]
   exact hB3.turn _ ((Fr.refl (aJ L.p) w3).setCell (p:=⟨L.p,19,none⟩) (fun _=>rfl) _) (hB3.bk.set 19 _) rfl rfl rfl rfl rfl {hB3.ok with}
  ·exact hF3.setCell (p:=⟨L.p,19,none⟩) (fun _=>mH L) _
 ·have hnl:s.tx.length<s.c.tx:=by omega
  rw[decide_eq_true hnl,if_pos hnl]at hrp
  have Hfull:=Lib.hid hfull
  have Hrp:=Lib.hid hrp
  clear hrp hnl hfull hql
  go_wp2_with fail
  refine Hrp.out.mono ?_
  rintro e w3 ⟨rfl,hr3,hf3⟩
  have hB3:=hB2.txTurn hf3 hr3
  have hF3:=hF2.trans (hf3.mono fun b _ hb=>by rcases hb with rfl|rfl;exact zD L;exact rY L)
  clear c14
  go_wp2_with fail
  exact bodyPost_end (results_none rfl _ _ _) rfl ⟨rfl,by rw[Hsd.out,if_neg Hfull.out];exact hB3,hF3⟩
end Go.Proofs.YtcllkmllflheiaaGreatDoor
namespace Go.Proofs.YtcllkmllflheiaaGreatDoor
open Go.RowKit Go.Proofs
attribute [local go_sem] aG aD aE aF
theorem wA (op:Nat) (a:Mac) (fm:Nat) (b:Mac) (ip:Nat):(lC op a fm b ip).1.length≤9223372036854775807:=by
 unfold lC
 split<;>simp[gH,aH,cG]
theorem uJ (fm tp fi ti:Nat) (ld:List UInt8):(mI fm tp fi ti ld).1.length≤1480:=by
 unfold mI
 split
 ·simp
 ·simp[eR,Bq,aH];omega
theorem zT (L:Lay) (s:St) (op fm ip:Nat) (m0 m1 m2 m3 m4 m5 n0 n1 n2 n3 n4 n5:UInt8) (w:World) (h:aC w L s) (hop:op<65536) (hfm:fm<4294967296) (hip:ip<4294967296):
 Calls Tryz.prog 54 #[.pointer (some ⟨L.p,0,none⟩),.int .u16 (op:Int),.agg #[.int .u8 (m0.toNat:Int),.int .u8 (m1.toNat:Int),.int .u8 (m2.toNat:Int),.int .u8 (m3.toNat:Int),.int .u8 (m4.toNat:Int),.int .u8 (m5.toNat:Int)],.agg #[.int .u8 (n0.toNat:Int),.int .u8 (n1.toNat:Int),.int .u8 (n2.toNat:Int),.int .u8 (n3.toNat:Int),.int .u8 (n4.toNat:Int),.int .u8 (n5.toNat:Int)],.int .u32 (fm:Int),.int .u32 (ip:Int)] w (cH L (s.arp op (m0,m1,m2,m3,m4,m5) (n0,n1,n2,n3,n4,n5) fm ip) (.tuple #[]) w):=by
 have hf1:Fr noB w ((w.alloc (.cells #[.int .u8 (m0.toNat:Int),.int .u8 (m1.toNat:Int),.int .u8 (m2.toNat:Int),.int .u8 (m3.toNat:Int),.int .u8 (m4.toNat:Int),.int .u8 (m5.toNat:Int)] 26)).alloc (.cells #[.int .u8 (n0.toNat:Int),.int .u8 (n1.toNat:Int),.int .u8 (n2.toNat:Int),.int .u8 (n3.toNat:Int),.int .u8 (n4.toNat:Int),.int .u8 (n5.toNat:Int)] 26)):=((Fr.refl _ _).alloc _).alloc _
 have hB1:=h.none hf1
 have hg1:=(Bk.new w 26 #[.int .u8 (m0.toNat:Int),.int .u8 (m1.toNat:Int),.int .u8 (m2.toNat:Int),.int .u8 (m3.toNat:Int),.int .u8 (m4.toNat:Int),.int .u8 (m5.toNat:Int)]).alloc (.cells #[.int .u8 (n0.toNat:Int),.int .u8 (n1.toNat:Int),.int .u8 (n2.toNat:Int),.int .u8 (n3.toNat:Int),.int .u8 (n4.toNat:Int),.int .u8 (n5.toNat:Int)] 26)
 have hg2:=Bk.new (w.alloc (.cells #[.int .u8 (m0.toNat:Int),.int .u8 (m1.toNat:Int),.int .u8 (m2.toNat:Int),.int .u8 (m3.toNat:Int),.int .u8 (m4.toNat:Int),.int .u8 (m5.toNat:Int)] 26)) 26 #[.int .u8 (n0.toNat:Int),.int .u8 (n1.toNat:Int),.int .u8 (n2.toNat:Int),.int .u8 (n3.toNat:Int),.int .u8 (n4.toNat:Int),.int .u8 (n5.toNat:Int)]
 rw[show(w.alloc (.cells #[.int .u8 (m0.toNat:Int),.int .u8 (m1.toNat:Int),.int .u8 (m2.toNat:Int),.int .u8 (m3.toNat:Int),.int .u8 (m4.toNat:Int),.int .u8 (m5.toNat:Int)] 26)).heap.size=w.heap.size+1 by simp]at hg2
 obtain⟨g,hg⟩:∃g,w.heap.size=g:=⟨_,rfl⟩
 obtain⟨g2,hg2e⟩:∃g2,w.heap.size+1=g2:=⟨_,rfl⟩
 rw[hg2e]at hg2
 rw[hg]at hg1 hg2e
 have Hg:=Lib.hid hg
 have Hg2:=Lib.hid hg2e
 clear hg hg2e
 go_enter Tryz.func54,Tryz.ntmps54
 go_upto_region 1 with fail
 rw[Hg.out,Hg2.out]
 generalize(w.alloc (.cells #[.int .u8 (m0.toNat:Int),.int .u8 (m1.toNat:Int),.int .u8 (m2.toNat:Int),.int .u8 (m3.toNat:Int),.int .u8 (m4.toNat:Int),.int .u8 (m5.toNat:Int)] 26)).alloc (.cells #[.int .u8 (n0.toNat:Int),.int .u8 (n1.toNat:Int),.int .u8 (n2.toNat:Int),.int .u8 (n3.toNat:Int),.int .u8 (n4.toNat:Int),.int .u8 (n5.toNat:Int)] 26)=w1 at*
 refine wpr (fun w'=>aC w' L s∧Bk w' g 26 #[.int .u8 (m0.toNat:Int),.int .u8 (m1.toNat:Int),.int .u8 (m2.toNat:Int),.int .u8 (m3.toNat:Int),.int .u8 (m4.toNat:Int),.int .u8 (m5.toNat:Int)]∧Bk w' g2 26 #[.int .u8 (n0.toNat:Int),.int .u8 (n1.toNat:Int),.int .u8 (n2.toNat:Int),.int .u8 (n3.toNat:Int),.int .u8 (n4.toNat:Int),.int .u8 (n5.toNat:Int)]∧Fr noB w w') [] (.p 0 (.p 1 (.p 2 (.p 3 (.p 4 (.p 6 (.p 8 (.q 5 (.q 7 (.p 9 (.e 10 (.p 11 (.p 12 (.p 13 (.p 14 (.p 15 .nil)))))))))))))))) (⟨hB1.drew,hg1.drew,hg2.drew,hf1.drew⟩) ?_
 intro ops Q' hO hQ' wr1 hR1
 iterate 7 refine pP hO ?_
 iterate 2 (refine pQ hO rfl rfl (fun w' hS=>by obtain⟨hB,hG,hG2,hF⟩:=hS;have hGc:=hG2.cells;have c0:=hB.g0;have c1:=hB.g1;have c2:=hB.g2;have c3:=hB.g3;have c4:=hB.g4;have c5:=hB.g5;exact qd) ?_)
 refine pP hO ?_
 refine fJ hO rfl rfl rfl (fun K hK=> ?_)
 go_simp
 refine(oZ op fm ip s.c.card.1 s.c.card.2.1 s.c.card.2.2.1 s.c.card.2.2.2.1 s.c.card.2.2.2.2.1 s.c.card.2.2.2.2.2 n0 n1 n2 n3 n4 n5 _ hop hfm hip).mono ?_
 rintro e w2 ⟨rfl,f2⟩
 refine hK _ _ (⟨hR1.1.none f2,hR1.2.1.keep f2 (fun x=>x),hR1.2.2.1.keep f2 (fun x=>x),hR1.2.2.2.none f2⟩) (fun hR_10=> ?_)
 clear hK K
 iterate 5 refine pP hO ?_
 refine bV (hQ' _ _ ?_)
 obtain⟨hB2,hgm,_,hf2⟩:=hR_10
 have hgc:=hgm.cells
 have hsd:s.arp op (m0,m1,m2,m3,m4,m5) (n0,n1,n2,n3,n4,n5) fm ip=s.send (m0,m1,m2,m3,m4,m5) 2054 (lC op (s.c.card.1,s.c.card.2.1,s.c.card.2.2.1,s.c.card.2.2.2.1,s.c.card.2.2.2.2.1,s.c.card.2.2.2.2.2) fm (n0,n1,n2,n3,n4,n5) ip).1:=rfl
 have Hsd:=Lib.hid hsd
 have hll:(lC op (s.c.card.1,s.c.card.2.1,s.c.card.2.2.1,s.c.card.2.2.2.1,s.c.card.2.2.2.2.1,s.c.card.2.2.2.2.2) fm (n0,n1,n2,n3,n4,n5) ip).1.length≤9223372036854775807:=wA _ _ _ _ _
 obtain⟨fb,hfb⟩:∃fb,(lC op (s.c.card.1,s.c.card.2.1,s.c.card.2.2.1,s.c.card.2.2.2.1,s.c.card.2.2.2.2.1,s.c.card.2.2.2.2.2) fm (n0,n1,n2,n3,n4,n5) ip).1=fb:=⟨_,rfl⟩
 rw[hfb]at hll⊢
 have Hfb:=Lib.hid hfb
 clear hR1 hB1 hg1 hg2 hf1 f2 hsd hfb
 go_wp2_with fail
 refine(jC L s m0 m1 m2 m3 m4 m5 2054 fb w2 hB2 (by decide) hll).mono ?_
 rintro e w3 ⟨rfl,hB3,hf3⟩
 go_wp2_with fail
 exact bodyPost_end (results_none rfl _ _ _) rfl ⟨rfl,by rw[Hsd.out,Hfb.out];exact hB3,(hf2.of_no _).trans hf3⟩
theorem rG (L:Lay) (s:St) (fm ip:Nat) (w:World) (h:aC w L s) (hfm:fm<4294967296) (hip:ip<4294967296):
 Calls Tryz.prog 36 #[.pointer (some ⟨L.p,0,none⟩),.int .u32 (fm:Int),.int .u32 (ip:Int)] w (cH L (s.ask fm ip) (.tuple #[]) w):=by
 have o0:=h.gb.all.2 0 _ rfl;have o1:=h.gb.all.2 1 _ rfl;have o2:=h.gb.all.2 2 _ rfl;have o3:=h.gb.all.2 3 _ rfl;have o4:=h.gb.all.2 4 _ rfl;have o5:=h.gb.all.2 5 _ rfl
 have hcall:=zT L s 1 fm ip 255 255 255 255 255 255 0 0 0 0 0 0 w h (by decide) hfm hip
 have Hcall:=Lib.hid hcall
 clear hcall
 go_enter Tryz.func36,Tryz.ntmps36
 go_wp2_with fail
 refine Hcall.out.mono ?_
 rintro e w3 ⟨rfl,hB3,hf3⟩
 go_wp2_with fail
 exact bodyPost_end (results_none rfl _ _ _) rfl ⟨rfl,hB3,hf3⟩
theorem oB (L:Lay) (s:St) (dst fm port:Nat) (ld:List UInt8) (w:World) (h:aC w L s) (hdst:dst<4294967296) (hfm:fm<65536) (hport:port<65536) (hld:ld.length≤4611686018427387000):
 Calls Tryz.prog 89 #[.pointer (some ⟨L.p,0,none⟩),.int .u32 (dst:Int),.int .u16 (fm:Int),.int .u16 (port:Int),.string (bs ld)] w (cH L s.took (.string (bs (s.packet dst fm port ld))) w):=by
 have hadr:s.address<4294967296:=by unfold St.address;split;exact h.ok.addr;omega
 go_enter Tryz.func89,Tryz.ntmps89
 go_wp2_with fail
 refine(aY L s w h).mono ?_
 rintro e w1 ⟨rfl,rfl⟩
 go_wp2_with fail
 refine(oW fm port s.address dst ld w hfm hport hadr hdst hld).mono ?_
 rintro e w2 ⟨rfl,f2⟩
 have hB2:=h.none f2
 have hF2:Fr noB w w2:=f2
 have hub:=uJ fm port s.address dst ld
 have hpk:s.packet dst fm port ld=(Be (s.id%65536) 64 17 s.address dst (mI fm port s.address dst ld).1).1:=rfl
 obtain⟨ub,hube⟩:∃ub,(mI fm port s.address dst ld).1=ub:=⟨_,rfl⟩
 obtain⟨idn,hide⟩:∃idn,(s.id%65536)=idn:=⟨_,rfl⟩
 rw[hube,hide]at hpk
 rw[hube]at hub⊢
 have hidn:idn<65536:=by omega
 have hub2:ub.length≤9223372036854775807:=by omega
 have Hpk:=Lib.hid hpk
 have Hide:=Lib.hid hide
 clear hpk hube hide
 go_upto_region 2 with fail
 refine wpr (fun w'=>aC w' L s∧Fr noB w w') [] (.p 0 (.p 1 (.p 2 (.p 4 (.p 6 (.p 7 (.q 3 (.e 5 (.p 8 (.e 9 (.p 10 (.p 11 (.p 12 (.p 13 (.p 14 .nil))))))))))))))) (⟨hB2.drew,hF2.drew⟩) ?_
 intro ops Q' hO hQ' wr1 hR1
 iterate 6 refine pP hO ?_
 refine pQ hO rfl rfl (fun w' hS=>by obtain⟨hB,hF⟩:=hS;have c20:=hB.g20;rw[Hide.out]at c20;exact qd) ?_
 refine fJ hO rfl rfl rfl (fun K hK=> ?_)
 go_simp
 refine(aY L s _ hR1.1).mono ?_
 rintro e w3 ⟨rfl,rfl⟩
 refine hK _ _ (hR1) (fun hR_5=> ?_)
 clear hK K
 refine pP hO ?_
 refine fJ hO rfl rfl rfl (fun K hK=> ?_)
 go_simp
 refine(rQ idn s.address dst 64 17 ub _ hidn hadr hdst hub2).mono ?_
 rintro e w4 ⟨rfl,f4⟩
 refine hK _ _ (⟨hR_5.1.none f4,hR_5.2.none f4⟩) (fun hR_9=> ?_)
 clear hK K
 iterate 5 refine pP hO ?_
 refine bV (hQ' _ _ ?_)
 obtain⟨hB4,hF4⟩:=hR_9
 have c20:=hB4.g20
 rw[Hide.out]at c20
 have hfz:=hB4.fr
 clear hR1 hR_5 f4 hB2 hF2
 go_wp2_with fail
 have hval:IntKind.u16.wrap ((idn:Int)+1)=(((s.id+1)%65536:Nat):Int):=by have:=Hide.out;rw[IntKind.wrap_u16];omega
 have e:(eC s L).setIfInBounds 20 (.int .u16 (IntKind.u16.wrap ((idn:Int)+1)))=eC s.took L:=by rw[hval];rfl
 go_ret
 refine⟨by rw[Hpk.out];rfl,?_,?_⟩
 ·exact hB4.turn s.took ((Fr.refl (aJ L.p) w4).setCell (p:=⟨L.p,20,none⟩) (fun _=>rfl) _) (e▸hB4.bk.set 20 _) rfl rfl rfl rfl rfl {hB4.ok with}
 ·exact(hF4.of_no _).setCell (p:=⟨L.p,20,none⟩) (fun _=>mH L) _
end Go.Proofs.YtcllkmllflheiaaGreatDoor
namespace Go.Proofs.YtcllkmllflheiaaGreatDoor
open Go.RowKit Go.Proofs Go.Maps
theorem kL {a b:Nat} (h:ipL a=ipL b):a=b:=by
 unfold ipL at h
 injection h with _ h
 omega
theorem iS (a:Nat):WideAt.IsKeyLit (ipL a):=trivial
theorem Rep.nil:Rep (.map []:DataW Unit) []:=⟨by simp,by simp,by intro ip;rfl,by simp,rfl,tidy_empty⟩
theorem Rep.perm {D:DataW Unit} {l l':List aS} (h:Rep D l) (hp:l.Perm l'):Rep D l' where
 nd:=(hp.map _).nodup_iff.1 h.nd
 lt:=fun e he=>h.lt e (hp.mem_iff.2 he)
 has:=fun ip=>by
  rw[h.has ip,Bool.eq_iff_iff,List.any_eq_true,List.any_eq_true]
  exact⟨fun⟨x,hx,hb⟩=>⟨x,hp.mem_iff.1 hx,hb⟩,fun⟨x,hx,hb⟩=>⟨x,hp.mem_iff.2 hx,hb⟩⟩
 at_:=fun e he=>h.at_ e (hp.mem_iff.2 he)
 size:=by rw[h.size,hp.length_eq]
 tidy:=h.tidy
theorem qE (l:List aS) (ip:Nat):(l.any fun e=>e.ip==ip)=true↔ip∈l.map (·.ip):=by
 rw[List.any_eq_true,List.mem_map]
 exact⟨fun⟨x,hx,hb⟩=>⟨x,hx,by simpa using hb⟩,fun⟨x,hx,hb⟩=>⟨x,hx,by simpa using hb⟩⟩
theorem nP {l:List aS} {ip:Nat} (h:lB l ip=none):ip∉l.map (·.ip):=by
 intro hm
 obtain⟨x,hx,e⟩:=List.mem_map.1 hm
 have:=List.find?_eq_none.1 h x hx
 simp[e]at this
theorem gR {l:List aS} {ip:Nat} {e:aS} (h:lB l ip=some e):e∈l∧e.ip=ip:=⟨List.mem_of_find?_eq_some h,by have:=List.find?_some h;simpa using this⟩
theorem Rep.new {D:DataW Unit} {l:List aS} {e:aS} (h:Rep D l) (hn:e.ip∉l.map (·.ip)) (hlt:e.ip<4294967296):Rep (D.put (ipL e.ip) (fE e)) (l++[e]) where
 nd:=by
  rw[List.map_append,List.nodup_append]
  exact⟨h.nd,by simp,fun a ha b hb=>by simp at hb;subst hb;intro x;subst x;exact hn ha⟩
 lt:=fun x hx=>by
  rcases List.mem_append.1 hx with hx|hx
  ·exact h.lt x hx
  ·simp at hx;subst hx;exact hlt
 has:=fun ip=>by
  rw[List.any_append,List.any_cons,List.any_nil,Bool.or_false]
  by_cases hi:ip=e.ip
  ·subst hi;rw[has_put_same h.tidy.isMap (iS _)];simp
  ·rw[has_put_other (fun x=>hi (kL x)),h.has ip]
   have:(e.ip==ip)=false:=by rw[beq_eq_false_iff_ne];exact fun x=>hi x.symm
   rw[this,Bool.or_false]
 at_:=fun x hx z=>by
  rcases List.mem_append.1 hx with hx|hx
  ·have hne:x.ip≠e.ip:=fun y=>hn (y▸List.mem_map_of_mem hx)
   rw[atKey_put_other (fun y=>hne (kL y))];exact h.at_ x hx z
  ·simp at hx;subst hx;exact atKey_put_same h.tidy.isMap (iS _) _ _
 size:=by
  rw[size_put h.tidy,h.has,if_neg,h.size];simp
  intro hx;exact hn ((qE l e.ip).1 hx)
 tidy:=h.tidy.put (iS _) _
theorem Rep.old {D:DataW Unit} {l:List aS} {e:aS} (h:Rep D l) (hm:e.ip∈l.map (·.ip)):Rep (D.put (ipL e.ip) (fE e)) (bM l e.ip fun _=>e) where
 nd:=by
  have:(bM l e.ip fun _=>e).map (·.ip)=l.map (·.ip):=by
   unfold bM;rw[List.map_map];apply List.map_congr_left;intro x _;simp only[Function.comp];split<;>simp_all
  rw[this];exact h.nd
 lt:=fun x hx=>by
  unfold bM at hx
  obtain⟨y,hy,rfl⟩:=List.mem_map.1 hx
  split
  ·obtain⟨z,hz,e'⟩:=List.mem_map.1 hm;rw[←e'];exact h.lt z hz
  ·exact h.lt y hy
 has:=fun ip=>by
  have e1:((bM l e.ip fun _=>e).any fun x=>x.ip==ip)=l.any fun x=>x.ip==ip:=by
   unfold bM;rw[List.any_map];congr 1;funext x;simp only[Function.comp];split<;>simp_all
  rw[e1]
  by_cases hi:ip=e.ip
  ·subst hi;rw[has_put_same h.tidy.isMap (iS _)];exact((qE l _).2 hm).symm
  ·rw[has_put_other (fun x=>hi (kL x)),h.has ip]
 at_:=fun x hx z=>by
  unfold bM at hx
  obtain⟨y,hy,rfl⟩:=List.mem_map.1 hx
  split
  ·exact atKey_put_same h.tidy.isMap (iS _) _ _
  ·next hne=>rw[atKey_put_other (fun q=>hne (kL q))];exact h.at_ y hy z
 size:=by
  rw[size_put h.tidy,h.has,if_pos ((qE l _).2 hm),h.size];simp[bM]
 tidy:=h.tidy.put (iS _) _
theorem Rep.del {D:DataW Unit} {l:List aS} (h:Rep D l) (ip:Nat):Rep (D.del (ipL ip)) (l.filter fun e=>e.ip !=ip) where
 nd:=(List.filter_sublist.map _).nodup h.nd
 lt:=fun e he=>h.lt e (List.mem_filter.1 he).1
 has:=fun i=>by
  rw[List.any_filter]
  by_cases hi:i=ip
  ·subst hi;rw[has_del_same];symm;rw[List.any_eq_false];intro x _;simp
  ·rw[has_del_other (fun x=>hi (kL x)),h.has i]
   congr 1;funext x
   by_cases hx:x.ip=i
   ·simp[hx,hi]
   ·simp[hx]
 at_:=fun e he z=>by
  have h1:=List.mem_filter.1 he
  have hne:e.ip≠ip:=by simpa using h1.2
  rw[atKey_del_other (fun x=>hne (kL x))];exact h.at_ e h1.1 z
 size:=by
  have h1:=size_del (k:=ipL ip) h.tidy
  rw[h.has,h.size]at h1
  have key:∀l:List aS,(l.map (·.ip)).Nodup→(l.filter fun e=>e.ip !=ip).length+(if(l.any fun e=>e.ip==ip)=true then 1 else 0)=l.length:=by
   intro l
   induction l with
   |nil=>intro _;rfl
   |cons x r ih=>
    intro hn
    rw[List.map_cons,List.nodup_cons]at hn
    have:=ih hn.2
    by_cases hx:x.ip=ip
    ·have h0:(r.any fun e=>e.ip==ip)=false:=by
      rw[Bool.eq_false_iff];intro h2;exact hn.1 (hx▸(qE r ip).1 h2)
     rw[h0]at this
     simp only[List.filter_cons,hx,bne_self_eq_false,Bool.false_eq_true,if_false,List.any_cons,beq_self_eq_true,Bool.true_or,if_true,List.length_cons]at this⊢
     omega
    ·have hb:(x.ip==ip)=false:=by simpa using hx
     simp only[List.filter_cons,bne,hb,Bool.not_false,if_true,List.any_cons,Bool.false_or,List.length_cons]at this⊢
     omega
  have:=key l h.nd
  omega
 tidy:=h.tidy.del _
theorem IR {w:World} {b n:Nat} {D:DataW Unit} (h:w.ownsMap Tryz.prog 53 mE b n D):w.ownsMap Tryz.prog 53 mE b (Maps.size D) D:=by
 obtain⟨es,c,h1,h2,h3,h4⟩:=h
 refine⟨es,c,h1,h2,?_,h4⟩
 rw[h4]
 show es.size≤((es.toList.map _).foldr DataW.insert []).length
 rw[length_sorted];simp
theorem dR.of {w:World} {b n:Nat} {D:DataW Unit} {l:List aS} (h:w.ownsMap Tryz.prog 53 mE b n D) (hr:Rep D l):dR w b l:=⟨D,by rw[←hr.size];exact IR h,hr⟩
theorem dR.perm {w:World} {b:Nat} {l l':List aS} (h:dR w b l) (hp:l.Perm l'):dR w b l':=by
 obtain⟨D,h1,h2⟩:=h
 exact .of h1 (h2.perm hp)
theorem nX:∀(r:List aS) (b:aS),tK r b=b∨tK r b∈r
 |[],b=> .inl rfl
 |a::r,b=>by
  unfold tK
  by_cases hc:gN a b=true
  ·rw[if_pos hc]
   rcases nX r a with h|h
   ·exact .inr (by rw[h];simp)
   ·exact .inr (List.mem_cons_of_mem _ h)
  ·rw[if_neg hc]
   rcases nX r b with h|h
   ·exact .inl h
   ·exact .inr (List.mem_cons_of_mem _ h)
def mO (l:List aS) (x:aS):Prop:=x∈l∧∀y∈l,gN y x=false
theorem oD {a b c:aS} (h1:gN b a=false) (h2:gN c b=false):gN c a=false:=by
 unfold gN at*
 simp only[Bool.or_eq_false_iff,Bool.and_eq_false_iff,decide_eq_false_iff_not]at*
 omega
theorem pX (a:aS):gN a a=false:=by
 unfold gN
 simp
theorem A7 {a b:aS} (h:gN a b=true):gN b a=false:=by
 unfold gN at*
 simp only[Bool.or_eq_true,Bool.and_eq_true,decide_eq_true_eq,Bool.or_eq_false_iff,Bool.and_eq_false_iff,decide_eq_false_iff_not]at*
 omega
theorem nU:∀(r:List aS) (b:aS),gN b (tK r b)=false∧∀y∈r,gN y (tK r b)=false
 |[],b=>⟨pX b,by simp⟩
 |a::r,b=>by
  unfold tK
  obtain⟨h1,h2⟩:=nU r (if gN a b then a else b)
  split at h1
  ·next h=>
   rw[if_pos h]at h2⊢
   have hb:=A7 h
   exact⟨oD h1 hb,fun y hy=>by rcases List.mem_cons.1 hy with rfl|hy;exact h1;exact h2 y hy⟩
  ·next h=>
   rw[if_neg h]at h2⊢
   have hb:gN a b=false:=by simpa using h
   exact⟨h1,fun y hy=>by rcases List.mem_cons.1 hy with rfl|hy;exact oD h1 hb;exact h2 y hy⟩
theorem rF (b:aS) (r:List aS):mO (b::r) (tK r b):=by
 obtain⟨h1,h2⟩:=nU r b
 refine⟨?_,fun y hy=>by rcases List.mem_cons.1 hy with rfl|hy;exact h1;exact h2 y hy⟩
 rcases nX r b with h|h
 ·rw[h];simp
 ·exact List.mem_cons_of_mem _ h
theorem pO {l:List aS} {x y:aS} (hn:(l.map (·.ip)).Nodup) (hx:mO l x) (hy:mO l y):x=y:=by
 have h1:=hx.2 y hy.1
 have h2:=hy.2 x hx.1
 have hi:x.ip=y.ip:=by
  unfold gN at h1 h2
  simp only[Bool.or_eq_false_iff,Bool.and_eq_false_iff,decide_eq_false_iff_not]at h1 h2
  omega
 have key:∀l:List aS,(l.map (·.ip)).Nodup→x∈l→y∈l→x=y:=by
  intro l
  induction l with
  |nil=>intro _ h;cases h
  |cons a r ih=>
   intro hn hx hy
   rw[List.map_cons,List.nodup_cons]at hn
   rcases List.mem_cons.1 hx with rfl|hx'<;>rcases List.mem_cons.1 hy with rfl|hy'
   ·rfl
   ·exact absurd (hi▸List.mem_map_of_mem hy') hn.1
   ·exact absurd (hi▸List.mem_map_of_mem hx') hn.1
   ·exact ih hn.2 hx' hy'
 exact key l hn hx.1 hy.1
theorem Aw {l:List aS} {e x:aS} (hn:(l.map (·.ip)).Nodup) (hl:¬l.length<4) (hx:mO l x):((l.filter fun y=>y.ip !=x.ip)++[e]).Perm (enter l e):=by
 unfold enter
 rw[if_neg hl]
 cases l with
 |nil=>exact absurd (by decide) hl
 |cons b r=>
  simp only
  have hxl:=pO hn hx (rF b r)
  rw[←hxl]
  clear hxl hl
  have hx1:=hx.1
  clear hx
  generalize b::r=l at*
  induction l with
  |nil=>cases hx1
  |cons a r ih=>
   rw[List.map_cons,List.nodup_cons]at hn
   by_cases ha:a.ip=x.ip
   ·have hr:∀y∈r,y.ip≠x.ip:=fun y hy h=>hn.1 (by rw[ha,←h];exact List.mem_map_of_mem hy)
    have e1:(r.filter fun y=>y.ip !=x.ip)=r:=List.filter_eq_self.2 fun y hy=>by simpa using hr y hy
    have e2:(r.map fun y=>if y.ip=x.ip then e else y)=r:=by
     conv=>rhs;rw[←List.map_id r]
     apply List.map_congr_left;intro y hy;rw[if_neg (hr y hy)];rfl
    rw[List.map_cons,if_pos ha,e2,List.filter_cons,ha]
    simp only[bne_self_eq_false,Bool.false_eq_true,if_false]
    rw[e1]
    exact List.perm_append_singleton _ _
   ·have hx':x∈r:=by
     rcases List.mem_cons.1 hx1 with rfl|h
     ·exact absurd rfl ha
     ·exact h
    rw[List.map_cons,if_neg ha,List.filter_cons]
    have:(a.ip !=x.ip)=true:=by simpa using ha
    rw[this,if_pos rfl,List.cons_append]
    exact(ih hn.2 hx').cons a
theorem aC.mpTurn {w w':World} {L:Lay} {s:St} {l:List aS} (h:aC w L s) (hf:Fr (aJ L.mp) w w') (hm:dR w' L.mp l) (ok:({s with cache:=l}:St).Ok):aC w' L {s with cache:=l}:=by
 have hn:=h.ne
 simp only[Lay.blocks,List.nodup_cons,List.mem_cons,List.not_mem_nil,or_false,not_or]at hn
 obtain⟨⟨n1,n2,n3,n4,n5⟩,⟨m2,m3,m4,m5⟩,⟨k3,k4,k5⟩,⟨j4,j5⟩,i5,_⟩:=hn
 exact⟨h.bk.keep hf n5,h.rx.keep hf m5 k5,h.tx.keep hf j5 i5,hm,kN h.im hf fun a ha x=>h.ni a ha (by simp only[Lay.blocks,List.mem_cons];simp[show a.block=L.mp from x]),h.ne,h.ni,ok,
  h.gb.keep hf (fun b hb x=>h.gd _ (oP L) (x▸hb)),h.gd⟩
end Go.Proofs.YtcllkmllflheiaaGreatDoor
