/- Parts of the walk; written by programs, merged. -/
import Derived.Test.YtcllkmllflheiaaGreatDoorLah
import Derived.Maps.RangeWalk
set_option linter.unusedSimpArgs false
set_option linter.unusedVariables false
set_option maxRecDepth 20000
set_option maxHeartbeats 8000000
namespace Go.Proofs.YtcllkmllflheiaaGreatDoor
open Go.RowKit Go.Proofs Go.Maps
attribute [local go_sem] aG aD aE aF
theorem fF:Keyed Tryz.prog 53:=int_keyed Tryz.underlying53
theorem AL {ip:Nat} (h:ip<4294967296):keyOf Tryz.prog 53 (.int .u32 (ip:Int))=some (ipL ip):=keyOf_int_mk Tryz.underlying53 (by simp[Lit.wf,IntKind.min,IntKind.max,IntKind.signed,IntKind.bits];omega)
theorem Rep.entry {D:DataW Unit} {l:List aS} (h:Rep D l) {x:Int} {kl:Lit} {v:Value} {y:DataW Unit×List MemPlace} (hk:keyOf Tryz.prog 53 (.int .u32 x)=some kl) (hh:Maps.has D kl=true) (hv:mE v=some y) (ha:∀zd,D.atKey kl zd=y.1):
 ∃e∈l,x=(e.ip:Int)∧kl=ipL e.ip∧v=pB e:=by
 obtain⟨x',e1,rfl,hw⟩:=Maps.keyOf_int_inv Tryz.underlying53 hk
 injection e1 with _ e1
 subst e1
 have hx:0≤x∧x<4294967296:=by
  simp[Lit.wf,IntKind.min,IntKind.max,IntKind.signed,IntKind.bits]at hw;omega
 obtain⟨n,rfl⟩:=Int.eq_ofNat_of_zero_le hx.1
 have hh':Maps.has D (ipL n)=true:=hh
 rw[h.has,List.any_eq_true]at hh'
 obtain⟨e,he,hb⟩:=hh'
 have hb:e.ip=n:=by simpa using hb
 subst hb
 refine⟨e,he,rfl,rfl,?_⟩
 have h1:D.atKey (ipL e.ip) (.agg [])=fE e:=h.at_ e he _
 have h2:D.atKey (ipL e.ip) (.agg [])=y.1:=ha _
 have h3:mE v=some (fE e,y.2):=by rw[hv,←h1,h2]
 exact jN h3
def lW (l:List aS) (left:Lit→Bool) (f:Nat) (a:Int):Prop:=
 (f=0∧a= -1∧∀e∈l,left (ipL e.ip)=true)∨∃x∈l,left (ipL x.ip)=false∧f=x.ip∧a=x.due∧∀y∈l,left (ipL y.ip)=false→gN y x=false
theorem qI {a b:Nat}:(!(ipL a).sameKey (ipL b))= !(a==b):=by
 by_cases h:a=b
 ·subst h;rw[WideAt.sameKey_self (iS a)];simp
 ·rw[sameKey_ne (fun x=>h (kL x))];simp[h]
theorem wK {l:List aS} {left:Lit→Bool} {f:Nat} {a:Int} {e:aS} (hn:(l.map (·.ip)).Nodup) (h:lW l left f a) (he:e∈l) (hd:∀e∈l,0≤e.due) (ht:a<0∨e.due<a∨(e.due=a∧e.ip<f)):
 lW l (fun z=>left z&& !z.sameKey (ipL e.ip)) e.ip e.due:=by
 refine .inr ⟨e,he,?_,rfl,rfl,fun y hy hl=> ?_⟩
 ·simp[WideAt.sameKey_self (iS _)]
 ·simp only[qI,Bool.and_eq_false_iff,Bool.not_eq_false']at hl
  rcases hl with hl|hl
  ·rcases h with⟨_,_,h3⟩|⟨x,hx,hxl,rfl,rfl,h5⟩
   ·rw[h3 y hy]at hl;cases hl
   ·have h6:=h5 y hy hl
    have:=hd x hx
    unfold gN at h6⊢
    simp only[Bool.or_eq_false_iff,Bool.and_eq_false_iff,decide_eq_false_iff_not]at h6⊢
    omega
  ·have:y=e:=by
    have hh:y.ip=e.ip:=by simpa using hl
    have key:∀l:List aS,(l.map (·.ip)).Nodup→y∈l→e∈l→y=e:=by
     intro l
     induction l with
     |nil=>intro _ h;cases h
     |cons a r ih=>
      intro hn hx hy
      rw[List.map_cons,List.nodup_cons]at hn
      rcases List.mem_cons.1 hx with rfl|hx'<;>rcases List.mem_cons.1 hy with rfl|hy'
      ·rfl
      ·exact absurd (hh▸List.mem_map_of_mem hy') hn.1
      ·exact absurd (hh▸List.mem_map_of_mem hx') hn.1
      ·exact ih hn.2 hx' hy'
    exact key l hn hy he
   rw[this];exact pX e
theorem uX {l:List aS} {left:Lit→Bool} {f:Nat} {a:Int} {e:aS} (hn:(l.map (·.ip)).Nodup) (h:lW l left f a) (he:e∈l) (hd:∀e∈l,0≤e.due) (ht:¬(a<0∨e.due<a∨(e.due=a∧e.ip<f))):
 lW l (fun z=>left z&& !z.sameKey (ipL e.ip)) f a:=by
 rcases h with⟨_,h2,_⟩|⟨x,hx,hxl,rfl,rfl,h5⟩
 ·omega
 ·refine .inr ⟨x,hx,by simp[hxl],rfl,rfl,fun y hy hl=> ?_⟩
  simp only[qI,Bool.and_eq_false_iff,Bool.not_eq_false']at hl
  rcases hl with hl|hl
  ·exact h5 y hy hl
  ·have hh:y.ip=e.ip:=by simpa using hl
   have:y=e:=by
    have key:∀l:List aS,(l.map (·.ip)).Nodup→y∈l→e∈l→y=e:=by
     intro l
     induction l with
     |nil=>intro _ h;cases h
     |cons a r ih=>
      intro hn hx hy
      rw[List.map_cons,List.nodup_cons]at hn
      rcases List.mem_cons.1 hx with rfl|hx'<;>rcases List.mem_cons.1 hy with rfl|hy'
      ·rfl
      ·exact absurd (hh▸List.mem_map_of_mem hy') hn.1
      ·exact absurd (hh▸List.mem_map_of_mem hx') hn.1
      ·exact ih hn.2 hx' hy'
    exact key l hn hy he
   subst this
   unfold gN
   simp only[Bool.or_eq_false_iff,Bool.and_eq_false_iff,decide_eq_false_iff_not]
   omega
theorem xB {l:List aS} {left:Lit→Bool} {f:Nat} {a:Int} (hl:0<l.length) (h:lW l left f a) (hz:∀z,left z=false):∃x,mO l x∧f=x.ip:=by
 rcases h with⟨_,_,h3⟩|⟨x,hx,hxl,rfl,rfl,h5⟩
 ·have:=h3 l[0] (List.getElem_mem hl)
  rw[hz]at this;cases this
 ·exact⟨x,⟨hx,fun y hy=>h5 y hy (hz _)⟩,rfl⟩
def rD (b:Nat) (l:List aS) (w:World) (e:Ending) (w':World):Prop:=
 e= .returned (.tuple #[])∧Fr (aJ b) w w'∧((l.length<4∧dR w' b l)∨(¬l.length<4∧∃x,mO l x∧dR w' b (l.filter fun y=>y.ip !=x.ip)))
theorem vT (cb co b:Nat) (l:List aS) (w:World) (hc:w.cell? ⟨cb,co,none⟩=some (.map (some b))) (hcb:cb≠b) (hm:dR w b l) (hd:∀e∈l,0≤e.due∧e.due≤4611686018427388000) (hl4:l.length≤1000):
 Calls Tryz.prog 144 #[.pointer (some ⟨cb,co,none⟩)] w (rD b l w):=by
 obtain⟨D,hown,hrep⟩:=hm
 have hrl:=hown.len Tryz.underlying77 3
 rw[hrep.size]at hrl
 by_cases hlt:l.length<4
 ·have hli:(l.length:Int)<4:=by omega
  have Hlt:=Lib.hid hlt
  clear hlt
  go_enter Tryz.func144,Tryz.ntmps144
  go_wp2_with fail
  exact bodyPost_ret (results_none rfl _ _ _) rfl ⟨rfl,Fr.refl _ _,.inl ⟨Hlt.out,D,hown,hrep⟩⟩
 ·have hli:¬(l.length:Int)<4:=by omega
  have Hlt:=Lib.hid hlt
  clear hlt
  go_enter Tryz.func144,Tryz.ntmps144
  go_wp2_with (refine wpList_range_own _ rfl (.tmp 15) 77 rfl 53 107 fF Tryz.underlying77 mE b l.length D rfl hown ?_;intro w1 hrg hg1 hs1)
  have hdn:∀e∈l,0≤e.due:=fun e he=>(hd e he).1
  have hw1:Fr noB w w1:=(Fr.refl _ _).grown hg1 (fun g h _=>by cases h)
  have hcl:cb<w.heap.size:=bK hc
  have Hd:=Lib.hid hd
  have Hhas:=Lib.hid (show Maps.has D=Maps.has D from rfl)
  clear hd hrl
  obtain⟨r,hr⟩:∃r,w.heap.size=r:=⟨_,rfl⟩
  rw[hr]at hrg hs1 hcl⊢
  have Hr:=Lib.hid hr
  clear hr
  go_loopw [2,3] (fun fv av wr=>∃(f:Nat) (a:Int) (left:Lit→Bool) (cnt:Nat),fv= .int .u32 (f:Int)∧av= .int .i64 a∧f<4294967296∧-1≤a∧a≤4611686018427388000∧lW l left f a∧wr.ranges Tryz.prog 53 mE b r l.length D left cnt∧Fr noB w wr∧(∀kl,left kl=true→Maps.has D kl=true)) (fun _ _ wr=>wr.rangeLeft b r)
  case atStart=>
   exact⟨0,-1,_,_,rfl,rfl,by decide,by decide,by decide,.inl ⟨rfl,rfl,fun e he=>by rw[hrep.has,List.any_eq_true];exact⟨e,he,by simp⟩⟩,hrg,hw1,fun _ h=>h⟩
  case round=>
   obtain⟨f,a,left,cnt,rfl,rfl,hf4,ha0,ha1,hrel,hrg,hwr,hleft⟩:=hrel
   have hcr:wr.cell? ⟨cb,co,none⟩=some (.map (some b)):=(hwr.cell (a:=⟨cb,co,none⟩) (by have:=Hr.out;simp only;omega) (fun x=>x)).trans hc
   have hleq:=hrg.left_eq
   have Hleq:=Lib.hid hleq
   clear hleq
   go_wp2_with (refine wpList_next_ranges (α:=Int) (β:=Value) _ rfl (.tmp 16) rfl 53 fF mE (fun x=> .int .u32 x) id (fun key kl hk=>by obtain⟨x,e,_⟩:=Maps.keyOf_int_inv Tryz.underlying53 hk;exact⟨x,e⟩) (fun v y _=>⟨v,rfl⟩) b r l.length D left cnt rfl hrg ?_ ?_)
   ·intro h0 hz
    obtain⟨x,hx,hfx⟩:=xB (by have:=Hlt.out;omega) hrel hz
    have hown2:=hrg.owns
    have hkey:=AL hf4
    have Hx:=Lib.hid hx
    have Hfx:=Lib.hid hfx
    clear h0 hz hx hfx hrel hleft
    go_wp2_with (at_delete
                 go_must (refine wpList_delete_own _ rfl (.tmp 47) (.tmp 48) 77 53 rfl 107 fF Tryz.underlying77 mE b l.length D rfl hown2 _ (ipL f) rfl hkey ?_)
                 intro w3 hown3 htn3)
    have hf3:Fr (aJ b) w w3:=(hwr.of_no (aJ b)).trans ((Fr.refl (aJ b) wr).grown htn3.grown (fun g h _=>by injection h with h;exact h.symm))
    refine bodyPost_end (results_none rfl _ _ _) rfl ⟨rfl,hf3,.inr ⟨Hlt.out,x,Hx.out,?_⟩⟩
    rw[Hfx.out]at hown3
    exact .of hown3 (hrep.del x.ip)
   ·intro x c kl yd yp w2 cnt2 hkey hlk hv hat hrg2 hlt hg2 hs2 hen
    obtain⟨e,he,rfl,rfl,rfl⟩:=hrep.entry hkey (hleft _ hlk) hv hat
    have hw2:Fr noB w w2:=hwr.trans' (T:=fun k=>k=r) ((Fr.refl _ _).grown hg2 (fun g h _=>by injection h with h;exact h.symm)) (fun k hk h=>by have:=Hr.out;omega)
    have hdu:=Hd.out e he
    have hel:=hrep.lt e he
    have hdec:(a<0∨e.due<a∨(e.due=a∧e.ip<f))∨¬(a<0∨e.due<a∨(e.due=a∧e.ip<f)):=Classical.em _
    have Hstep:=Lib.hid (fun h=>wK hrep.nd hrel he hdn h)
    have Hkeep:=Lib.hid (fun h=>uX hrep.nd hrel he hdn h)
    have Hleft2:Hid (∀kl,(fun z=>left z&& !z.sameKey (ipL e.ip)) kl=true→Maps.has D kl=true):=Lib.hid (fun kl h=>hleft kl (by simp only[Bool.and_eq_true]at h;exact h.1))
    have Hrg2:=Lib.hid hrg2
    have Hlt2:=Lib.hid hlt
    unfold pB at hen⊢
    clear hrg2 hlt hkey hlk hv hat hrel hrg hleft hwr hg2 hdn he hs2 hcr
    by_cases t1:a<0
    ·have hh:a<0∨e.due<a∨(e.due=a∧e.ip<f):= .inl t1
     have Hh:=Lib.hid hh
     clear hh hdec
     go_wp2_with fail
     go_quiet (fail)
     go_wp2_with fail
     refine⟨⟨e.ip,e.due,_,cnt2,rfl,rfl,by omega,by omega,by omega,Hstep.out Hh.out,Hrg2.out.alloc _,(hw2.alloc _).drewN _,Hleft2.out⟩,?_⟩
     have h1:=(Hrg2.out.alloc (.cells #[.int .u8 (e.card.1.toNat:Int),.int .u8 (e.card.2.1.toNat:Int),.int .u8 (e.card.2.2.1.toNat:Int),.int .u8 (e.card.2.2.2.1.toNat:Int),.int .u8 (e.card.2.2.2.2.1.toNat:Int),.int .u8 (e.card.2.2.2.2.2.toNat:Int),.bool e.known,.int .i64 e.due,.int .i64 e.asked,.string (bs e.waits)] 107)).left_eq
     have h2:=Hleq.out
     have h3:=Hlt2.out
     show World.rangeLeft (w2.alloc _) b r<World.rangeLeft wr b r
     rw[h1,h2];exact h3
    by_cases t2:e.due<a
    ·have hh:a<0∨e.due<a∨(e.due=a∧e.ip<f):= .inr (.inl t2)
     have Hh:=Lib.hid hh
     clear hh hdec
     go_wp2_with fail
     go_quiet (fail)
     go_wp2_with fail
     refine⟨⟨e.ip,e.due,_,cnt2,rfl,rfl,by omega,by omega,by omega,Hstep.out Hh.out,Hrg2.out.alloc _,(hw2.alloc _).drewN _,Hleft2.out⟩,?_⟩
     have h1:=(Hrg2.out.alloc (.cells #[.int .u8 (e.card.1.toNat:Int),.int .u8 (e.card.2.1.toNat:Int),.int .u8 (e.card.2.2.1.toNat:Int),.int .u8 (e.card.2.2.2.1.toNat:Int),.int .u8 (e.card.2.2.2.2.1.toNat:Int),.int .u8 (e.card.2.2.2.2.2.toNat:Int),.bool e.known,.int .i64 e.due,.int .i64 e.asked,.string (bs e.waits)] 107)).left_eq
     have h2:=Hleq.out
     have h3:=Hlt2.out
     show World.rangeLeft (w2.alloc _) b r<World.rangeLeft wr b r
     rw[h1,h2];exact h3
    by_cases t3:e.due=a
    ·have t3b:(e.due==a)=true:=by simpa using t3
     by_cases t4:e.ip<f
     ·have hh:a<0∨e.due<a∨(e.due=a∧e.ip<f):= .inr (.inr ⟨t3,t4⟩)
      have Ht3:=Lib.hid t3
      have Hh:=Lib.hid hh
      clear hh hdec t3
      go_wp2_with fail
      go_quiet (fail)
      go_wp2_with fail
      refine⟨⟨e.ip,e.due,_,cnt2,rfl,rfl,by omega,by omega,by omega,Hstep.out Hh.out,Hrg2.out.alloc _,(hw2.alloc _).drewN _,Hleft2.out⟩,?_⟩
      have h1:=(Hrg2.out.alloc (.cells #[.int .u8 (e.card.1.toNat:Int),.int .u8 (e.card.2.1.toNat:Int),.int .u8 (e.card.2.2.1.toNat:Int),.int .u8 (e.card.2.2.2.1.toNat:Int),.int .u8 (e.card.2.2.2.2.1.toNat:Int),.int .u8 (e.card.2.2.2.2.2.toNat:Int),.bool e.known,.int .i64 e.due,.int .i64 e.asked,.string (bs e.waits)] 107)).left_eq
      have h2:=Hleq.out
      have h3:=Hlt2.out
      show World.rangeLeft (w2.alloc _) b r<World.rangeLeft wr b r
      rw[h1,h2];exact h3
     ·have hh:¬(a<0∨e.due<a∨(e.due=a∧e.ip<f)):=by omega
      have Ht3:=Lib.hid t3
      have Hh:=Lib.hid hh
      clear hh hdec t3
      go_wp2_with fail
      refine⟨⟨f,a,_,cnt2,rfl,rfl,by omega,by omega,by omega,Hkeep.out Hh.out,Hrg2.out.alloc _,hw2.alloc _,Hleft2.out⟩,?_⟩
      have h1:=(Hrg2.out.alloc (.cells #[.int .u8 (e.card.1.toNat:Int),.int .u8 (e.card.2.1.toNat:Int),.int .u8 (e.card.2.2.1.toNat:Int),.int .u8 (e.card.2.2.2.1.toNat:Int),.int .u8 (e.card.2.2.2.2.1.toNat:Int),.int .u8 (e.card.2.2.2.2.2.toNat:Int),.bool e.known,.int .i64 e.due,.int .i64 e.asked,.string (bs e.waits)] 107)).left_eq
      have h2:=Hleq.out
      have h3:=Hlt2.out
      show World.rangeLeft (w2.alloc _) b r<World.rangeLeft wr b r
      rw[h1,h2];exact h3
    ·have t3b:(e.due==a)=false:=by simpa using t3
     have hh:¬(a<0∨e.due<a∨(e.due=a∧e.ip<f)):=by omega
     have Hh:=Lib.hid hh
     clear hh hdec t3
     go_wp2_with fail
     refine⟨⟨f,a,_,cnt2,rfl,rfl,by omega,by omega,by omega,Hkeep.out Hh.out,Hrg2.out.alloc _,hw2.alloc _,Hleft2.out⟩,?_⟩
     have h1:=(Hrg2.out.alloc (.cells #[.int .u8 (e.card.1.toNat:Int),.int .u8 (e.card.2.1.toNat:Int),.int .u8 (e.card.2.2.1.toNat:Int),.int .u8 (e.card.2.2.2.1.toNat:Int),.int .u8 (e.card.2.2.2.2.1.toNat:Int),.int .u8 (e.card.2.2.2.2.2.toNat:Int),.bool e.known,.int .i64 e.due,.int .i64 e.asked,.string (bs e.waits)] 107)).left_eq
     have h2:=Hleq.out
     have h3:=Hlt2.out
     show World.rangeLeft (w2.alloc _) b r<World.rangeLeft wr b r
     rw[h1,h2];exact h3
end Go.Proofs.YtcllkmllflheiaaGreatDoor
namespace Go.Proofs.YtcllkmllflheiaaGreatDoor
open Go.RowKit Go.Proofs Go.Maps
attribute [local go_sem] aG aD aE aF
theorem FrS {w w1:World} {g:Nat} (h:Fr (aJ g) w w1) (o:Nat) (v:Value):Fr (aJ g) w (w1.setCell ⟨g,o,none⟩ v):=h.setCell (p:=⟨g,o,none⟩) (fun _=>rfl) v
def tP:aS:=⟨0,nA,false,0,0,[]⟩
theorem EF:pB tP= .agg #[.int .u8 0,.int .u8 0,.int .u8 0,.int .u8 0,.int .u8 0,.int .u8 0,.bool false,.int .i64 0,.int .i64 0,.string ⟨#[]⟩]:=rfl
theorem nQ (w:World):(zeroValue 107).run Tryz.prog w= .ok (pB tP) w:=by kernel_rfl
theorem BN {D:DataW Unit} {l:List aS} {ip:Nat} (h:Rep D l) (hf:lB l ip=none):Maps.has D (ipL ip)=false∧D.atKey (ipL ip) (fE tP)=fE tP:=by
 have h1:Maps.has D (ipL ip)=false:=by
  rw[h.has,Bool.eq_false_iff];intro hx;exact nP hf ((qE l ip).1 hx)
 exact⟨h1,atKey_of_not_has h1 _⟩
theorem yN {D:DataW Unit} {l:List aS} {ip:Nat} {e:aS} (h:Rep D l) (hf:lB l ip=some e):Maps.has D (ipL ip)=true∧D.atKey (ipL ip) (fE tP)=fE e:=by
 obtain⟨h1,rfl⟩:=gR hf
 exact⟨by rw[h.has,List.any_eq_true];exact⟨e,h1,by simp⟩,h.at_ e h1 _⟩
def gP (l:List aS) (ip:Nat):Value:=match lB l ip with
 |none=> .tuple #[.agg #[.int .u8 0,.int .u8 0,.int .u8 0,.int .u8 0,.int .u8 0,.int .u8 0],.bool false,.bool true]
 |some e=>if e.known then .tuple #[.agg #[.int .u8 (e.card.1.toNat:Int),.int .u8 (e.card.2.1.toNat:Int),.int .u8 (e.card.2.2.1.toNat:Int),.int .u8 (e.card.2.2.2.1.toNat:Int),.int .u8 (e.card.2.2.2.2.1.toNat:Int),.int .u8 (e.card.2.2.2.2.2.toNat:Int)],.bool true,.bool false]else .tuple #[.agg #[.int .u8 0,.int .u8 0,.int .u8 0,.int .u8 0,.int .u8 0,.int .u8 0],.bool false,.bool false]
def mK (l:List aS) (ip:Nat) (pk:List UInt8) (now:Int):List aS:=match lB l ip with
 |none=>enter l ⟨ip,nA,false,wrap64 (now+2),1,pk⟩
 |some e=>if e.known then l else bM l ip fun e=>{e with waits:=pk}
def Ek (b:Nat) (l:List aS) (ip:Nat) (pk:List UInt8) (now:Int) (w:World) (e:Ending) (w':World):Prop:=e= .returned (gP l ip)∧dR w' b (mK l ip pk now)∧Fr (aJ b) w w'
theorem rD.use {b ip:Nat} {l:List aS} {w w':World} {e:Ending} (h:rD b l w e w') (hn:(l.map (·.ip)).Nodup) (hf:lB l ip=none):
 e= .returned (.tuple #[])∧Fr (aJ b) w w'∧∃(l':List aS) (D:DataW Unit),w'.ownsMap Tryz.prog 53 mE b l'.length D∧Rep D l'∧ip∉l'.map (·.ip)∧l'.length≤l.length∧∀x,(l'++[x]).Perm (enter l x):=by
 obtain⟨h1,h2,⟨h3,D,h4,h5⟩|⟨h3,x,h4,D,h5,h6⟩⟩:=h
 ·exact⟨h1,h2,l,D,h4,h5,nP hf,Nat.le_refl _,fun x=>by unfold enter;rw[if_pos h3]⟩
 ·refine⟨h1,h2,_,D,h5,h6,fun hx=>nP hf ?_,List.length_filter_le _ _,fun y=>Aw hn h3 h4⟩
  obtain⟨y,hy,hi⟩:=List.mem_map.1 hx
  exact hi▸List.mem_map_of_mem (List.mem_filter.1 hy).1
theorem CW {l:List aS} {ip:Nat} {e:aS} (f:aS→aS) (hn:(l.map (·.ip)).Nodup) (h:lB l ip=some e):bM l ip f=bM l ip fun _=>f e:=by
 obtain⟨h1,h2⟩:=gR h
 unfold bM
 apply List.map_congr_left
 intro x hx
 by_cases hi:x.ip=ip
 ·rw[if_pos hi,if_pos hi]
  congr 1
  have key:∀l:List aS,(l.map (·.ip)).Nodup→x∈l→e∈l→x=e:=by
   intro l
   induction l with
   |nil=>intro _ h;cases h
   |cons a r ih=>
    intro hn hx hy
    rw[List.map_cons,List.nodup_cons]at hn
    rcases List.mem_cons.1 hx with rfl|hx'<;>rcases List.mem_cons.1 hy with rfl|hy'
    ·rfl
    ·exact absurd (by rw[hi,←h2];exact List.mem_map_of_mem hy') hn.1
    ·exact absurd (by rw[h2,←hi];exact List.mem_map_of_mem hx') hn.1
    ·exact ih hn.2 hx' hy'
  exact key l hn hx h1
 ·rw[if_neg hi,if_neg hi]
theorem uL (cb co b ip:Nat) (l:List aS) (pk:List UInt8) (now:Int) (w:World) (hc:w.cell? ⟨cb,co,none⟩=some (.map (some b))) (hcb:cb≠b) (hm:dR w b l) (hd:∀e∈l,0≤e.due∧e.due≤4611686018427388000) (hl4:l.length≤4) (hip:ip<4294967296):
 Calls Tryz.prog 90 #[.pointer (some ⟨cb,co,none⟩),.int .u32 (ip:Int),.string (bs pk),.int .i64 now] w (Ek b l ip pk now w):=by
 obtain⟨D,hown,hrep⟩:=hm
 have hkey:=AL hip
 have hbl:=hown.lt
 have hcl:cb<w.heap.size:=bK hc
 have hownX:=(hown.alloc (.cells #[.int .u8 0,.int .u8 0,.int .u8 0,.int .u8 0,.int .u8 0,.int .u8 0] 26))
 cases hf:lB l ip with
 |some e=>
  obtain⟨hhas,hat⟩:=yN hrep hf
  have Hat:=Lib.hid hat
  have Hhas:=Lib.hid hhas
  have Hf:=Lib.hid hf
  clear hf hat hhas
  have hg8:=(Bk.new w 26 #[.int .u8 0,.int .u8 0,.int .u8 0,.int .u8 0,.int .u8 0,.int .u8 0]).alloc (.cells #[.int .u8 (e.card.1.toNat:Int),.int .u8 (e.card.2.1.toNat:Int),.int .u8 (e.card.2.2.1.toNat:Int),.int .u8 (e.card.2.2.2.1.toNat:Int),.int .u8 (e.card.2.2.2.2.1.toNat:Int),.int .u8 (e.card.2.2.2.2.2.toNat:Int),.bool e.known,.int .i64 e.due,.int .i64 e.asked,.string (bs e.waits)] 107)
  have hg11:=Bk.new (w.alloc (.cells #[.int .u8 0,.int .u8 0,.int .u8 0,.int .u8 0,.int .u8 0,.int .u8 0] 26)) 107 #[.int .u8 (e.card.1.toNat:Int),.int .u8 (e.card.2.1.toNat:Int),.int .u8 (e.card.2.2.1.toNat:Int),.int .u8 (e.card.2.2.2.1.toNat:Int),.int .u8 (e.card.2.2.2.2.1.toNat:Int),.int .u8 (e.card.2.2.2.2.2.toNat:Int),.bool e.known,.int .i64 e.due,.int .i64 e.asked,.string (bs e.waits)]
  have hf1:Fr noB w ((w.alloc (.cells #[.int .u8 0,.int .u8 0,.int .u8 0,.int .u8 0,.int .u8 0,.int .u8 0] 26)).alloc (.cells #[.int .u8 (e.card.1.toNat:Int),.int .u8 (e.card.2.1.toNat:Int),.int .u8 (e.card.2.2.1.toNat:Int),.int .u8 (e.card.2.2.2.1.toNat:Int),.int .u8 (e.card.2.2.2.2.1.toNat:Int),.int .u8 (e.card.2.2.2.2.2.toNat:Int),.bool e.known,.int .i64 e.due,.int .i64 e.asked,.string (bs e.waits)] 107)):=((Fr.refl _ _).alloc _).alloc _
  rw[show(w.alloc (.cells #[.int .u8 0,.int .u8 0,.int .u8 0,.int .u8 0,.int .u8 0,.int .u8 0] 26)).heap.size=w.heap.size+1 by simp]at hg11
  go_enter Tryz.func90,Tryz.ntmps90
  go_upto_region 2 with(at_lookup;go_must (refine wpList_lookup_own_ok _ rfl (.tmp 17) (.tmp 18) 77 rfl 53 107 fF Tryz.underlying77 mE (z:=pB tP) (nQ _) (fE tP) [] (fV tP) b l.length D rfl hownX _ (ipL ip) rfl hkey ?_);intro v ps hv;rw[Hat.out]at hv;obtain rfl:=jN hv;clear hv;rw[Hhas.out];unfold pB)
  have hownY:=hown.alloc (.cells #[.int .u8 0,.int .u8 0,.int .u8 0,.int .u8 0,.int .u8 0,.int .u8 0] 26)
  have hownZ:=hownY.alloc (.cells #[.int .u8 (e.card.1.toNat:Int),.int .u8 (e.card.2.1.toNat:Int),.int .u8 (e.card.2.2.1.toNat:Int),.int .u8 (e.card.2.2.2.1.toNat:Int),.int .u8 (e.card.2.2.2.2.1.toNat:Int),.int .u8 (e.card.2.2.2.2.2.toNat:Int),.bool e.known,.int .i64 e.due,.int .i64 e.asked,.string (bs e.waits)] 107)
  have hc2:((w.alloc (.cells #[.int .u8 0,.int .u8 0,.int .u8 0,.int .u8 0,.int .u8 0,.int .u8 0] 26)).alloc (.cells #[.int .u8 (e.card.1.toNat:Int),.int .u8 (e.card.2.1.toNat:Int),.int .u8 (e.card.2.2.1.toNat:Int),.int .u8 (e.card.2.2.2.1.toNat:Int),.int .u8 (e.card.2.2.2.2.1.toNat:Int),.int .u8 (e.card.2.2.2.2.2.toNat:Int),.bool e.known,.int .i64 e.due,.int .i64 e.asked,.string (bs e.waits)] 107)).cell? ⟨cb,co,none⟩=some (.map (some b)):=(hf1.cell (a:=⟨cb,co,none⟩) hcl (fun x=>x)).trans hc
  generalize(w.alloc (.cells #[.int .u8 0,.int .u8 0,.int .u8 0,.int .u8 0,.int .u8 0,.int .u8 0] 26)).alloc (.cells #[.int .u8 (e.card.1.toNat:Int),.int .u8 (e.card.2.1.toNat:Int),.int .u8 (e.card.2.2.1.toNat:Int),.int .u8 (e.card.2.2.2.1.toNat:Int),.int .u8 (e.card.2.2.2.2.1.toNat:Int),.int .u8 (e.card.2.2.2.2.2.toNat:Int),.bool e.known,.int .i64 e.due,.int .i64 e.asked,.string (bs e.waits)] 107)=w2 at*
  obtain⟨g8,hg8e⟩:∃g8,w.heap.size=g8:=⟨_,rfl⟩
  obtain⟨g11,hg11e⟩:∃g11,w.heap.size+1=g11:=⟨_,rfl⟩
  rw[hg11e]at hg11
  rw[hg11e]
  rw[hg8e]at hg8
  rw[hg8e]
  have hne:g8≠g11:=by omega
  have hn3:g8<g11:=by omega
  have hn1:cb<g8:=by omega
  have hn2:b<g8:=by omega
  have Hg8:=Lib.hid hg8e
  have Hg11:=Lib.hid hg11e
  clear hg8e hg11e hownX hownY hown hc hcl hbl
  rcases hkn:e.known with _|_
  ·(try rw[hkn]at hg11)
   have Hkn:=Lib.hid hkn
   clear hkn
   have h8c:=hg8.cells
   have h11c:=hg11.cells
   have h11f:=hg11.frees
   go_upto_region 8 with fail
   have hg11b:=hg11.set 9 (.string (bs pk))
   have hg8b:=hg8.far (p:=⟨g11,9,none⟩) hne (.string (bs pk))
   have hcb2:(w2.setCell ⟨g11,9,none⟩ (.string (bs pk))).cell? ⟨cb,co,none⟩=some (.map (some b)):=((Fr.refl (aJ g11) w2).setCell (p:=⟨g11,9,none⟩) (fun _=>rfl) (.string (bs pk))).cell (a:=⟨cb,co,none⟩) (bK hc2) (by unfold aJ;simp only;omega)|>.trans hc2
   have hownb:=hownZ.setCell (a:=⟨g11,9,none⟩) (by simp only;omega) (.string (bs pk))
   have hf2:Fr noB w (w2.setCell ⟨g11,9,none⟩ (.string (bs pk))):=hf1.setCell (p:=⟨g11,9,none⟩) (fun h=>by simp only at h;have:=Hg8.out;have:=Hg11.out;omega) _
   generalize w2.setCell ⟨g11,9,none⟩ (.string (bs pk))=w3 at*
   simp only[List.setIfInBounds_toArray,List.set_cons_succ,List.set_cons_zero]at hg11b
   clear h8c h11c h11f hg11 hg8 hownZ hc2 hf1
   refine wpr (fun w'=>Bk w' g8 26 #[.int .u8 0,.int .u8 0,.int .u8 0,.int .u8 0,.int .u8 0,.int .u8 0]∧Bk w' g11 107 #[.int .u8 (e.card.1.toNat:Int),.int .u8 (e.card.2.1.toNat:Int),.int .u8 (e.card.2.2.1.toNat:Int),.int .u8 (e.card.2.2.2.1.toNat:Int),.int .u8 (e.card.2.2.2.2.1.toNat:Int),.int .u8 (e.card.2.2.2.2.2.toNat:Int),.bool false,.int .i64 e.due,.int .i64 e.asked,.string (bs pk)]∧w'.cell? ⟨cb,co,none⟩=some (.map (some b))∧w'.ownsMap Tryz.prog 53 mE b l.length D∧Fr noB w w') [6] (.p 0 (.p 1 (.p 2 (.p 4 (.q 3 (.q 5 (.e 6 (.nil)))))))) (⟨hg8b.drew,hg11b.drew,hcb2,hownb.drew,hf2.drew⟩) ?_
   intro ops Q' hO hQ' wr1 hR1
   iterate 4 refine pP hO ?_
   iterate 2 (refine pQ hO rfl rfl (fun w' hS=>by obtain⟨hS1,hS2,hS3,hS4,hS5⟩:=hS;have hSc:=hS2.cells;exact qd) ?_)
   refine gC hO rfl rfl rfl (fun K hK=> ?_)
   obtain⟨w4,hrun,hown4,htn4⟩:=hR1.2.2.2.1.store fF Tryz.underlying77 (by unfold maxLen;omega) hkey (fV ⟨ip,e.card,false,e.due,e.asked,pk⟩)
   simp only[pB]at hrun
   go_simp
   refine hK _ _ ?_
   clear hK K
   refine bV (hQ' _ _ ?_)
   obtain⟨k1,k2,k3,k4,k5⟩:=hR1
   have hf4:Fr (aJ b) wr1 w4:=(Fr.refl (aJ b) wr1).grown htn4.grown (fun g h _=>by injection h with h;exact h.symm)
   have h8d:=k1.keep hf4 (by unfold aJ;omega)
   have h8c:=h8d.cells
   have h8f:=h8d.frees
   have Hown4:=Lib.hid hown4
   clear hrun hown4 htn4
   go_wp2_with fail
   obtain⟨hmem,hei⟩:=gR Hf.out
   have hres:gP l ip= .tuple #[.agg #[.int .u8 0,.int .u8 0,.int .u8 0,.int .u8 0,.int .u8 0,.int .u8 0],.bool false,.bool false]:=by unfold gP;rw[Hf.out];simp only[Hkn.out,Bool.false_eq_true,if_false]
   have hee:({e with waits:=pk}:aS)=⟨ip,e.card,false,e.due,e.asked,pk⟩:=by rw[hei,Hkn.out]
   have hL:mK l ip pk now=bM l ip fun _=>⟨ip,e.card,false,e.due,e.asked,pk⟩:=by
    unfold mK;rw[Hf.out]
    show(if e.known=true then l else _)=_
    rw[if_neg (by rw[Hkn.out];decide),CW (fun e=>{e with waits:=pk}) hrep.nd Hf.out]
    show bM l ip (fun _=>({e with waits:=pk}:aS))=_
    rw[hee]
   refine bodyPost_ret (v:= .tuple #[.agg #[.int .u8 0,.int .u8 0,.int .u8 0,.int .u8 0,.int .u8 0,.int .u8 0],.bool false,.bool false]) (by simp[results,Tryz.results90,go_sem,h8c]) rfl ⟨by rw[hres],?_,?_⟩
   ·rw[hL]
    have hm4:dR w4 b (bM l ip fun _=>⟨ip,e.card,false,e.due,e.asked,pk⟩):=
     .of Hown4.out (hrep.old (e:=⟨ip,e.card,false,e.due,e.asked,pk⟩) (by simp only;rw[←hei];exact List.mem_map_of_mem hmem))
    exact hm4.keep (S:=aJ g8) (FrS (FrS (FrS (FrS (FrS (FrS (Fr.refl _ _) _ _) _ _) _ _) _ _) _ _) _ _) (by unfold aJ;omega)
   ·refine((k5.of_no (aJ b)).trans hf4).trans' (T:=aJ g8) (FrS (FrS (FrS (FrS (FrS (FrS (Fr.refl _ _) _ _) _ _) _ _) _ _) _ _) _ _) (fun k hk h=>by have:=Hg8.out;unfold aJ at h;omega)
  ·(try rw[hkn]at hg11)
   have Hkn:=Lib.hid hkn
   clear hkn
   have h8c:=hg8.cells
   have h8f:=hg8.frees
   have h11c:=hg11.cells
   have hne':¬g11=g8:=fun x=>hne x.symm
   go_wp2_with fail
   have hres:gP l ip= .tuple #[.agg #[.int .u8 (e.card.1.toNat:Int),.int .u8 (e.card.2.1.toNat:Int),.int .u8 (e.card.2.2.1.toNat:Int),.int .u8 (e.card.2.2.2.1.toNat:Int),.int .u8 (e.card.2.2.2.2.1.toNat:Int),.int .u8 (e.card.2.2.2.2.2.toNat:Int)],.bool true,.bool false]:=by unfold gP;rw[Hf.out];simp only[Hkn.out,if_true]
   have hL:mK l ip pk now=l:=by unfold mK;rw[Hf.out];simp only[Hkn.out,if_true]
   refine bodyPost_ret (v:= .tuple #[.agg #[.int .u8 (e.card.1.toNat:Int),.int .u8 (e.card.2.1.toNat:Int),.int .u8 (e.card.2.2.1.toNat:Int),.int .u8 (e.card.2.2.2.1.toNat:Int),.int .u8 (e.card.2.2.2.2.1.toNat:Int),.int .u8 (e.card.2.2.2.2.2.toNat:Int)],.bool true,.bool false]) (by simp[results,Tryz.results90,go_sem,h8c,hne,hne']) rfl ⟨by rw[hres],?_,?_⟩
   ·rw[hL]
    exact dR.keep ⟨D,hownZ,hrep⟩ (S:=aJ g8) (FrS (FrS (FrS (FrS (FrS (FrS (Fr.refl _ _) _ _) _ _) _ _) _ _) _ _) _ _) (by unfold aJ;omega)
   ·refine(hf1.of_no (aJ b)).trans' (T:=aJ g8) (FrS (FrS (FrS (FrS (FrS (FrS (Fr.refl _ _) _ _) _ _) _ _) _ _) _ _) _ _) (fun k hk h=>by have:=Hg8.out;unfold aJ at h;omega)
 |none=>
  obtain⟨hhas,hat⟩:=BN hrep hf
  have Hat:=Lib.hid hat
  have Hhas:=Lib.hid hhas
  have Hf:=Lib.hid hf
  clear hf hat hhas
  have hg8:=(Bk.new w 26 #[.int .u8 0,.int .u8 0,.int .u8 0,.int .u8 0,.int .u8 0,.int .u8 0]).alloc (.cells #[.int .u8 0,.int .u8 0,.int .u8 0,.int .u8 0,.int .u8 0,.int .u8 0,.bool false,.int .i64 0,.int .i64 0,.string ⟨#[]⟩] 107)
  have hg11:=Bk.new (w.alloc (.cells #[.int .u8 0,.int .u8 0,.int .u8 0,.int .u8 0,.int .u8 0,.int .u8 0] 26)) 107 #[.int .u8 0,.int .u8 0,.int .u8 0,.int .u8 0,.int .u8 0,.int .u8 0,.bool false,.int .i64 0,.int .i64 0,.string ⟨#[]⟩]
  have hf1:Fr noB w ((w.alloc (.cells #[.int .u8 0,.int .u8 0,.int .u8 0,.int .u8 0,.int .u8 0,.int .u8 0] 26)).alloc (.cells #[.int .u8 0,.int .u8 0,.int .u8 0,.int .u8 0,.int .u8 0,.int .u8 0,.bool false,.int .i64 0,.int .i64 0,.string ⟨#[]⟩] 107)):=((Fr.refl _ _).alloc _).alloc _
  rw[show(w.alloc (.cells #[.int .u8 0,.int .u8 0,.int .u8 0,.int .u8 0,.int .u8 0,.int .u8 0] 26)).heap.size=w.heap.size+1 by simp]at hg11
  have Hd:=Lib.hid hd
  clear hd
  go_enter Tryz.func90,Tryz.ntmps90
  go_upto_region 2 with(at_lookup;go_must (refine wpList_lookup_own_ok _ rfl (.tmp 17) (.tmp 18) 77 rfl 53 107 fF Tryz.underlying77 mE (z:=pB tP) (nQ _) (fE tP) [] (fV tP) b l.length D rfl hownX _ (ipL ip) rfl hkey ?_);intro v ps hv;rw[Hat.out]at hv;obtain rfl:=jN hv;clear hv;rw[Hhas.out];rw[EF])
  have hownY:=hown.alloc (.cells #[.int .u8 0,.int .u8 0,.int .u8 0,.int .u8 0,.int .u8 0,.int .u8 0] 26)
  have hownZ:=hownY.alloc (.cells #[.int .u8 0,.int .u8 0,.int .u8 0,.int .u8 0,.int .u8 0,.int .u8 0,.bool false,.int .i64 0,.int .i64 0,.string ⟨#[]⟩] 107)
  have hc2:((w.alloc (.cells #[.int .u8 0,.int .u8 0,.int .u8 0,.int .u8 0,.int .u8 0,.int .u8 0] 26)).alloc (.cells #[.int .u8 0,.int .u8 0,.int .u8 0,.int .u8 0,.int .u8 0,.int .u8 0,.bool false,.int .i64 0,.int .i64 0,.string ⟨#[]⟩] 107)).cell? ⟨cb,co,none⟩=some (.map (some b)):=(hf1.cell (a:=⟨cb,co,none⟩) hcl (fun x=>x)).trans hc
  generalize(w.alloc (.cells #[.int .u8 0,.int .u8 0,.int .u8 0,.int .u8 0,.int .u8 0,.int .u8 0] 26)).alloc (.cells #[.int .u8 0,.int .u8 0,.int .u8 0,.int .u8 0,.int .u8 0,.int .u8 0,.bool false,.int .i64 0,.int .i64 0,.string ⟨#[]⟩] 107)=w2 at*
  obtain⟨g8,hg8e⟩:∃g8,w.heap.size=g8:=⟨_,rfl⟩
  obtain⟨g11,hg11e⟩:∃g11,w.heap.size+1=g11:=⟨_,rfl⟩
  rw[hg11e]at hg11
  rw[hg11e]
  rw[hg8e]at hg8
  rw[hg8e]
  have hne:g8≠g11:=by omega
  have hn3:g8<g11:=by omega
  have hn1:cb<g8:=by omega
  have hn2:b<g8:=by omega
  have Hg8:=Lib.hid hg8e
  have Hg11:=Lib.hid hg11e
  clear hg8e hg11e hownX hownY hown hc hcl hbl
  have h11c:=hg11.cells
  have hroom:=vT cb co b l w2 hc2 hcb ⟨D,hownZ,hrep⟩ Hd.out (by omega)
  have Hroom:=Lib.hid hroom
  clear hroom
  go_wp2_with fail
  refine Hroom.out.mono ?_
  intro e w5 hp
  obtain⟨rfl,hf5,l',D',hown5,hrep5,hnin,hlen5,hperm⟩:=hp.use hrep.nd Hf.out
  clear hp
  go_upto_region 6 with fail
  have hg8c:=hg8.keep hf5 (by unfold aJ;omega)
  have hg11c:=hg11.keep hf5 (by unfold aJ;omega)
  have hcc:=(hf5.cell (a:=⟨cb,co,none⟩) (bK hc2) (by unfold aJ;simp only;omega)).trans hc2
  have hf25:Fr (aJ b) w w5:=(hf1.of_no _).trans hf5
  have Hperm:=Lib.hid hperm
  have Hnin:=Lib.hid hnin
  clear hg8 hg11 h11c hc2 hownZ hf1 hf5 hperm hnin Hroom
  have hsz9:(Tryz.prog.info? 107).map (·.size)=some (#[.int .u8 0,.int .u8 0,.int .u8 0,.int .u8 0,.int .u8 0,.int .u8 0,.bool false,.int .i64 (wrap64 (now+2)),.int .i64 1,.string ⟨#[]⟩]:Array Value).size:=by kernel_rfl
  have hone:(#[.int .u8 0,.int .u8 0,.int .u8 0,.int .u8 0,.int .u8 0,.int .u8 0,.bool false,.int .i64 (wrap64 (now+2)),.int .i64 1,.string ⟨#[]⟩]:Array Value).all (·.oneCell')=true:=by simp[Value.oneCell']
  have Hsz9:=Lib.hid hsz9
  have Hone:=Lib.hid hone
  clear hsz9 hone
  go_upto_region 8 with((refine aP rfl 107 (.tmp 11) (.tmp 32) rfl g11 107 _ #[.int .u8 0,.int .u8 0,.int .u8 0,.int .u8 0,.int .u8 0,.int .u8 0,.bool false,.int .i64 (wrap64 (now+2)),.int .i64 1,.string ⟨#[]⟩] rfl rfl hg11c rfl Hsz9.out Hone.out ?_);intro w6 hg11d hf6;have h11c:=hg11d.cells;have h11f:=hg11d.frees)
  have hg11e:=hg11d.set 9 (.string (bs pk))
  have hf67:Fr (aJ g11) w5 (w6.setCell ⟨g11,9,none⟩ (.string (bs pk))):=FrS hf6 _ _
  have hg8e:=hg8c.keep hf67 (by unfold aJ;omega)
  have hcd:=(hf67.cell (a:=⟨cb,co,none⟩) (bK hcc) (by unfold aJ;simp only;omega)).trans hcc
  have hown7:=iT hown5 hf67 (by unfold aJ;omega)
  have hf27:Fr (aJ b) w (w6.setCell ⟨g11,9,none⟩ (.string (bs pk))):=hf25.trans' hf67 (fun k hk h=>by have:=Hg8.out;have:=Hg11.out;unfold aJ at h;omega)
  generalize w6.setCell ⟨g11,9,none⟩ (.string (bs pk))=w7 at*
  simp only[List.setIfInBounds_toArray,List.set_cons_succ,List.set_cons_zero]at hg11e
  clear h11c h11f hg11c hg8c hg11d hf6 hf67 hown5 hcc hf25
  refine wpr (fun w'=>Bk w' g8 26 #[.int .u8 0,.int .u8 0,.int .u8 0,.int .u8 0,.int .u8 0,.int .u8 0]∧Bk w' g11 107 #[.int .u8 0,.int .u8 0,.int .u8 0,.int .u8 0,.int .u8 0,.int .u8 0,.bool false,.int .i64 (wrap64 (now+2)),.int .i64 1,.string (bs pk)]∧w'.cell? ⟨cb,co,none⟩=some (.map (some b))∧w'.ownsMap Tryz.prog 53 mE b l'.length D'∧Fr (aJ b) w w') [6] (.p 0 (.p 1 (.p 2 (.p 4 (.q 3 (.q 5 (.e 6 (.nil)))))))) (⟨hg8e.drew,hg11e.drew,hcd,hown7.drew,hf27.drew⟩) ?_
  intro ops Q' hO hQ' wr1 hR1
  iterate 4 refine pP hO ?_
  iterate 2 (refine pQ hO rfl rfl (fun w' hS=>by obtain⟨hS1,hS2,hS3,hS4,hS5⟩:=hS;have hSc:=hS2.cells;exact qd) ?_)
  refine gC hO rfl rfl rfl (fun K hK=> ?_)
  obtain⟨w4,hrun,hown4,htn4⟩:=hR1.2.2.2.1.store fF Tryz.underlying77 (by unfold maxLen;omega) hkey (fV ⟨ip,nA,false,wrap64 (now+2),1,pk⟩)
  have hez:pB ⟨ip,nA,false,wrap64 (now+2),1,pk⟩= .agg #[.int .u8 0,.int .u8 0,.int .u8 0,.int .u8 0,.int .u8 0,.int .u8 0,.bool false,.int .i64 (wrap64 (now+2)),.int .i64 1,.string (bs pk)]:=rfl
  rw[hez]at hrun
  clear hez
  go_simp
  refine hK _ _ ?_
  clear hK K
  refine bV (hQ' _ _ ?_)
  obtain⟨k1,k2,k3,k4,k5⟩:=hR1
  have hf4:Fr (aJ b) wr1 w4:=(Fr.refl (aJ b) wr1).grown htn4.grown (fun g h _=>by injection h with h;exact h.symm)
  have h8d:=k1.keep hf4 (by unfold aJ;omega)
  have h8c:=h8d.cells
  have h8f:=h8d.frees
  have Hown4:=Lib.hid hown4
  clear hrun hown4 htn4
  go_wp2_with fail
  have hres:gP l ip= .tuple #[.agg #[.int .u8 0,.int .u8 0,.int .u8 0,.int .u8 0,.int .u8 0,.int .u8 0],.bool false,.bool true]:=by unfold gP;rw[Hf.out]
  have hL:mK l ip pk now=enter l ⟨ip,nA,false,wrap64 (now+2),1,pk⟩:=by unfold mK;rw[Hf.out]
  refine bodyPost_ret (v:= .tuple #[.agg #[.int .u8 0,.int .u8 0,.int .u8 0,.int .u8 0,.int .u8 0,.int .u8 0],.bool false,.bool true]) (by simp[results,Tryz.results90,go_sem,h8c]) rfl ⟨by rw[hres],?_,?_⟩
  ·rw[hL]
   have hm4:dR w4 b (enter l ⟨ip,nA,false,wrap64 (now+2),1,pk⟩):=
    (dR.of Hown4.out (hrep5.new (e:=⟨ip,nA,false,wrap64 (now+2),1,pk⟩) Hnin.out hip)).perm (Hperm.out _)
   exact hm4.keep (S:=aJ g8) (FrS (FrS (FrS (FrS (FrS (FrS (Fr.refl _ _) _ _) _ _) _ _) _ _) _ _) _ _) (by unfold aJ;omega)
  ·refine(k5.trans hf4).trans' (T:=aJ g8) (FrS (FrS (FrS (FrS (FrS (FrS (Fr.refl _ _) _ _) _ _) _ _) _ _) _ _) _ _) (fun k hk h=>by have:=Hg8.out;unfold aJ at h;omega)
end Go.Proofs.YtcllkmllflheiaaGreatDoor
namespace Go.Proofs.YtcllkmllflheiaaGreatDoor
open Go.RowKit Go.Proofs Go.Maps
attribute [local go_sem] aG aD aE aF
def eF (l:List aS) (ip:Nat):List UInt8:=match lB l ip with
 |none=>[]
 |some e=>e.waits
def fZ (l:List aS) (ip:Nat) (card:Mac) (add:Bool) (now:Int):List aS:=match lB l ip with
 |none=>if add then enter l ⟨ip,card,true,wrap64 (now+60),0,[]⟩else l
 |some _=>bM l ip fun _=>⟨ip,card,true,wrap64 (now+60),0,[]⟩
def Cs (b:Nat) (l:List aS) (ip:Nat) (card:Mac) (add:Bool) (now:Int) (w:World) (e:Ending) (w':World):Prop:=e= .returned (.string (bs (eF l ip)))∧dR w' b (fZ l ip card add now)∧Fr (aJ b) w w'
theorem AJ (cb co b ip:Nat) (l:List aS) (m0 m1 m2 m3 m4 m5:UInt8) (add:Bool) (now:Int) (w:World) (hc:w.cell? ⟨cb,co,none⟩=some (.map (some b))) (hcb:cb≠b) (hm:dR w b l) (hd:∀e∈l,0≤e.due∧e.due≤4611686018427388000) (hl4:l.length≤4) (hip:ip<4294967296):
 Calls Tryz.prog 109 #[.pointer (some ⟨cb,co,none⟩),.int .u32 (ip:Int),.agg #[.int .u8 (m0.toNat:Int),.int .u8 (m1.toNat:Int),.int .u8 (m2.toNat:Int),.int .u8 (m3.toNat:Int),.int .u8 (m4.toNat:Int),.int .u8 (m5.toNat:Int)],.bool add,.int .i64 now] w (Cs b l ip (m0,m1,m2,m3,m4,m5) add now w):=by
 obtain⟨D,hown,hrep⟩:=hm
 have hkey:=AL hip
 have hbl:=hown.lt
 have hcl:cb<w.heap.size:=bK hc
 have hownX:=(hown.alloc (.cells #[.int .u8 (m0.toNat:Int),.int .u8 (m1.toNat:Int),.int .u8 (m2.toNat:Int),.int .u8 (m3.toNat:Int),.int .u8 (m4.toNat:Int),.int .u8 (m5.toNat:Int)] 26))
 cases hf:lB l ip with
 |some e=>
  obtain⟨hhas,hat⟩:=yN hrep hf
  have Hat:=Lib.hid hat
  have Hhas:=Lib.hid hhas
  have Hf:=Lib.hid hf
  clear hf hat hhas
  have hg7:=(Bk.new w 26 #[.int .u8 (m0.toNat:Int),.int .u8 (m1.toNat:Int),.int .u8 (m2.toNat:Int),.int .u8 (m3.toNat:Int),.int .u8 (m4.toNat:Int),.int .u8 (m5.toNat:Int)]).alloc (.cells #[.int .u8 (e.card.1.toNat:Int),.int .u8 (e.card.2.1.toNat:Int),.int .u8 (e.card.2.2.1.toNat:Int),.int .u8 (e.card.2.2.2.1.toNat:Int),.int .u8 (e.card.2.2.2.2.1.toNat:Int),.int .u8 (e.card.2.2.2.2.2.toNat:Int),.bool e.known,.int .i64 e.due,.int .i64 e.asked,.string (bs e.waits)] 107)
  have hg11:=Bk.new (w.alloc (.cells #[.int .u8 (m0.toNat:Int),.int .u8 (m1.toNat:Int),.int .u8 (m2.toNat:Int),.int .u8 (m3.toNat:Int),.int .u8 (m4.toNat:Int),.int .u8 (m5.toNat:Int)] 26)) 107 #[.int .u8 (e.card.1.toNat:Int),.int .u8 (e.card.2.1.toNat:Int),.int .u8 (e.card.2.2.1.toNat:Int),.int .u8 (e.card.2.2.2.1.toNat:Int),.int .u8 (e.card.2.2.2.2.1.toNat:Int),.int .u8 (e.card.2.2.2.2.2.toNat:Int),.bool e.known,.int .i64 e.due,.int .i64 e.asked,.string (bs e.waits)]
  have hf1:Fr noB w ((w.alloc (.cells #[.int .u8 (m0.toNat:Int),.int .u8 (m1.toNat:Int),.int .u8 (m2.toNat:Int),.int .u8 (m3.toNat:Int),.int .u8 (m4.toNat:Int),.int .u8 (m5.toNat:Int)] 26)).alloc (.cells #[.int .u8 (e.card.1.toNat:Int),.int .u8 (e.card.2.1.toNat:Int),.int .u8 (e.card.2.2.1.toNat:Int),.int .u8 (e.card.2.2.2.1.toNat:Int),.int .u8 (e.card.2.2.2.2.1.toNat:Int),.int .u8 (e.card.2.2.2.2.2.toNat:Int),.bool e.known,.int .i64 e.due,.int .i64 e.asked,.string (bs e.waits)] 107)):=((Fr.refl _ _).alloc _).alloc _
  rw[show(w.alloc (.cells #[.int .u8 (m0.toNat:Int),.int .u8 (m1.toNat:Int),.int .u8 (m2.toNat:Int),.int .u8 (m3.toNat:Int),.int .u8 (m4.toNat:Int),.int .u8 (m5.toNat:Int)] 26)).heap.size=w.heap.size+1 by simp]at hg11
  have Hd:=Lib.hid hd
  clear hd
  go_enter Tryz.func109,Tryz.ntmps109
  go_upto_region 2 with(at_lookup;go_must (refine wpList_lookup_own_ok _ rfl (.tmp 17) (.tmp 18) 77 rfl 53 107 fF Tryz.underlying77 mE (z:=pB tP) (nQ _) (fE tP) [] (fV tP) b l.length D rfl hownX _ (ipL ip) rfl hkey ?_);intro v ps hv;rw[Hat.out]at hv;obtain rfl:=jN hv;clear hv;rw[Hhas.out];unfold pB)
  have hownY:=hown.alloc (.cells #[.int .u8 (m0.toNat:Int),.int .u8 (m1.toNat:Int),.int .u8 (m2.toNat:Int),.int .u8 (m3.toNat:Int),.int .u8 (m4.toNat:Int),.int .u8 (m5.toNat:Int)] 26)
  have hownZ:=hownY.alloc (.cells #[.int .u8 (e.card.1.toNat:Int),.int .u8 (e.card.2.1.toNat:Int),.int .u8 (e.card.2.2.1.toNat:Int),.int .u8 (e.card.2.2.2.1.toNat:Int),.int .u8 (e.card.2.2.2.2.1.toNat:Int),.int .u8 (e.card.2.2.2.2.2.toNat:Int),.bool e.known,.int .i64 e.due,.int .i64 e.asked,.string (bs e.waits)] 107)
  have hc2:((w.alloc (.cells #[.int .u8 (m0.toNat:Int),.int .u8 (m1.toNat:Int),.int .u8 (m2.toNat:Int),.int .u8 (m3.toNat:Int),.int .u8 (m4.toNat:Int),.int .u8 (m5.toNat:Int)] 26)).alloc (.cells #[.int .u8 (e.card.1.toNat:Int),.int .u8 (e.card.2.1.toNat:Int),.int .u8 (e.card.2.2.1.toNat:Int),.int .u8 (e.card.2.2.2.1.toNat:Int),.int .u8 (e.card.2.2.2.2.1.toNat:Int),.int .u8 (e.card.2.2.2.2.2.toNat:Int),.bool e.known,.int .i64 e.due,.int .i64 e.asked,.string (bs e.waits)] 107)).cell? ⟨cb,co,none⟩=some (.map (some b)):=(hf1.cell (a:=⟨cb,co,none⟩) hcl (fun x=>x)).trans hc
  generalize(w.alloc (.cells #[.int .u8 (m0.toNat:Int),.int .u8 (m1.toNat:Int),.int .u8 (m2.toNat:Int),.int .u8 (m3.toNat:Int),.int .u8 (m4.toNat:Int),.int .u8 (m5.toNat:Int)] 26)).alloc (.cells #[.int .u8 (e.card.1.toNat:Int),.int .u8 (e.card.2.1.toNat:Int),.int .u8 (e.card.2.2.1.toNat:Int),.int .u8 (e.card.2.2.2.1.toNat:Int),.int .u8 (e.card.2.2.2.2.1.toNat:Int),.int .u8 (e.card.2.2.2.2.2.toNat:Int),.bool e.known,.int .i64 e.due,.int .i64 e.asked,.string (bs e.waits)] 107)=w2 at*
  obtain⟨g7,hg7e⟩:∃g7,w.heap.size=g7:=⟨_,rfl⟩
  obtain⟨g11,hg11e⟩:∃g11,w.heap.size+1=g11:=⟨_,rfl⟩
  rw[hg11e]at hg11
  rw[hg11e]
  rw[hg7e]at hg7
  rw[hg7e]
  have hn3:g7<g11:=by omega
  have hn1:cb<g7:=by omega
  have hn2:b<g7:=by omega
  have Hg7:=Lib.hid hg7e
  have Hg11:=Lib.hid hg11e
  clear hg7e hg11e hownX hownY hown hc hcl hbl
  go_upto_region 6 with fail
  have q1:IntKind.i64.wrap (now+60)=wrap64 (now+60):=iQ _
  refine wpr (fun w'=>Bk w' g7 26 #[.int .u8 (m0.toNat:Int),.int .u8 (m1.toNat:Int),.int .u8 (m2.toNat:Int),.int .u8 (m3.toNat:Int),.int .u8 (m4.toNat:Int),.int .u8 (m5.toNat:Int)]∧Bk w' g11 107 #[.int .u8 (e.card.1.toNat:Int),.int .u8 (e.card.2.1.toNat:Int),.int .u8 (e.card.2.2.1.toNat:Int),.int .u8 (e.card.2.2.2.1.toNat:Int),.int .u8 (e.card.2.2.2.2.1.toNat:Int),.int .u8 (e.card.2.2.2.2.2.toNat:Int),.bool e.known,.int .i64 e.due,.int .i64 e.asked,.string (bs e.waits)]∧w'.cell? ⟨cb,co,none⟩=some (.map (some b))∧w'.ownsMap Tryz.prog 53 mE b l.length D∧Fr noB w w') [9] (.p 0 (.p 1 (.p 2 (.p 4 (.p 6 (.p 7 (.q 3 (.q 5 (.p 8 (.e 9 (.nil))))))))))) (⟨hg7.drew,hg11.drew,hc2,hownZ.drew,hf1.drew⟩) ?_
  intro ops Q' hO hQ' wr1 hR1
  iterate 6 refine pP hO ?_
  iterate 2 (refine pQ hO rfl rfl (fun w' hS=>by obtain⟨hS1,hS2,hS3,hS4,hS5⟩:=hS;have hSc:=hS1.cells;exact qd) ?_)
  refine pP hO ?_
  refine gC hO rfl rfl rfl (fun K hK=> ?_)
  obtain⟨w4,hrun,hown4,htn4⟩:=hR1.2.2.2.1.store fF Tryz.underlying77 (by unfold maxLen;omega) hkey (fV ⟨ip,(m0,m1,m2,m3,m4,m5),true,wrap64 (now+60),0,[]⟩)
  have hez:pB ⟨ip,(m0,m1,m2,m3,m4,m5),true,wrap64 (now+60),0,[]⟩= .agg #[.int .u8 (m0.toNat:Int),.int .u8 (m1.toNat:Int),.int .u8 (m2.toNat:Int),.int .u8 (m3.toNat:Int),.int .u8 (m4.toNat:Int),.int .u8 (m5.toNat:Int),.bool true,.int .i64 (wrap64 (now+60)),.int .i64 0,.string ⟨#[]⟩]:=rfl
  rw[hez]at hrun
  clear hez
  go_simp
  refine hK _ _ ?_
  clear hK K
  refine bV (hQ' _ _ ?_)
  clear q1
  obtain⟨k1,k2,k3,k4,k5⟩:=hR1
  have hf4:Fr (aJ b) wr1 w4:=(Fr.refl (aJ b) wr1).grown htn4.grown (fun g h _=>by injection h with h;exact h.symm)
  have h11d:=(k2.keep hf4 (by unfold aJ;omega)).cells
  have Hown4:=Lib.hid hown4
  clear hrun hown4 htn4
  go_wp2_with fail
  go_ret
  obtain⟨hmem,hei⟩:=gR Hf.out
  have hres:eF l ip=e.waits:=by unfold eF;rw[Hf.out]
  have hL:fZ l ip (m0,m1,m2,m3,m4,m5) add now=bM l ip fun _=>⟨ip,(m0,m1,m2,m3,m4,m5),true,wrap64 (now+60),0,[]⟩:=by unfold fZ;rw[Hf.out]
  refine⟨by rw[hres];rfl,?_,(k5.of_no _).trans hf4⟩
  rw[hL]
  exact .of Hown4.out (hrep.old (e:=⟨ip,(m0,m1,m2,m3,m4,m5),true,wrap64 (now+60),0,[]⟩) (by simp only;rw[←hei];exact List.mem_map_of_mem hmem))
 |none=>
  obtain⟨hhas,hat⟩:=BN hrep hf
  have Hat:=Lib.hid hat
  have Hhas:=Lib.hid hhas
  have Hf:=Lib.hid hf
  clear hf hat hhas
  have hg7:=(Bk.new w 26 #[.int .u8 (m0.toNat:Int),.int .u8 (m1.toNat:Int),.int .u8 (m2.toNat:Int),.int .u8 (m3.toNat:Int),.int .u8 (m4.toNat:Int),.int .u8 (m5.toNat:Int)]).alloc (.cells #[.int .u8 0,.int .u8 0,.int .u8 0,.int .u8 0,.int .u8 0,.int .u8 0,.bool false,.int .i64 0,.int .i64 0,.string ⟨#[]⟩] 107)
  have hg11:=Bk.new (w.alloc (.cells #[.int .u8 (m0.toNat:Int),.int .u8 (m1.toNat:Int),.int .u8 (m2.toNat:Int),.int .u8 (m3.toNat:Int),.int .u8 (m4.toNat:Int),.int .u8 (m5.toNat:Int)] 26)) 107 #[.int .u8 0,.int .u8 0,.int .u8 0,.int .u8 0,.int .u8 0,.int .u8 0,.bool false,.int .i64 0,.int .i64 0,.string ⟨#[]⟩]
  have hf1:Fr noB w ((w.alloc (.cells #[.int .u8 (m0.toNat:Int),.int .u8 (m1.toNat:Int),.int .u8 (m2.toNat:Int),.int .u8 (m3.toNat:Int),.int .u8 (m4.toNat:Int),.int .u8 (m5.toNat:Int)] 26)).alloc (.cells #[.int .u8 0,.int .u8 0,.int .u8 0,.int .u8 0,.int .u8 0,.int .u8 0,.bool false,.int .i64 0,.int .i64 0,.string ⟨#[]⟩] 107)):=((Fr.refl _ _).alloc _).alloc _
  rw[show(w.alloc (.cells #[.int .u8 (m0.toNat:Int),.int .u8 (m1.toNat:Int),.int .u8 (m2.toNat:Int),.int .u8 (m3.toNat:Int),.int .u8 (m4.toNat:Int),.int .u8 (m5.toNat:Int)] 26)).heap.size=w.heap.size+1 by simp]at hg11
  have Hd:=Lib.hid hd
  clear hd
  go_enter Tryz.func109,Tryz.ntmps109
  go_upto_region 2 with(at_lookup;go_must (refine wpList_lookup_own_ok _ rfl (.tmp 17) (.tmp 18) 77 rfl 53 107 fF Tryz.underlying77 mE (z:=pB tP) (nQ _) (fE tP) [] (fV tP) b l.length D rfl hownX _ (ipL ip) rfl hkey ?_);intro v ps hv;rw[Hat.out]at hv;obtain rfl:=jN hv;clear hv;rw[Hhas.out];rw[EF])
  have hownY:=hown.alloc (.cells #[.int .u8 (m0.toNat:Int),.int .u8 (m1.toNat:Int),.int .u8 (m2.toNat:Int),.int .u8 (m3.toNat:Int),.int .u8 (m4.toNat:Int),.int .u8 (m5.toNat:Int)] 26)
  have hownZ:=hownY.alloc (.cells #[.int .u8 0,.int .u8 0,.int .u8 0,.int .u8 0,.int .u8 0,.int .u8 0,.bool false,.int .i64 0,.int .i64 0,.string ⟨#[]⟩] 107)
  have hc2:((w.alloc (.cells #[.int .u8 (m0.toNat:Int),.int .u8 (m1.toNat:Int),.int .u8 (m2.toNat:Int),.int .u8 (m3.toNat:Int),.int .u8 (m4.toNat:Int),.int .u8 (m5.toNat:Int)] 26)).alloc (.cells #[.int .u8 0,.int .u8 0,.int .u8 0,.int .u8 0,.int .u8 0,.int .u8 0,.bool false,.int .i64 0,.int .i64 0,.string ⟨#[]⟩] 107)).cell? ⟨cb,co,none⟩=some (.map (some b)):=(hf1.cell (a:=⟨cb,co,none⟩) hcl (fun x=>x)).trans hc
  generalize(w.alloc (.cells #[.int .u8 (m0.toNat:Int),.int .u8 (m1.toNat:Int),.int .u8 (m2.toNat:Int),.int .u8 (m3.toNat:Int),.int .u8 (m4.toNat:Int),.int .u8 (m5.toNat:Int)] 26)).alloc (.cells #[.int .u8 0,.int .u8 0,.int .u8 0,.int .u8 0,.int .u8 0,.int .u8 0,.bool false,.int .i64 0,.int .i64 0,.string ⟨#[]⟩] 107)=w2 at*
  obtain⟨g7,hg7e⟩:∃g7,w.heap.size=g7:=⟨_,rfl⟩
  obtain⟨g11,hg11e⟩:∃g11,w.heap.size+1=g11:=⟨_,rfl⟩
  rw[hg11e]at hg11
  rw[hg11e]
  rw[hg7e]at hg7
  rw[hg7e]
  have hn3:g7<g11:=by omega
  have hn1:cb<g7:=by omega
  have hn2:b<g7:=by omega
  have Hg7:=Lib.hid hg7e
  have Hg11:=Lib.hid hg11e
  clear hg7e hg11e hownX hownY hown hc hcl hbl
  have hres:eF l ip=[]:=by unfold eF;rw[Hf.out]
  have Hres:=Lib.hid hres
  clear hres
  cases add
  ·go_wp2_with fail
   go_ret
   have hL:fZ l ip (m0,m1,m2,m3,m4,m5) false now=l:=by unfold fZ;rw[Hf.out];rfl
   exact⟨by rw[Hres.out];rfl,by rw[hL];exact⟨D,hownZ,hrep⟩,hf1.of_no _⟩
  have hroom:=vT cb co b l w2 hc2 hcb ⟨D,hownZ,hrep⟩ Hd.out (by omega)
  have Hroom:=Lib.hid hroom
  clear hroom
  go_wp2_with fail
  refine Hroom.out.mono ?_
  intro e w5 hp
  obtain⟨rfl,hf5,l',D',hown5,hrep5,hnin,hlen5,hperm⟩:=hp.use hrep.nd Hf.out
  clear hp
  go_upto_region 6 with fail
  have hg7c:=hg7.keep hf5 (by unfold aJ;omega)
  have hg11c:=hg11.keep hf5 (by unfold aJ;omega)
  have hcc:=(hf5.cell (a:=⟨cb,co,none⟩) (bK hc2) (by unfold aJ;simp only;omega)).trans hc2
  have hf25:Fr (aJ b) w w5:=(hf1.of_no _).trans hf5
  have Hperm:=Lib.hid hperm
  have Hnin:=Lib.hid hnin
  clear hg7 hg11 hc2 hownZ hf1 hf5 hperm hnin Hroom
  have q1:IntKind.i64.wrap (now+60)=wrap64 (now+60):=iQ _
  refine wpr (fun w'=>Bk w' g7 26 #[.int .u8 (m0.toNat:Int),.int .u8 (m1.toNat:Int),.int .u8 (m2.toNat:Int),.int .u8 (m3.toNat:Int),.int .u8 (m4.toNat:Int),.int .u8 (m5.toNat:Int)]∧Bk w' g11 107 #[.int .u8 0,.int .u8 0,.int .u8 0,.int .u8 0,.int .u8 0,.int .u8 0,.bool false,.int .i64 0,.int .i64 0,.string ⟨#[]⟩]∧w'.cell? ⟨cb,co,none⟩=some (.map (some b))∧w'.ownsMap Tryz.prog 53 mE b l'.length D'∧Fr (aJ b) w w') [9] (.p 0 (.p 1 (.p 2 (.p 4 (.p 6 (.p 7 (.q 3 (.q 5 (.p 8 (.e 9 (.nil))))))))))) (⟨hg7c.drew,hg11c.drew,hcc,hown5.drew,hf25.drew⟩) ?_
  intro ops Q' hO hQ' wr1 hR1
  iterate 6 refine pP hO ?_
  iterate 2 (refine pQ hO rfl rfl (fun w' hS=>by obtain⟨hS1,hS2,hS3,hS4,hS5⟩:=hS;have hSc:=hS1.cells;exact qd) ?_)
  refine pP hO ?_
  refine gC hO rfl rfl rfl (fun K hK=> ?_)
  obtain⟨w4,hrun,hown4,htn4⟩:=hR1.2.2.2.1.store fF Tryz.underlying77 (by unfold maxLen;omega) hkey (fV ⟨ip,(m0,m1,m2,m3,m4,m5),true,wrap64 (now+60),0,[]⟩)
  have hez:pB ⟨ip,(m0,m1,m2,m3,m4,m5),true,wrap64 (now+60),0,[]⟩= .agg #[.int .u8 (m0.toNat:Int),.int .u8 (m1.toNat:Int),.int .u8 (m2.toNat:Int),.int .u8 (m3.toNat:Int),.int .u8 (m4.toNat:Int),.int .u8 (m5.toNat:Int),.bool true,.int .i64 (wrap64 (now+60)),.int .i64 0,.string ⟨#[]⟩]:=rfl
  rw[hez]at hrun
  clear hez
  go_simp
  refine hK _ _ ?_
  clear hK K
  refine bV (hQ' _ _ ?_)
  clear q1
  obtain⟨k1,k2,k3,k4,k5⟩:=hR1
  have hf4:Fr (aJ b) wr1 w4:=(Fr.refl (aJ b) wr1).grown htn4.grown (fun g h _=>by injection h with h;exact h.symm)
  have h11d:=(k2.keep hf4 (by unfold aJ;omega)).cells
  have Hown4:=Lib.hid hown4
  clear hrun hown4 htn4
  go_wp2_with fail
  go_ret
  have hL:fZ l ip (m0,m1,m2,m3,m4,m5) true now=enter l ⟨ip,(m0,m1,m2,m3,m4,m5),true,wrap64 (now+60),0,[]⟩:=by unfold fZ;rw[Hf.out];rfl
  refine⟨by rw[Hres.out];rfl,?_,k5.trans hf4⟩
  rw[hL]
  exact(dR.of Hown4.out (hrep5.new (e:=⟨ip,(m0,m1,m2,m3,m4,m5),true,wrap64 (now+60),0,[]⟩) Hnin.out hip)).perm (Hperm.out _)
end Go.Proofs.YtcllkmllflheiaaGreatDoor
