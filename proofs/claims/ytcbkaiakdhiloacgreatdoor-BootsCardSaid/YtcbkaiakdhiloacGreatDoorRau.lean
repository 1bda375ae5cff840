/- Parts of the walk; written by programs, merged. -/
import Derived.Test.YtcbkaiakdhiloacGreatDoorRat
import Derived.Laws.RangeString
import Derived.Lib.OthersKept
set_option linter.unusedSimpArgs false
set_option linter.unusedVariables false
set_option maxRecDepth 20000
set_option maxHeartbeats 8000000
namespace Go.Proofs.YtcbkaiakdhiloacGreatDoor
open Go.RowKit Go.Proofs Go.Maps
attribute [local simp] ibq ibn eqN ltN leN eqL ltL gtL leL geL
attribute [local go_sem] aG aD aC aE
def ML (e:bD):Array Value:= #[.int .u8 (e.card.1.toNat:Int),.int .u8 (e.card.2.1.toNat:Int),.int .u8 (e.card.2.2.1.toNat:Int),.int .u8 (e.card.2.2.2.1.toNat:Int),.int .u8 (e.card.2.2.2.2.1.toNat:Int),.int .u8 (e.card.2.2.2.2.2.toNat:Int),.bool e.known,.int .i64 e.due,.int .i64 e.asked,.string (bs e.waits)]
theorem nE {f g:bD→Option bD}:∀{l:List bD},(∀x∈l,f x=g x)→l.filterMap f=l.filterMap g
 |[],_=>rfl
 |a::r,h=>by rw[List.filterMap_cons,List.filterMap_cons,h a (by simp),nE fun x hx=>h x (by simp[hx])]
theorem fW:∀{l:List bD} {e:bD},(l.map (·.ip)).Nodup→e∈l→oT l e.ip=some e
 |a::r,e,hn,h=>by
  rw[List.map_cons,List.nodup_cons]at hn
  unfold oT
  rw[List.find?_cons]
  rcases List.mem_cons.1 h with rfl|h
  ·simp
  ·have:¬a.ip=e.ip:=fun hx=>hn.1 (hx▸List.mem_map_of_mem h)
   rw[show(a.ip==e.ip)=false by simpa using this]
   exact fW hn.2 h
theorem oQ {l:List bD} {x e:bD} (hn:(l.map (·.ip)).Nodup) (hx:x∈l) (he:e∈l) (h:x.ip=e.ip):x=e:=by
 have h1:=fW hn hx
 have h2:=fW hn he
 rw[h,h2]at h1
 exact(Option.some.inj h1).symm
theorem BM {now:Int} {x y:bD} (h:St.keepE now x=some y):y.ip=x.ip:=by
 unfold St.keepE at h
 split at h
 ·cases h;rfl
 ·split at h
  ·cases h
  ·cases h;rfl
def mSt (l:List bD) (now:Int) (S:List Nat):List bD:=l.filterMap fun e=>if e.ip∈S then St.keepE now e else some e
theorem I4 (l:List bD) (now:Int):mSt l now []=l:=by
 unfold mSt
 simp
theorem Jh {l:List bD} {now:Int} {S:List Nat} (h:∀e∈l,e.ip∈S):mSt l now S=l.filterMap (St.keepE now):=by
 unfold mSt
 apply nE
 intro e he
 rw[if_pos (h e he)]
theorem I3 {l:List bD} {now:Int} {S:List Nat} {e:bD} (he:e∈l) (h:e.ip∉S):e∈mSt l now S:=by
 unfold mSt
 rw[List.mem_filterMap]
 exact⟨e,he,by rw[if_neg h]⟩
theorem Gb {l:List bD} {now:Int} {S:List Nat} {e:bD} (hn:(l.map (·.ip)).Nodup) (he:e∈l) (hk:St.keepE now e=some e):mSt l now (S++[e.ip])=mSt l now S:=by
 unfold mSt
 apply nE
 intro x hx
 by_cases hi:x.ip=e.ip
 ·obtain rfl:=oQ hn hx he hi
  rw[if_pos (by simp),hk]
  split<;>rfl
 ·by_cases hs:x.ip∈S
  ·rw[if_pos (by simp[hs]),if_pos hs]
  ·rw[if_neg (by simp[hs,hi]),if_neg hs]
theorem IA {l:List bD} {now:Int} {S:List Nat} {e:bD} (hn:(l.map (·.ip)).Nodup) (he:e∈l) (hS:e.ip∉S) (hk:St.keepE now e=none):mSt l now (S++[e.ip])=(mSt l now S).filter fun x=>x.ip !=e.ip:=by
 unfold mSt
 rw[List.filter_filterMap]
 apply nE
 intro x hx
 by_cases hi:x.ip=e.ip
 ·obtain rfl:=oQ hn hx he hi
  rw[if_pos (by simp),hk,if_neg hS,Option.filter_some,if_neg (by simp)]
 ·by_cases hs:x.ip∈S
  ·rw[if_pos (by simp[hs]),if_pos hs]
   cases hq:St.keepE now x with
   |none=>rfl
   |some y=>rw[Option.filter_some,if_pos];rw[BM hq];simpa using hi
  ·rw[if_neg (by simp[hs,hi]),if_neg hs,Option.filter_some,if_pos]
   simpa using hi
theorem Jf {l:List bD} {now:Int} {S:List Nat} {e e':bD} (hn:(l.map (·.ip)).Nodup) (he:e∈l) (hS:e.ip∉S) (hk:St.keepE now e=some e'):mSt l now (S++[e.ip])=bY (mSt l now S) e.ip fun _=>e':=by
 unfold mSt bY
 rw[List.map_filterMap]
 apply nE
 intro x hx
 by_cases hi:x.ip=e.ip
 ·obtain rfl:=oQ hn hx he hi
  rw[if_pos (by simp),hk,if_neg hS]
  simp
 ·by_cases hs:x.ip∈S
  ·rw[if_pos (by simp[hs]),if_pos hs]
   cases hq:St.keepE now x with
   |none=>rfl
   |some y=>rw[Option.map_some,if_neg];rw[BM hq];exact hi
  ·rw[if_neg (by simp[hs,hi]),if_neg hs,Option.map_some,if_neg hi]
def kL (l:List bD) (now:Int) (ip:Nat):Bool:=match oT l ip with
 |some e=>St.asksE now e
 |none=>false
def iU (l:List bD) (now:Int):List Nat:=lL ((l.filter (St.asksE now)).map (·.ip))
theorem Jg {l:List bD} {now:Int} (hn:(l.map (·.ip)).Nodup):(lL (l.map (·.ip))).filter (kL l now)=iU l now:=by
 refine nO _ _ ((kU _).filter _) (kU _) (((eO _).filter _).trans (List.Perm.trans ?_ (eO _).symm))
 rw[List.filter_map]
 have:l.filter (kL l now∘fun e=>e.ip)=l.filter (St.asksE now):=by
  apply List.filter_congr
  intro x hx
  show kL l now x.ip=_
  unfold kL
  rw[fW hn hx]
 rw[this]
theorem qG (ks:List Nat) (i:Nat) (ip:Nat) (h:ks[i]? =some ip):ks.take (i+1)=ks.take i++[ip]:=by
 rw[List.take_add_one,h];rfl
def HI (b:Nat) (l:List bD) (now:Int) (w:World) (e:Ending) (w':World):Prop:=
 ∃A cap,e= .returned (.slice A (iU l now).length cap)∧SlR w' (fun k=>k<w.heap.size) 1 A (iU l now).length ((iU l now).map nQ)∧fD w' b (l.filterMap (St.keepE now))∧Fr (aI b) w w'
theorem Bb (l:List bD) (now:Int) (ks:List Nat) (i ip:Nat) (h:ks[i]? =some ip):(ks.take (i+1)).filter (kL l now)=(ks.take i).filter (kL l now)++(if kL l now ip=true then [ip]else []):=by
 rw[qG ks i ip h,List.filter_append,List.filter_cons]
 split<;>rfl
instance (a:Addr) (v:Value):Kp0 fun w=>w.cell? a=some v:=⟨fun _ _ h f=>(f.cell (cJ h) id).trans h⟩
attribute [local simp] ML
theorem Em (cb co b:Nat) (l:List bD) (now:Int) (w:World) (hc:w.cell? ⟨cb,co,none⟩=some (.map (some b))) (hcb:cb≠b) (hm:fD w b l) (hl4:l.length≤4):
 Calls Tryz.prog 42 #[.pointer (some ⟨cb,co,none⟩),.int .i64 now] w (HI b l now w):=by
 have hnd:(l.map (·.ip)).Nodup:=by obtain⟨D,_,hr⟩:=hm;exact hr.nd
 have hlt:∀e∈l,e.ip<4294967296:=by obtain⟨D,_,hr⟩:=hm;exact hr.lt
 have hbl:=hm.lt
 have hcl:cb<w.heap.size:=cJ hc
 obtain⟨ks,hks⟩:∃ks,lL (l.map (·.ip))=ks:=⟨_,rfl⟩
 have hperm:ks.Perm (l.map (·.ip)):=by rw[←hks];exact eO _
 have hknd:ks.Nodup:=hperm.nodup_iff.2 hnd
 have hklen:ks.length=l.length:=hperm.length_eq.trans (List.length_map ..)
 refine en Tryz.func42 Tryz.ntmps42 ?_
 refine W ?_
 refine sX (callsIn_wide.1 (D3 Fence.wide 5 trivial rfl (some b) _)) ?_
 rintro e w1 ⟨rfl,rfl⟩
 refine⟨_,rfl,?_⟩
 refine W ?_
 refine sX (CF w.heap.size b l (w.alloc (.cells #[.map (some b)] 97)) (by simp) (by simp) (hm.keep ((Fr.refl noB w).alloc _) (fun x=>x)) hl4) ?_
 rintro e w2 ⟨A,cap,rfl,hA2,hf2⟩
 refine⟨_,rfl,?_⟩
 rw[hks]at hA2
 have hA2:=hA2.sub (T:=aI b) (fun k _ e=>by obtain rfl:k=b:=e;simp;omega)
 have hf2:=((Fr.refl noB w).alloc (.cells #[.map (some b)] 97)).none hf2
 have hc2:=(hf2.cell (a:=⟨cb,co,none⟩) hcl (fun x=>x)).trans hc
 have hm2:=hm.keep hf2 (fun x=>x)
 have hs12:=hf2.size
 refine W ?_
 refine cL (fun i=>l.length-i.1) (fun(i:Nat×Value)=>[(0,.pointer (some ⟨cb,co,none⟩)),(1,.int .i64 now),(14,.slice A l.length cap),(15,.int .i64 (l.length:Int)),(16,.int .i64 (i.1:Int)),(5,i.2)])
  (fun i w'=>i.1≤l.length∧w'.cell? ⟨cb,co,none⟩=some (.map (some b))∧fD w' b (mSt l now (ks.take i.1))∧w'.ownsRow w2.heap.size 38 1 i.2 ((ks.take i.1).filter (kL l now)).length (((ks.take i.1).filter (kL l now)).map nQ)∧Fr (aI b) w2 w')
  (0,.slice none 0 0) (mt (p:=True) trivial).1 ⟨Nat.zero_le _,hc2,by dsimp only;rw[List.take_zero,I4];exact hm2,⟨rfl,.inl ⟨rfl,rfl⟩⟩,Fr.refl _ _⟩ ?_
 rintro⟨i,v⟩ u w3 ⟨hi,hc3,hm3,hov,hf3⟩
 dsimp only at hi hm3 hov⊢
 refine W ?_
 by_cases hlti:i<l.length
 rotate_left
 ·refine W ?_
  have hall:ks.take i=ks:=List.take_of_length_le (by omega)
  rw[hall]at hm3 hov
  rw[show ks.filter (kL l now)=iU l now by rw[←hks];exact Jg hnd]at hov
  rw[Jh (fun e he=>hperm.mem_iff.2 (List.mem_map_of_mem he))]at hm3
  have hF2:Fr (aI b) w w3:=(hf2.of_no (aI b)).trans hf3
  rcases hov.2 with⟨hv,h0⟩|⟨g,cp,cur,hv,hbg,hgb,hr1,hr2,hr3,hr4⟩
  ·subst hv
   have hz:iU l now=[]:=List.eq_nil_of_length_eq_zero h0
   exact⟨none,0,by rw[hz];rfl,by rw[hz];exact SlR.nil,hm3,hF2⟩
  ·subst hv
   refine⟨_,cp,rfl,⟨by rw[List.length_map,Nat.mul_one],fun _=>⟨_,rfl,(Array.getElem?_eq_some_iff.1 hgb).1,fun hx=>by have:g<w.heap.size:=hx;omega,fun j u hu=> ?_⟩⟩,hm3,hF2⟩
   rw[gA,Nat.zero_add]
   have hj:j<(iU l now).length:=by
    rcases Nat.lt_or_ge j (iU l now).length with h|h
    ·exact h
    ·rw[List.getElem?_eq_none (by rw[List.length_map];exact h)]at hu;cases hu
   have h1:=congrArg (fun z=>z[j]?) hr4
   simp only[Nat.mul_one,List.getElem?_take,if_pos hj,hu,Array.getElem?_toList]at h1
   exact(Bk.cell (show Bk w3 g 38 cur from hgb) j).trans h1
 obtain⟨ip,hip⟩:∃ip,ks[i]? =some ip:=⟨_,List.getElem?_eq_getElem (by omega)⟩
 obtain⟨e,hel,hei⟩:=List.mem_map.1 (hperm.mem_iff.1 (List.mem_of_getElem? hip))
 have hipl:ip<4294967296:=hei▸hlt e hel
 have hnot:e.ip∉ks.take i:=by
  rw[hei]
  intro hx
  rw[(List.take_append_drop i ks).symm]at hknd
  exact(List.nodup_append.1 hknd).2.2 ip hx ip (List.mem_of_getElem? (i:=0) (by rw[List.getElem?_drop];exact hip)) rfl
 have hmn:((mSt l now (ks.take i)).map (·.ip)).Nodup:=by obtain⟨D,_,hr⟩:=hm3;exact hr.nd
 have hfd:oT (mSt l now (ks.take i)) ip=some e:=by rw[←hei];exact fW hmn (I3 hel hnot)
 have hml:(mSt l now (ks.take i)).length≤4:=Nat.le_trans (List.length_filterMap_le _ _) hl4
 have hT:=qG ks i ip hip
 have hFl:(ks.take (i+1)).filter (kL l now)=(ks.take i).filter (kL l now)++(if St.asksE now e=true then [ip]else []):=by
  rw[Bb l now ks i ip hip,show kL l now ip=St.asksE now e by unfold kL;rw[←hei,fW hnd hel]]
 obtain⟨ad,x,rfl,hx,hcu⟩:=(hA2.keep hf3).at_ hlti
 rw[List.getElem?_map,hip]at hx
 obtain rfl:nQ ip=x:=Option.some.inj hx
 clear hx
 have hkl:((ks.take i).filter (kL l now)).length≤1000:=by have h1:=List.length_filter_le (kL l now) (ks.take i);have h2:=List.length_take_le i ks;omega
 have hi1:IntKind.i64.wrap ((i:Int)+1)=((i+1:Nat):Int):=(IntWalk.i64_in _ (by omega)).trans (by omega)
 obtain⟨dm,hown,hrep⟩:=id hm3
 obtain⟨hhas,hat⟩:=Bc hrep hfd
 obtain⟨v',ps,hrun,hv⟩:=hown.lookup gM Tryz.underlying97 (rL w3) (iD xG) (Dj hipl)
 rw[hat]at hv
 obtain rfl:=kY hv
 clear hv hat hhas hown hrep
 unfold tE at hrun
 have hDel:St.keepE now e=none→mSt l now (ks.take (i+1))=(mSt l now (ks.take i)).filter fun x=>x.ip !=ip:=fun hk=>by rw[hT,←hei,IA hnd hel hnot hk]
 have hAsk:∀y,St.keepE now e=some y→mSt l now (ks.take (i+1))=bY (mSt l now (ks.take i)) ip fun _=>y:=fun y hk=>by rw[hT,←hei,Jf hnd hel hnot hk]
 have hKeep:St.keepE now e=some e→mSt l now (ks.take (i+1))=mSt l now (ks.take i):=fun hk=>by rw[hT,←hei,Gb hnd hel hk]
 generalize(ks.take i).filter (kL l now)=fl at*
 generalize mSt l now (ks.take i)=m at*
 refine W ?_
 refine sA ?_
 intro w4 hE f4
 refine W ?_
 refine sT ?_
 intro w5 hE f5
 have f5:=bP f4 (Nat.le_refl _) f5
 have hbw:b<w3.heap.size:=Nat.lt_of_lt_of_le (by omega) hf3.size
 have hcw:cb<w3.heap.size:=Nat.lt_of_lt_of_le (by omega) hf3.size
 have hc5:=(f5.cell (a:=⟨cb,co,none⟩) hcw (fun x=>x)).trans hc3
 have hm5:=hm3.keep f5 (fun x=>x)
 have hov5:=eW hov f5 (fun _ _ x=>x)
 have hF5:=hf3.trans (f5.of_no _)
 refine W ?_
 by_cases hd:now<e.due
 ·refine W ?_
  have hk:St.keepE now e=some e:=by unfold St.keepE;rw[if_pos hd]
  refine⟨(i+1,v),(mt (p:=True) trivial).1,⟨by show i+1≤l.length;omega,hc5,by dsimp only;rw[hKeep hk];exact hm5,?_,hF5⟩,by show l.length-(i+1)<l.length-i;omega⟩
  rw[show St.asksE now e=false by unfold St.asksE;rw[decide_eq_true hd];rfl]at hFl
  rw[if_neg Bool.false_ne_true,List.append_nil]at hFl
  dsimp only
  rw[hFl];exact hov5
 refine cF (h:= ?_)
 refine cS ?_
 obtain⟨q,hq⟩:∃q,q=(e.known||decide (e.asked=3)):=⟨_,rfl⟩
 refine cM [0,1,5,7,8,14,15,16] [(49,.bool q)] (fun w'=>w5=w') ?_ ?_
 ·cases hkn:e.known
  ·rw[hkn,Bool.false_or]at hq
   by_cases ha:e.asked=3
   all_goals
    refine W ?_
    subst hq
    exact mt rfl
  ·refine W ?_
   rw[hkn]at hq
   subst hq
   exact mt rfl
 rintro u _ rfl
 refine cC (fun h=> ?_) fun h=> ?_
 ·refine W ?_
  replace hq:=hq.symm.trans h
  have hk:St.keepE now e=none:=by unfold St.keepE;rw[if_neg hd,if_pos hq]
  rw[show St.asksE now e=false by unfold St.asksE;rw[hq];simp]at hFl
  rw[if_neg Bool.false_ne_true,List.append_nil]at hFl
  obtain⟨dm,hown,hrep⟩:=hm5
  rw[eI]
  refine wpList_delete_own _ rfl (.tmp 60) (.tmp 61) 97 38 rfl 160 gM Tryz.underlying97 nW b m.length dm (by go_simp) hown _ (ipL ip) (by go_simp) (Dj hipl) ?_
  intro w6 hown6 ht6
  rw[←eI]
  have hm6:=fD.of hown6 (hrep.del ip)
  have f6:Fr (aI b) w5 w6:=(Fr.refl (aI b) w5).grown ht6.grown (fun g h _=>by injection h with h;exact h.symm)
  refine W ?_
  refine⟨(i+1,v),(mt (p:=True) trivial).1,⟨by show i+1≤l.length;omega,(f6.cell (a:=⟨cb,co,none⟩) (cJ hc5) (fun x=>hcb x)).trans hc5,by dsimp only;rw[hDel hk];exact hm6,?_,hF5.trans f6⟩,by show l.length-(i+1)<l.length-i;omega⟩
  dsimp only
  rw[hFl];exact eW hov5 f6 (fun k hk e=>by have e':k=b:=e;omega)
 ·replace hq:=hq.symm.trans h
  have hk:St.keepE now e=some {e with asked:=wrap64 (e.asked+1),due:=wrap64 (e.due+2)}:=by unfold St.keepE;rw[if_neg hd,if_neg (by rw[hq];decide)]
  rw[show St.asksE now e=true by unfold St.asksE;rw[decide_eq_false hd,hq];rfl]at hFl
  rw[if_pos rfl]at hFl
  clear hq h
  refine W ?_
  rw[mM]
  refine sK (ML {e with asked:=wrap64 (e.asked+1)}) hE ?_
  intro w6 hE f6
  refine W ?_
  rw[mM]
  refine sK (ML {e with asked:=wrap64 (e.asked+1),due:=wrap64 (e.due+2)}) hE ?_
  intro w7 hE f7
  have f7:=bP f5 (Nat.le_refl _) (f6.trans f7)
  clear f5 f6 hc5 hm5 hov5 hF5
  have hc7:=(f7.cell (a:=⟨cb,co,none⟩) hcw (fun x=>x)).trans hc3
  obtain⟨dm,hown,hrep⟩:=hm3.keep f7 (fun x=>x)
  have hov7:=eW hov f7 (fun _ _ x=>x)
  refine W ?_
  refine dI (An hE hc7) [6] [0,1,2,3,4,5,6] (h:= ?_)
  rintro w8 ⟨hE,hc8⟩ f8
  refine D ?_
  refine dQ (v:= .map (some b)) ?_ ?_
  ·intro w' hS
   have h1:=hS.2
   go_simp
  refine D ?_
  obtain⟨w9,hrun,hown9,ht9⟩:=(kN hown f8 id).store gM Tryz.underlying97 (by unfold maxLen;omega) (Dj hipl) (iD {e with asked:=wrap64 (e.asked+1),due:=wrap64 (e.due+2)})
  simp only[tE]at hrun
  refine dS ?_
  have hm9:fD w9 b (bY m ip fun _=>{e with asked:=wrap64 (e.asked+1),due:=wrap64 (e.due+2)}):=by
   have hmem:e.ip∈m.map (·.ip):=by {rw[hei];have:=jD hfd;exact this.2▸List.mem_map_of_mem this.1}
   subst hei
   exact .of hown9 (hrep.old (e:={e with asked:=wrap64 (e.asked+1),due:=wrap64 (e.due+2)}) hmem)
  have f9:Fr (aI b) w8 w9:=(Fr.refl (aI b) w8).grown ht9.grown (fun g h _=>by injection h with h;exact h.symm)
  have f9:=(f8.of_no (aI b)).trans f9
  have hc9:=(f9.cell (a:=⟨cb,co,none⟩) (cJ hc7) (fun x=>hcb x)).trans hc7
  have hov9:=eW hov7 f9 (fun k hk e=>by have e':k=b:=e;omega)
  refine D ?_
  refine W ?_
  refine sA ?_
  intro w10 hU f10
  have hov10:=eW hov9 f10 (fun _ _ x=>x)
  have hS10:SlR w10 noB 1 (some ⟨w9.heap.size,0,none⟩) 1 [nQ ip]:=SlR.of_bk hU id rfl
  obtain⟨A,c2,rfl,_⟩:=eS hov10
  refine W ?_
  refine sP (hi:=BW) hov10 hS10 (by simp[Value.oneCell']) Tryz.underlying110 (by unfold maxLen;omega) (by omega) (by have h1:=f7.size;have h2:=hf3.size;have h3:=f9.size;have h4:=f10.size;omega) ?_
  intro A' cap' w11 ha
  refine W ?_
  have hge:∀k,(∃a,A=some a∧a.block=k)→w2.heap.size≤k:=fun k ⟨a,hA,e⟩=>e▸(hov10.lt _ (by rw[hA];rfl)).1
  have f11:=ha.fr
  have F1:=f9.trans' f10 fun _ _ x=>x.elim
  refine⟨(i+1,.slice A' (fl.length+1) cap'),(mt (p:=True) trivial).1,⟨by show i+1≤l.length;omega,(f11.cell (a:=⟨cb,co,none⟩) ?_ (fun x=>absurd (hge _ x) ?_)).trans ((f10.cell (a:=⟨cb,co,none⟩) ?_ id).trans hc9),?_,?_,((hf3.trans (f7.of_no _)).trans F1).trans' f11 fun b' hb' x=>absurd (hge _ x) (by omega)⟩,by show l.length-(i+1)<l.length-i;omega⟩
  ·have h1:=f7.size;have h3:=f9.size;have h4:=f10.size;exact(by omega:cb<w10.heap.size)
  ·exact Nat.not_le.2 (by omega:cb<w2.heap.size)
  ·exact cJ hc9
  ·dsimp only
   rw[hAsk _ hk]
   exact(hm9.keep f10 id).keep f11 fun x=>absurd (hge _ x) (by omega)
  ·dsimp only
   rw[hFl,List.length_append,List.map_append]
   exact ha.own
end Go.Proofs.YtcbkaiakdhiloacGreatDoor
namespace Go.Proofs.YtcbkaiakdhiloacGreatDoor
open Go.RowKit Go.Proofs
attribute [local simp] dM ibq ibn eqN ltN leN eqL ltL gtL leL geL
attribute [local go_sem] aG aD aC aE
theorem Now.at_ {L:Lay} {w:World} {s:St} (h:aA w L s):Now L w s w:=⟨L,rfl,fun _ hb=> .inl hb,h,Fr.refl _ _⟩
theorem Now.of {L:Lay} {w w':World} {s:St} (h:aA w' L s) (hf:Fr (bM L) w w'):Now L w s w':=⟨L,rfl,fun _ hb=> .inl hb,h,hf⟩
theorem IG {s:St} (h:s.Ok):({s with cache:=s.cache.filterMap (St.keepE s.now)}:St).Ok:=by
 have key:∀e∈s.cache.filterMap (St.keepE s.now),e.waits.length≤1500∧0≤e.due∧e.due≤4611686018427388000:=by
  intro e he
  obtain⟨x,hx,hk⟩:=List.mem_filterMap.1 he
  have h1:=h.waits x hx
  have h2:=h.dues x hx
  have n0:=h.now0
  have n1:=h.now1
  unfold St.keepE at hk
  split at hk
  ·cases hk;exact⟨h1,h2⟩
  ·split at hk
   ·cases hk
   ·cases hk
    have hw:wrap64 (x.due+2)=x.due+2:=IntWalk.wrap64_in _ ⟨by omega,by omega⟩
    exact⟨h1,by simp only[hw];omega,by simp only[hw];omega⟩
 exact {h with waits:=fun e he=>(key e he).1,dues:=fun e he=>(key e he).2,cache:=Nat.le_trans (List.length_filterMap_le _ _) h.cache}
theorem IM {s:St} {L:Lay} {w:World} (h:aA w L s):∀ip∈iU s.cache s.now,ip<4294967296:=by
 intro ip hip
 obtain⟨D,_,hr⟩:=h.mp
 have h1:=(eO _).mem_iff.1 hip
 obtain⟨e,he,rfl⟩:=List.mem_map.1 h1
 exact hr.lt e (List.mem_filter.1 he).1
theorem EV (L:Lay) (s:St) (dr:Nat) (w:World) (h:aA w L s) (hn:s.now<4611686018427387904) (hdr:dr<4294967296):
 Calls Tryz.prog 18 #[.pointer (some ⟨L.p,0,none⟩),.int .u32 (dr:Int)] w (bC L (s.tick dr) (.tuple #[]) w):=by
 have hn0:=h.ok.now0
 have hw1:wrap64 (s.now+1)=s.now+1:=IntWalk.wrap64_in _ ⟨by omega,by omega⟩
 have Hn:=Lib.hid (And.intro hn0 hw1)
 clear hw1 hn0
 refine en Tryz.func18 Tryz.ntmps18 ?_
 refine W ?_
 rw[mM]
 refine sB {s with now:=wrap64 (s.now+1)} {h.ok with now0:=by have h:=Hn.out;show 0≤wrap64 (s.now+1);rw[h.2];omega,now1:=by have h:=Hn.out;show wrap64 (s.now+1)≤4611686018427387904;rw[h.2];omega} h ?_
 intro w1 h1 f1
 refine W ?_
 refine sB {s with now:=wrap64 (s.now+1),draw:=dr} {h1.ok with draw:=hdr} h1 ?_
 intro w2 h2 f2
 have f:=f1.trans f2
 obtain⟨r,hr⟩:∃r,r=s.tick dr:=⟨_,rfl⟩
 rw[←hr]
 obtain⟨v,hv⟩:∃v:St,v={s with now:=wrap64 (s.now+1),draw:=dr}:=⟨_,rfl⟩
 rw[←hv]at h2
 replace hr:r=if v.over then v else v.neighbours.leases.again:=by rw[hr,hv];rfl
 clear hv h1 h f1 f2 Hn hn hdr
 refine W ?_
 refine sC (B6 L v w2 h2) ?_
 rintro _ rfl
 cases ho:v.over
 rotate_left
 ·rw[if_pos ho]at hr
  refine W ?_
  exact bH.two ⟨rfl,by rw[hr];exact h2,f⟩
 rw[if_neg (by rw[ho];decide)]at hr
 clear ho
 refine W ?_
 refine dI h2 [7] [0,1,2,3,4,5,9,6,7,8] (h:= ?_)
 intro w3 h3 f3
 refine D ?_
 have hne:=h3.ne
 simp only[Lay.blocks,List.nodup_cons,List.mem_cons,List.not_mem_nil,or_false,not_or]at hne
 refine dT (Em L.p 15 L.mp v.cache v.now w3 h3.g15 (fun x=>hne.1.2.2.2.2 x) h3.mp h3.ok.cache) ?_
 rintro e w4 ⟨A,cap,rfl,hsl,hm4,f4⟩
 refine⟨_,rfl,?_⟩
 have h4:=h3.mpTurn f4 hm4 (IG h3.ok)
 replace hsl:=hsl.sub (T:=bM L) (fun b _ hb=>h3.lt b hb)
 have hips:=IM h3
 replace f:=(f.trans (f3.of_no _)).trans (f4.mono fun b _ hb=>by obtain rfl:b=L.mp:=hb;exact qX L)
 have hal:(iU v.cache v.now).length≤4:=by unfold iU;rw[(eO _).length_eq,List.length_map];exact Nat.le_trans (List.length_filter_le _ _) h3.ok.cache
 replace hr:r=((iU v.cache v.now).foldl (fun(t:St) ip=>t.ask t.address ip) {v with cache:=v.cache.filterMap (St.keepE v.now)}).leases.again:=hr
 generalize iU v.cache v.now=asks at*
 obtain⟨s3,hs3⟩:∃s3:St,s3={v with cache:=v.cache.filterMap (St.keepE v.now)}:=⟨_,rfl⟩
 rw[←hs3]at h4 hr
 clear hs3 h3 h2 f3 f4 hm4 hne
 refine D ?_
 refine cM [0] [] (fun w'=>aA w' L (asks.foldl (fun(t:St) ip=>t.ask t.address ip) s3)∧Fr (bM L) w w') ?_ ?_
 ·refine W ?_
  refine cL (fun i=>asks.length-i) (fun i=>[(28,.int .i64 ((i:Nat):Int)),(0,.pointer (some ⟨L.p,0,none⟩)),(26,.slice A asks.length cap),(27,.int .i64 (asks.length:Int))]) (fun i w'=>i≤asks.length∧aA w' L ((asks.take i).foldl (fun(t:St) ip=>t.ask t.address ip) s3)∧Fr (bM L) w4 w') 0 (mt (p:=True) trivial).1 ⟨Nat.zero_le _,h4,Fr.refl _ _⟩ ?_
  rintro i u w5 ⟨hi,h5,f5⟩
  by_cases hlt:i<asks.length
  ·obtain⟨ip,hip⟩:∃ip,asks[i]? =some ip:=⟨_,List.getElem?_eq_getElem hlt⟩
   have hipl:=hips ip (List.mem_of_getElem? hip)
   obtain⟨ad,x,hAe,hx,hcx⟩:=(hsl.keep f5).at_ hlt
   have hx2:x=nQ ip:=by rw[List.getElem?_map,hip]at hx;exact(Option.some.inj hx).symm
   subst hx2
   unfold nQ at hcx
   have hi1:wrap64 ((i:Int)+1)=((i+1:Nat):Int):=by rw[IntWalk.wrap64_in _ ⟨by omega,by omega⟩];omega
   have Hi:=Lib.hid hi1
   rw[hAe]
   clear hi1 hx hips hsl hal hi
   refine W ?_
   refine sC (bI L _ w5 h5) ?_
   rintro _ rfl
   have hadl:=h5.ok.addr
   refine W ?_
   refine sC (wK L _ (St.address _) ip w5 h5 (by unfold St.address;split;exact hadl;omega) hipl) ?_
   rintro w6 ⟨h6,f6⟩
   refine W ?_
   rw[mM,Hi.out]
   exact⟨i+1,(mt (p:=True) trivial).1,⟨by omega,by rw[qG asks i ip hip,List.foldl_append];exact h6,f5.trans f6⟩,by omega⟩
  ·have hge:i=asks.length:=by omega
   rw[hge,List.take_length]at h5
   clear hips hsl hal hi
   refine W ?_
   exact mt ⟨h5,f.trans f5⟩
 rintro u w5 ⟨h5,f5⟩
 clear hips hsl hal
 obtain⟨t,ht⟩:∃t,t=asks.foldl (fun(t:St) ip=>t.ask t.address ip) s3:=⟨_,rfl⟩
 rw[←ht]at h5 hr
 clear ht f h4
 refine W ?_
 refine sC (tG L t w5 h5) ?_
 rintro w6 ⟨L1,p1,ow1,h6,F1⟩
 obtain⟨z,hz⟩:∃z,z=t.leases:=⟨_,rfl⟩
 rw[←hz]at h6 hr
 clear hz
 obtain⟨y,fin,f0⟩:∃y,(∀w' s',Now L1 y s' w'→Now L w s' w')∧Fr noB y w6:=⟨w6,fun _ _ hN=>Now.comp (L1:=L) rfl (fun _ hb=> .inl hb) f5 (Now.comp p1 ow1 F1 hN),Fr.refl _ _⟩
 have Fin:=Lib.hid fin
 rw[←p1]
 clear fin p1 ow1 F1 f5 h5
 refine W ?_
 obtain⟨b,hb⟩:∃b,b=decide (z.busy=false∨z.now<z.tagain):=⟨_,rfl⟩
 unfold St.again at hr
 refine cM [0] [(65,.bool b)] (fun w'=>aA w' L1 z∧Fr noB y w') ?_ ?_
 ·replace hb:b=decide ((¬z.phase=1∧¬z.phase=2)∨z.now<z.tagain):=by
   rw[hb];unfold St.busy;congr 1;apply propext;simp
  clear hr
  refine dI (An h6 f0) [] (up 26 0) (h:= ?_)
  intro w7 h7 _
  by_cases a1:z.phase=1
  rotate_left
  by_cases a2:z.phase=2
  all_goals
   refine D ?_
   refine tN ?_
   exact mt h7
 rintro u w7 ⟨h7,f7⟩
 cases b
 rotate_left
 ·rw[if_pos (of_decide_eq_true hb.symm)]at hr
  clear hb
  refine W ?_
  rw[hr]
  exact(Fin.out _ _ (Now.of h7 (f7.of_no _))).lpost
 rw[if_neg (of_decide_eq_false hb.symm)]at hr
 clear hb
 by_cases a4:z.tsends=4
 ·rw[if_pos a4]at hr
  refine W ?_
  refine sC (bX L1 z w7 h7) ?_
  intro w8 h8
  refine W ?_
  rw[hr]
  exact(Fin.out _ _ (Now.comp rfl (fun _=> .inl) (f7.of_no _) h8)).lpost
 rw[if_neg a4]at hr
 have hts:=h7.ok.tsends
 have Hi:=Lib.hid (show wrap64 ((z.tsends:Int)+1)=((z.tsends+1:Nat):Int) by rw[IntWalk.wrap64_in _ ⟨by omega,by omega⟩];omega)
 have Hts:=Lib.hid (And.intro hts a4)
 clear hts
 refine W ?_
 refine dI (An h7 f7) [16] [0,1,2,3,5,6,7,8,9,4,10,11,12,13,14,15,16] (h:= ?_)
 intro w8 h8 _
 refine D ?_
 refine dC (lB L1 z z.tsends Hts.out.1 w8 h8.1) ?_ ?_
 ·intro w' fw
  exact⟨h8.1.none fw,h8.2.none fw⟩
 intro w9 _ h9
 refine D ?_
 rw[mM]
 refine dB {z with tagain:=wrap64 (z.now+z.wait z.tsends)} {h9.1.ok with} h9.1 ?_
 intro w10 h10 f10
 have f10:=(h9.2.of_no (bM L1)).trans f10
 clear h9 h8 h7 f7
 refine D ?_
 refine W ?_
 rw[mM,Hi.out]
 refine sB {z with tagain:=wrap64 (z.now+z.wait z.tsends),tsends:=z.tsends+1} {h10.ok with tsends:=by have:=Hts.out;show z.tsends+1≤4;omega} h10 ?_
 intro w11 h11 f11
 have hla:=h11.ok.last
 have f11:=f10.trans f11
 clear h10 f10
 refine W ?_
 refine sC (rQ L1 _ z.last w11 h11 (Nat.le_trans hla (by decide))) ?_
 rintro w12 ⟨h12,f12⟩
 refine W ?_
 rw[hr]
 exact(Fin.out _ _ (Now.of h12 (f11.trans f12))).lpost
end Go.Proofs.YtcbkaiakdhiloacGreatDoor
namespace Go.Proofs.YtcbkaiakdhiloacGreatDoor
open Go.RowKit Go.Proofs
attribute [local simp] dM ibq ibn eqN ltN leN eqL ltL gtL leL geL
attribute [local go_sem] aG aD aC aE
def St.Short (s:St):Prop:=∀f∈s.rx,f.length≤4611686018427387904
theorem wR (s:St) (f:List UInt8):(s.frameP f).rx=s.rx:=by
 have hd:∀t:St,t.fail.rx=t.rx:=fun t=>by unfold St.fail;dsimp only;split<;>rfl
 have hdr:∀t:St,t.drop.rx=t.rx:=fun t=>rfl
 have hag:∀(p:Nat) (l:List eH) (t:St),(St.agree p l t).rx=t.rx:=by
  intro p l
  induction l with
  |nil=>intro t;exact(iK _).rx
  |cons f l ih=>
   intro t
   unfold St.agree
   split
   ·rw[hd];exact(gS ..).rx
   ·split
    ·rw[ih]
    ·split
     ·rw[ih]
     ·split
      ·split
       ·rw[ih]
       ·rw[hd];exact(gS ..).rx
      ·rw[hd];exact(gS ..).rx
 have hda:∀(t:St) (m:tK),(t.data m).rx=t.rx:=by
  intro t m
  unfold St.data
  split
  ·rfl
  split
  ·exact(iK _).rx
  split
  ·rw[hd];exact(gS ..).rx
  dsimp only
  split
  ·split
   ·exact(iK _).rx
   ·exact(uO _ _).rx
  ·split
   ·exact(iK _).rx
   ·rw[hd];exact(iK _).rx
 unfold St.frameP
 split
 ·rfl
 split
 ·unfold St.arpP;split
  ·unfold St.arped
   split
   ·unfold St.decline;rw[hd];exact(Bz ..).rx
   ·dsimp only
    have ht:∀b:Bool,(if(bE (aJ f).1.by').1.fi≠0∧(bE (aJ f).1.by').1.fi≠s.address then s.learn (bE (aJ f).1.by').1 b else s).rx=s.rx:=fun b=>by
     split
     ·exact(uR ..).rx
     ·rfl
    split
    ·rw[(wM ..).rx];exact ht _
    ·exact ht _
  ·rfl
 split
 ·unfold St.dgramP
  split
  ·rfl
  split
  ·rfl
  split
  ·unfold St.leasedP;split
   ·unfold St.leased
    split
    ·split
     ·split
      ·exact(yT _ _).rx
      ·rfl
     ·split
      ·split
       ·exact(oZ ..).rx
       ·rfl
      ·split
       ·split
        ·rfl
        ·rfl
       ·rfl
    ·rfl
   ·rfl
  split
  ·unfold St.loadsP;split
   ·unfold St.loads
    split
    ·split
     ·rfl
     ·exact(gS ..).rx
    split
    ·exact hd _
    split
    ·split
     ·exact hda _ _
     ·rfl
    ·split
     ·split
      ·exact hda _ _
      ·rfl
     ·split
      ·exact hag _ _ _
      ·rfl
   ·rfl
  ·rfl
 ·rfl
theorem D6 (L:Lay) (s:St) (n:Int) (hn:n≤9223372036854775807) (w:World) (h:aA w L s) (hr:s.Rest) (hsh:s.Short):
 Calls Tryz.prog 17 #[.pointer (some ⟨L.p,0,none⟩),.int .i64 n] w (bC L (lM n.toNat s 0).1 (.int .i64 ((lM n.toNat s 0).2:Int)) w):=by
 refine en Tryz.func17 Tryz.ntmps17 ?_
 obtain⟨q,hq⟩:∃q,q=lM n.toNat s 0:=⟨_,rfl⟩
 rw[←hq]
 refine W ?_
 refine cL (fun i=>n.toNat-i.1) (fun(i:Nat×St)=>[(5,.int .i64 (i.1:Int)),(0,.pointer (some ⟨L.p,0,none⟩)),(1,.int .i64 n)]) (fun i w'=>i.1≤n.toNat∧Now L w i.2 w'∧i.2.Rest∧i.2.Short∧lM (n.toNat-i.1) i.2 i.1=q) (0,s) (mt (p:=True) trivial).1 ⟨Nat.zero_le _,Now.at_ h,hr,hsh,hq.symm⟩ ?_
 rintro⟨k,t⟩ u w1 ⟨hk,hN,ht,hts,hpf⟩
 dsimp only at hk hN ht hts hpf⊢
 have hN1:=hN
 obtain⟨L1,p1,ow1,h1,F1⟩:=hN1
 by_cases hlt:(k:Int)<n
 rotate_left
 ·have hm0:n.toNat-k=0:=by omega
  rw[hm0]at hpf
  have hq2:q=(t,k):=hpf.symm
  clear p1 h1
  refine W ?_
  rw[hq2]
  exact hN.lpost
 have hi1:wrap64 ((k:Int)+1)=((k+1:Nat):Int):=by rw[IntWalk.wrap64_in _ ⟨by omega,by omega⟩];omega
 have Hi:=Lib.hid hi1
 obtain⟨m,hm⟩:∃m,n.toNat-k=m+1:=⟨n.toNat-k-1,by omega⟩
 have hm2:n.toNat-(k+1)=m:=by omega
 rw[hm]at hpf
 unfold lM at hpf
 have hRx:=h1.rx
 rw[←p1]
 have Fin:=Lib.hid (show∀w' s',Now L1 w1 s' w'→Now L w s' w' from fun _ _ hN=>Now.comp p1 ow1 F1 hN)
 have Hm:=Lib.hid (And.intro hm (And.intro hm2 hk))
 clear p1 hi1 hk hN hm hm2 F1 ow1
 cases hrx:t.rx with
 |nil=>
  rw[hrx]at hpf hRx
  have hq2:q=(t,k):=hpf.symm
  clear hpf
  refine W ?_
  refine sC (vU L1.rx L1.rxs t.c.rx [] w1 h1.ok.rx0 (by have:=h1.ok.rx1;omega) hRx) ?_
  rintro w2 ⟨hr2,f2⟩
  have h2:=h1.rxTurn (s:=t) (q:=[]) f2 hr2
  have het:({t with rx:=[]}:St)=t:=by obtain⟨c,rx⟩:=t;simp only at hrx;subst hrx;rfl
  rw[het]at h2
  have f3:Fr (bM L1) w1 w2:=f2.mono fun b _ hb=>by rcases hb with rfl|rfl;exact Cw L1;exact wL L1
  clear hrx hRx hr2 f2 het
  refine W ?_
  rw[hq2]
  exact(Fin.out _ _ (Now.of h2 f3)).lpost
 |cons f r=>
  rw[hrx]at hpf hRx
  dsimp only at hpf
  have hfl:f.length≤4611686018427387904:=hts f (by rw[hrx];simp)
  have hsr:({t with rx:=r}:St).Short:=fun x hx=>hts x (by rw[hrx];exact List.mem_cons_of_mem _ hx)
  have hrr:({t with rx:=r}:St).Rest:=ht
  refine W ?_
  refine sC (vU L1.rx L1.rxs t.c.rx (f::r) w1 h1.ok.rx0 (by have:=h1.ok.rx1;omega) hRx) ?_
  rintro w2 ⟨hr2,f2⟩
  have h2:=h1.rxTurn (s:=t) (q:=r) f2 hr2
  have f3:Fr (bM L1) w1 w2:=f2.mono fun b _ hb=>by rcases hb with rfl|rfl;exact Cw L1;exact wL L1
  have hov2:t.over=({t with rx:=r}:St).over:=rfl
  rw[hov2]at hpf
  clear hrx hRx hr2 f2 hov2 h1 ht hts
  generalize({t with rx:=r}:St)=z at*
  refine W ?_
  refine sC (B6 L1 z w2 h2) ?_
  rintro _ rfl
  cases hov:z.over
  ·rw[hov,if_neg (by decide)]at hpf
   refine W ?_
   refine sC (CT L1 _ f w2 h2 hfl (fun hp=>(hrr hp).2)) ?_
   intro w3 h3
   refine W ?_
   rw[mM,Hi.out]
   exact⟨(k+1,z.frameP f),(mt (p:=True) trivial).1,⟨by have:=Hm.out;dsimp only;omega,Fin.out _ _ (Now.comp rfl (fun _ h=> .inl h) f3 h3),At _ _ hrr,(fun x hx=>hsr x (by rw[wR]at hx;exact hx)),by rw[Hm.out.2.1];exact hpf⟩,by have:=Hm.out;dsimp only;omega⟩
  ·rw[hov,if_pos rfl]at hpf
   refine W ?_
   rw[mM,Hi.out]
   exact⟨(k+1,z),(mt (p:=True) trivial).1,⟨by have:=Hm.out;dsimp only;omega,Fin.out _ _ (Now.of h2 f3),hrr,hsr,by rw[Hm.out.2.1];exact hpf⟩,by have:=Hm.out;dsimp only;omega⟩
end Go.Proofs.YtcbkaiakdhiloacGreatDoor
namespace Go.Proofs.YtcbkaiakdhiloacGreatDoor
open Go.RowKit Go.Proofs
attribute [local go_sem] aG aD aC aE
structure lU where
 card:Mac
 name:List UInt8
 cap:Int
 digest:List UInt8
 block:Int
 window:Int
 rx:Int
 tx:Int
def JV (c:lU):Array Value:= #[.int .u8 (c.card.1.toNat:Int),.int .u8 (c.card.2.1.toNat:Int),.int .u8 (c.card.2.2.1.toNat:Int),.int .u8 (c.card.2.2.2.1.toNat:Int),.int .u8 (c.card.2.2.2.2.1.toNat:Int),.int .u8 (c.card.2.2.2.2.2.toNat:Int),.string (bs c.name),.int .i64 c.cap,.string (bs c.digest),.int .i64 c.block,.int .i64 c.window,.int .i64 c.rx,.int .i64 c.tx]
def lU.Ok1 (c:lU):Prop:=1≤c.name.length∧c.name.length≤20∧c.digest.length=32
def lU.Ok2 (c:lU):Prop:=(1≤c.cap∧c.cap≤600000)∧(8≤c.block∧c.block≤1024)∧(1≤c.window∧c.window≤8)∧(1≤c.rx∧c.rx≤16)∧(1≤c.tx∧c.tx≤16)
instance (c:lU):Decidable c.Ok1:=by unfold lU.Ok1;infer_instance
instance (c:lU):Decidable c.Ok2:=by unfold lU.Ok2;infer_instance
def lU.Ok (c:lU):Prop:=c.Ok1∧c.name.all eR=true∧c.Ok2∧c.card≠iS∧c.card.1.toNat%2≠1
instance (c:lU):Decidable c.Ok:=by unfold lU.Ok;infer_instance
def lU.cfg (c:lU):JG:=⟨c.card,c.name,c.cap.toNat,c.digest,c.block.toNat,c.window.toNat,c.rx.toNat,c.tx.toNat⟩
def AG (c:lU):St:=⟨c.cfg,[],[],0,0,0,0,0,[],0,0,0,0,0,0,0,0,0,0,0,0,0,0,0,0,0,0,0,0,0,0,[],[]⟩
theorem GV:(Tryz.prog.info? 151).map (fun i=>(i.zero,i.size,i.bytes))=some (some (.agg #[.bool false,.string ⟨#[]⟩]),2,24):=by kernel_rfl
theorem F9 (n k:Nat) (h:k<n):(madeCells #[.bool false,.string ⟨#[]⟩] (n*2))[k*2]? =some (.bool false)∧(madeCells #[.bool false,.string ⟨#[]⟩] (n*2))[k*2+1]? =some (.string ⟨#[]⟩):=by
 unfold madeCells
 constructor
 ·rw[Array.getElem?_map,Array.getElem?_range,if_pos (by omega)]
  have:k*2%2=0:=by omega
  simp[this]
 ·rw[Array.getElem?_map,Array.getElem?_range,if_pos (by omega)]
  have:(k*2+1)%2=1:=by omega
  simp[this]
theorem ES (n:Nat) (w:World) (h1:1≤n) (h2:n≤16):
 Calls Tryz.prog 34 #[.int .i64 (n:Int)] w fun e w'=>∃r g,e= .returned (.pointer (some ⟨r,0,none⟩))∧gL w' r g n []∧Fr noB w w'∧w.heap.size≤r∧w.heap.size≤g∧r≠g:=by
 obtain⟨i,hi,hz,hs,hb⟩:=info_parts GV
 have hrun:=run_make (P:=Tryz.prog) (w:=w) 145 151 i _ Tryz.underlying145 hi hz .i64 .i64 (n:Int) (n:Int) (by omega) (by omega) (by rw[hb];omega) (by omega)
 rw[Int.toNat_natCast,hs]at hrun
 have hcs:(Value.agg #[.bool false,.string ⟨#[]⟩]).cells= #[.bool false,.string ⟨#[]⟩]:=rfl
 rw[hcs]at hrun
 have hat:=F9 n
 have hsz:=size_madeCells #[.bool false,.string ⟨#[]⟩] (n*2)
 generalize madeCells #[.bool false,.string ⟨#[]⟩] (n*2)=cs at*
 have hB:=(Bk.new w 151 cs).alloc (.cells #[.slice (some ⟨w.heap.size,0,none⟩) n n,.int .i64 0,.int .i64 0] 147)
 have hR:=Bk.new (w.alloc (.cells cs 151)) 147 #[.slice (some ⟨w.heap.size,0,none⟩) n n,.int .i64 0,.int .i64 0]
 have hF:Fr noB w ((w.alloc (.cells cs 151)).alloc (.cells #[.slice (some ⟨w.heap.size,0,none⟩) n n,.int .i64 0,.int .i64 0] 147)):=((Fr.refl _ _).alloc _).alloc _
 have hsz1:(w.alloc (.cells cs 151)).heap.size=w.heap.size+1:=by simp
 clear hcs hi hz hs hb
 have Hat:=Lib.hid hat
 clear hat
 go_enter Tryz.func34,Tryz.ntmps34
 go_wp2_with fail
 go_ret
 rw[hsz1]at hR
 refine⟨w.heap.size+1,w.heap.size,rfl,⟨0,cs,?_,hB,hsz,h1,Nat.zero_le _,by omega,?_⟩,hF,by omega,by omega,by omega⟩
 ·rw[show(0+([]:List (List UInt8)).length)%n=0 by simp];exact hR
 ·refine⟨fun k f hf=>by simp at hf,fun k _ hk=> ?_⟩
  rw[Nat.zero_add,Nat.mod_eq_of_lt hk]
  exact⟨(Hat.out k hk).1,_,(Hat.out k hk).2⟩
theorem gL.lt {w:World} {r g n:Nat} {q:List (List UInt8)} (h:gL w r g n q):r<w.heap.size∧g<w.heap.size:=by obtain⟨i,cs,a,b,_⟩:=h;exact⟨a.lt,b.lt⟩
theorem Gx (s:ByteArray) (i:Nat):1≤(Utf8.decode s i).2:=by
 unfold Utf8.decode
 dsimp only
 repeat' split
 all_goals simp
theorem Jy (s:ByteArray) (i:Nat) (h:i<s.size) (hb:128≤(s[i]'h).toNat):128≤(Utf8.decode s i).1:=by
 have e:s.get! (i+0)=s[i]'h:=by
  show s.get! i=_
  simp[ByteArray.get!,getElem!_pos,h]
  rfl
 have hb':128≤(s.get! (i+0)).toNat:=by rw[e];exact hb
 unfold Utf8.decode
 dsimp only
 rw[if_neg (by omega)]
 repeat' split
 all_goals(simp[Utf8.runeError]at*;try omega)
theorem NB (x:Nat) (h:x<256):bits .and .u8 (x:Int) 1=((x%2:Nat):Int):=by
 rw[show(1:Int)=((1:Nat):Int)from rfl,u8_and_nat x 1 h (by omega),Nat.and_one_is_mod]
theorem Fl (w:World) (k:Nat) (s:ByteArray) (pos:Nat):Fr (aI k) w (w.iterAt k s pos):=
 ⟨rfl,rfl,rfl,by show _≤(w.heap.setIfInBounds k _).size;simp,fun j hj hne=>by
  show(w.heap.setIfInBounds k _)[j]? =_
  rw[Array.getElem?_setIfInBounds_ne (fun e=>hne e.symm)]⟩
theorem I8 (w:World) (s:ByteArray) (pos:Nat):Fr noB w (w.iter s pos):=(Fr.refl noB w).alloc _
def ckL (c:lU):List Bool:=[decide (1≤c.cap∧c.cap≤600000),decide (8≤c.block∧c.block≤1024),decide (1≤c.window∧c.window≤8),decide (1≤c.rx∧c.rx≤16),decide (1≤c.tx∧c.tx≤16)]
theorem IJ (c:lU):(ckL c).all id=decide c.Ok2:=by
 rw[Bool.eq_iff_iff]
 unfold ckL lU.Ok2
 simp[List.all_cons,and_assoc]
def Ji (c:lU) (w:World) (e:Ending) (w':World):Prop:=
 (c.Ok→∃L:Lay,e= .returned (.tuple #[.pointer (some ⟨L.p,0,none⟩),.int .i64 0])∧aA w' L (AG c)∧(∀b,bM L b→w.heap.size≤b)∧Fr noB w w')∧
 (¬c.Ok→e= .returned (.tuple #[.pointer none,.int .i64 8])∧Fr noB w w')
theorem Lp (c:lU):(((decide c.Ok1&&c.name.all eR)&&decide c.Ok2)&&decide (c.card≠iS∧c.card.1.toNat%2≠1))=decide c.Ok:=by
 have h:((c.Ok1∧c.name.all eR=true)∧c.Ok2)∧(c.card≠iS∧c.card.1.toNat%2≠1)↔c.Ok:=by
  unfold lU.Ok
  exact⟨fun h=>⟨h.1.1.1,h.1.1.2,h.1.2,h.2⟩,fun h=>⟨⟨⟨h.1,h.2.1⟩,h.2.2.1⟩,h.2.2.2⟩⟩
 rw[Bool.eq_iff_iff,decide_eq_true_iff (p:=c.Ok),←h]
 simp only[Bool.and_eq_true,decide_eq_true_eq]
theorem KI {c:lU} (h:c.Ok):(AG c).Ok:=by
 obtain⟨h1,_,h2,_⟩:=h
 obtain⟨a1,a2,a3⟩:=h1
 obtain⟨⟨b1,b2⟩,⟨b3,b4⟩,⟨b5,b6⟩,⟨b7,b8⟩,b9,b10⟩:=h2
 constructor<;>simp[AG,lU.cfg]<;>omega
attribute [local simp] JV ckL ibq ibn eqN ltN leN eqL ltL gtL leL geL
theorem Gf (c:lU) (w:World) (hgb:Glb w):Calls Tryz.prog 12 #[.agg (JV c)] w (Ji c w):=by
 refine en Tryz.func12 Tryz.ntmps12 ?_
 refine W ?_
 refine sA ?_
 intro w0 hG f0
 have hgg:=hG.lt
 generalize w.heap.size=g at*
 refine V ?_
 refine cS ?_
 obtain⟨b,hb⟩:∃b,b=decide c.Ok1:=⟨_,rfl⟩
 refine cM [1] [(4,.bool b)] (fun w'=>w'=w0) ?_ ?_
 ·unfold lU.Ok1 at hb
  by_cases a1:1≤c.name.length
  by_cases a2:c.name.length≤20
  by_cases a3:c.digest.length=32
  all_goals
   refine W ?_
   exact mt rfl
 have Hb:=Lib.hid hb
 clear hb
 intro u w' hw
 subst w'
 refine cS ?_
 refine cM [1] [(4,.bool (b&&c.name.all eR))] (fun w'=>Fr noB w0 w') ?_ ?_
 ·refine W ?_
  refine sW (h:= ?_)
  have hf2:Fr noB w0 (w0.iter (bs c.name) 0):=I8 _ _ _
  have hk2:(w0.iter (bs c.name) 0).heap[w0.heap.size]? =some (.stringIter (bs c.name) 0):=World.iter_heap _ _ _
  generalize w0.iter (bs c.name) 0=w2 at*
  refine W ?_
  have hsz:(bs c.name).size=c.name.length:=aG _
  refine cL (fun i=>c.name.length-i.1) (fun(i:Nat×Bool)=>[(4,.bool i.2),(1,.pointer (some ⟨g,0,none⟩)),(28,.pointer (some ⟨w0.heap.size,0,none⟩))]) (fun i w'=>w'.heap[w0.heap.size]? =some (.stringIter (bs c.name) i.1)∧Fr (aI w0.heap.size) w2 w'∧((i.2=true∧b=true∧(c.name.take i.1).all eR=true)∨(i.2=false∧(b&&c.name.all eR)=false))) (0,b) (mt (p:=True) trivial).1 ⟨hk2,Fr.refl _ _,by cases b<;>simp⟩ ?_
  clear hk2
  rintro⟨pos,e⟩ u w3 ⟨hk3,hf3,hinv⟩
  dsimp only at hk3 hinv⊢
  by_cases hp:pos<c.name.length
  ·have hp':pos<(bs c.name).size:=by omega
   have hnx:=fun ty=>Lib.run_next_any_at (P:=Tryz.prog) w3 _ (bs c.name) pos ty hk3 hp'
   refine W ?_
   refine sW (h:= ?_)
   have hf4:=hf3.trans (Fl w3 w0.heap.size (bs c.name) (pos+(Utf8.decode (bs c.name) pos).2))
   have hk4:=Lib.iterAt_heap w3 _ (bs c.name) pos (pos+(Utf8.decode (bs c.name) pos).2) hk3
   have hd1:=Gx (bs c.name) pos
   generalize w3.iterAt w0.heap.size (bs c.name) (pos+(Utf8.decode (bs c.name) pos).2)=w4 at*
   clear hnx hk3 hf3
   obtain⟨x,hx⟩:∃x,c.name[pos]? =some x:=⟨_,List.getElem?_eq_getElem hp⟩
   have hgx:(bs c.name)[pos]'hp'=x:=by rw[jZ c.name pos hp'];rw[List.getElem?_eq_getElem hp]at hx;injection hx
   have hasc:x.toNat<128→Utf8.decode (bs c.name) pos=(x.toNat,1):=fun h=>by rw[decode_ascii (bs c.name) pos hp' (by rw[hgx];exact h),hgx]
   have hbad:¬x.toNat<128→128≤(Utf8.decode (bs c.name) pos).1:=fun h=>Jy (bs c.name) pos hp' (by rw[hgx];omega)
   generalize Utf8.decode (bs c.name) pos=q at*
   obtain⟨dc,dl⟩:=q
   dsimp only at hk4 hd1 hbad⊢
   have fin:∀e',e'=(e&&decide (32<dc∧dc<127))→((e'=true∧b=true∧(c.name.take (pos+dl)).all eR=true)∨(e'=false∧(b&&c.name.all eR)=false)):=by
    rintro _ rfl
    rcases hinv with⟨rfl,hb0,ha⟩|⟨rfl,hT⟩
    ·by_cases h128:x.toNat<128
     ·obtain⟨rfl,rfl⟩:=Prod.mk.inj (hasc h128)
      by_cases hc:eR x=true
      ·refine .inl ⟨?_,hb0,wE hx ha hc⟩
       unfold eR at hc
       simp only[Bool.and_eq_true,decide_eq_true_eq]at hc
       rw[Bool.true_and,decide_eq_true]
       omega
      ·have hcf:eR x=false:=by simpa using hc
       refine .inr ⟨?_,?_⟩
       ·unfold eR at hcf
        rw[Bool.true_and,decide_eq_false]
        intro hz
        have:(decide (33≤x.toNat)&&decide (x.toNat≤126))=true:=by simp;omega
        rw[this]at hcf;cases hcf
       ·have:c.name.all eR=false:=by
         rw[List.all_eq_false];exact⟨x,List.mem_of_getElem? hx,by rw[hcf];decide⟩
        rw[this,Bool.and_false]
     ·have hcf:eR x=false:=by unfold eR;simp;omega
      refine .inr ⟨?_,?_⟩
      ·have:=hbad h128;rw[Bool.true_and,decide_eq_false];omega
      ·have:c.name.all eR=false:=by
        rw[List.all_eq_false];exact⟨x,List.mem_of_getElem? hx,by rw[hcf];decide⟩
       rw[this,Bool.and_false]
    ·exact .inr ⟨Bool.false_and _,hT⟩
   clear hinv hasc hbad hgx hx hp'
   obtain⟨e',he⟩:∃e',e'=(e&&decide (32<dc∧dc<127)):=⟨_,rfl⟩
   have Fin:=Lib.hid (fin e' he)
   clear fin
   have Hd:=Lib.hid hd1
   clear hd1
   by_cases a1:32<dc
   by_cases a2:dc<127
   all_goals
    cases e<;>refine W ?_<;>exact⟨(pos+dl,e'),(mt (p:=True) trivial).1,⟨hk4,hf4,Fin.out⟩,by have:=Hd.out;dsimp only;omega⟩
  ·have hnx:=fun ty=>Lib.run_next_end_at (P:=Tryz.prog) w3 _ (bs c.name) pos ty hk3 (show ¬pos<(bs c.name).size by omega)
   have hT:e=(b&&c.name.all eR):=by
    rcases hinv with⟨rfl,hb0,ha⟩|⟨rfl,hT⟩
    ·rw[List.take_of_length_le (by omega)]at ha;rw[hb0,ha];rfl
    ·exact hT.symm
   clear hk3 hp hinv hsz
   rw[←hT]
   clear hT
   refine W ?_
   refine sW (h:= ?_)
   refine W ?_
   exact mt (bP hf2 (Nat.le_refl _) hf3)
 intro u w1 f1
 replace hG:=hG.keep f1 id
 replace f0:=f0.none f1
 clear f1
 generalize hb1:(b&&c.name.all eR)=b1
 refine cS ?_
 refine cM [1] [(4,.bool (b1&&decide c.Ok2))] (fun w'=>Fr noB w1 w') ?_ ?_
 ·clear hb1
  generalize b1=b
  refine W ?_
  refine sA ?_
  intro w2 hQ f2
  replace hQ:Bk w2 w1.heap.size _ #[.int .i64 c.cap,.int .i64 1,.int .i64 600000,.int .i64 c.block,.int .i64 8,.int .i64 1024,.int .i64 c.window,.int .i64 1,.int .i64 8,.int .i64 c.rx,.int .i64 1,.int .i64 16,.int .i64 c.tx,.int .i64 1,.int .i64 16]:=hQ
  generalize w1.heap.size=q at*
  refine W ?_
  refine cL (fun i=>5-i) (fun i=>[(58,.int .i64 ((i:Nat):Int)),(4,.bool (b&&((ckL c).take i).all id)),(1,.pointer (some ⟨g,0,none⟩)),(56,.slice (some ⟨q,0,none⟩) 5 5),(57,.int .i64 5)]) (fun i w'=>i≤5∧Fr noB w2 w') 0 (mt (p:=True) trivial).1 ⟨by decide,Fr.refl _ _⟩ ?_
  rintro i u w3 ⟨hi,hf3⟩
  have hQ3:=hQ.keep hf3 id
  clear hG hgg
  obtain rfl|rfl|rfl|rfl|rfl|rfl:i=0∨i=1∨i=2∨i=3∨i=4∨i=5:=by omega
  ·have e1:(b&&((ckL c).take 1).all id)=((b&&((ckL c).take 0).all id)&&decide (1≤c.cap∧c.cap≤600000)):=by simp[Bool.and_assoc]
   generalize(b&&((ckL c).take 0).all id)=e at*
   have E1:=Lib.hid e1
   clear e1
   refine W ?_
   refine sA ?_
   intro w4 hV f4
   refine W ?_
   refine sT ?_
   intro w5 hV f5
   have f5:=hf3.none (bP f4 (Nat.le_refl _) f5)
   by_cases a1:1≤c.cap
   by_cases a2:c.cap≤600000
   all_goals
    cases e<;>refine W ?_<;>exact⟨1,by rw[E1.out];exact(mt (p:=True) trivial).1,⟨by decide,f5⟩,by decide⟩
  ·have e1:(b&&((ckL c).take 2).all id)=((b&&((ckL c).take 1).all id)&&decide (8≤c.block∧c.block≤1024)):=by simp[Bool.and_assoc]
   generalize(b&&((ckL c).take 1).all id)=e at*
   have E1:=Lib.hid e1
   clear e1
   refine W ?_
   refine sA ?_
   intro w4 hV f4
   refine W ?_
   refine sT ?_
   intro w5 hV f5
   have f5:=hf3.none (bP f4 (Nat.le_refl _) f5)
   by_cases a1:8≤c.block
   by_cases a2:c.block≤1024
   all_goals
    cases e<;>refine W ?_<;>exact⟨2,by rw[E1.out];exact(mt (p:=True) trivial).1,⟨by decide,f5⟩,by decide⟩
  ·have e1:(b&&((ckL c).take 3).all id)=((b&&((ckL c).take 2).all id)&&decide (1≤c.window∧c.window≤8)):=by simp[Bool.and_assoc]
   generalize(b&&((ckL c).take 2).all id)=e at*
   have E1:=Lib.hid e1
   clear e1
   refine W ?_
   refine sA ?_
   intro w4 hV f4
   refine W ?_
   refine sT ?_
   intro w5 hV f5
   have f5:=hf3.none (bP f4 (Nat.le_refl _) f5)
   by_cases a1:1≤c.window
   by_cases a2:c.window≤8
   all_goals
    cases e<;>refine W ?_<;>exact⟨3,by rw[E1.out];exact(mt (p:=True) trivial).1,⟨by decide,f5⟩,by decide⟩
  ·have e1:(b&&((ckL c).take 4).all id)=((b&&((ckL c).take 3).all id)&&decide (1≤c.rx∧c.rx≤16)):=by simp[Bool.and_assoc]
   generalize(b&&((ckL c).take 3).all id)=e at*
   have E1:=Lib.hid e1
   clear e1
   refine W ?_
   refine sA ?_
   intro w4 hV f4
   refine W ?_
   refine sT ?_
   intro w5 hV f5
   have f5:=hf3.none (bP f4 (Nat.le_refl _) f5)
   by_cases a1:1≤c.rx
   by_cases a2:c.rx≤16
   all_goals
    cases e<;>refine W ?_<;>exact⟨4,by rw[E1.out];exact(mt (p:=True) trivial).1,⟨by decide,f5⟩,by decide⟩
  ·have e1:(b&&((ckL c).take 5).all id)=((b&&((ckL c).take 4).all id)&&decide (1≤c.tx∧c.tx≤16)):=by simp[Bool.and_assoc]
   generalize(b&&((ckL c).take 4).all id)=e at*
   have E1:=Lib.hid e1
   clear e1
   refine W ?_
   refine sA ?_
   intro w4 hV f4
   refine W ?_
   refine sT ?_
   intro w5 hV f5
   have f5:=hf3.none (bP f4 (Nat.le_refl _) f5)
   by_cases a1:1≤c.tx
   by_cases a2:c.tx≤16
   all_goals
    cases e<;>refine W ?_<;>exact⟨5,by rw[E1.out];exact(mt (p:=True) trivial).1,⟨by decide,f5⟩,by decide⟩
  ·rw[show(ckL c).take 5=ckL c from rfl,IJ]
   generalize decide c.Ok2=e
   refine W ?_
   exact mt (f2.none hf3)
 subst hb1
 intro u w2 f2
 replace hG:=hG.keep f2 id
 replace f0:=f0.none f2
 clear f2
 generalize hb3:((b&&c.name.all eR)&&decide c.Ok2)=b3
 have ok0:=Lp c
 rw[←Hb.out,hb3]at ok0
 clear hb3
 refine cS ?_
 refine cS ?_
 obtain⟨d,hd⟩:∃d,d= !(b3&&decide (c.card≠iS∧c.card.1.toNat%2≠1)):=⟨_,rfl⟩
 refine cM [1] [(92,.bool d)] (fun w'=>w'=w2) ?_ ?_
 ·have hE:=Jp c.card iS
  have hGd:=iA
  have ha:=NB c.card.1.toNat c.card.1.toNat_lt
  rw[show xF iS= #[.int .u8 0,.int .u8 0,.int .u8 0,.int .u8 0,.int .u8 0,.int .u8 0]from rfl]at hE
  unfold xF at hE
  obtain⟨z,hz⟩:∃z,z=decide (c.card=iS):=⟨_,rfl⟩
  replace hd:d= !(b3&&(!z&&decide (c.card.1.toNat%2≠1))):=by rw[hd,hz,Bool.decide_and];simp
  rw[←hz]at hE
  clear ok0 hz hgb
  by_cases hp:c.card.1.toNat%2=1
  ·rw[hp]at ha
   cases b3<;>cases z<;>refine W ?_<;>exact mt rfl
  ·rw[show c.card.1.toNat%2=0 by omega]at ha
   cases b3<;>cases z<;>refine W ?_<;>exact mt rfl
 intro u w' hw
 subst w'
 rw[ok0]at hd
 clear ok0
 cases d
 rotate_left
 ·have hno:¬c.Ok:=by simpa using hd
  clear hd
  refine W ?_
  exact⟨fun h=>absurd h hno,fun _=>⟨rfl,f0⟩⟩
 have hok:c.Ok:=by simpa using hd
 clear hd
 have hnk:=KI hok
 obtain⟨nr,hnr⟩:=Int.eq_ofNat_of_zero_le (show 0≤c.rx by have:=hok.2.2.1;unfold lU.Ok2 at this;omega)
 obtain⟨nt,hnt⟩:=Int.eq_ofNat_of_zero_le (show 0≤c.tx by have:=hok.2.2.1;unfold lU.Ok2 at this;omega)
 have hrt:1≤nr∧nr≤16∧1≤nt∧nt≤16:=by have:=hok.2.2.1;unfold lU.Ok2 at this;omega
 rw[hnr,hnt]at hG
 have Hn:=Lib.hid (And.intro hnr hnt)
 clear hnr hnt
 refine W ?_
 refine dI hG [8] [1,4,0,2,5,3,6,7,8,9] (h:= ?_)
 intro w3 hG3 f3
 refine D ?_
 refine dY (ES nr _ hrt.1 hrt.2.1) ?_
 rintro e w4 ⟨r1,g1,rfl,hR1,hf1,hl1,hl2,hne1⟩
 refine⟨_,rfl,hG3.keep hf1 id,?_⟩
 refine D ?_
 refine dY (ES nt _ hrt.2.2.1 hrt.2.2.2) ?_
 rintro e w5 ⟨r2,g2,rfl,hR2,hf2,hl3,hl4,hne2⟩
 refine⟨_,rfl,(hG3.keep hf1 id).keep hf2 id,?_⟩
 refine D ?_
 refine dA ?_
 intro w6 hB hf3
 have hws:=(f0.none f3).size
 have hFa:=(((f0.none f3).none hf1).none hf2).none hf3
 have hRx:=(hR1.keep hf2 id id).keep hf3 id id
 have hTx:=hR2.keep hf3 id id
 have lr:=hR1.lt
 have lt2:=hR2.lt
 have z4:=hf1.size
 have z5:=hf2.size
 have z6:=hf3.size
 have lp:=hB.lt
 obtain⟨p,hp⟩:∃p,p=w5.heap.size:=⟨_,rfl⟩
 rw[←hp]at hB⊢
 refine D ?_
 refine tN ?_
 clear hG hG3 hR1 hR2 hf1 hf2 hf3 f0 f3
 have Hp:=Lib.hid hp
 clear hp
 refine W ?_
 refine sC (uY p 15 (.map none) w6 (hB.cell 15) (hB.free 15)) ?_
 intro w7 hw7
 have hcl:=Ec (w:=w6) (cb:=p) (co:=15) hB.lt
 have hB7:=(hB.alloc (.map #[] 0)).set 15 (.map (some w6.heap.size))
 have hf7:Fr (aI p) w6 w7:=by rw[hw7];exact(((Fr.refl (aI p) w6).alloc _).setCell (p:=⟨p,15,none⟩) (fun _=>rfl) _)
 rw[←hw7]at hcl hB7
 clear hw7
 refine W ?_
 replace Hp:=Hp.out
 obtain⟨hnr,hnt⟩:=Hn.out
 have hFr:Fr noB w w7:=hFa.trans' hf7 (fun j hj e=>by have e':j=p:=e;omega)
 have hown:∀b,bM ⟨p,r1,g1,r2,g2,w6.heap.size,none,0⟩ b→w.heap.size≤b:=by
  rintro b (hb|⟨a,ha,_⟩)
  ·simp only[Lay.blocks,List.mem_cons,List.not_mem_nil,or_false]at hb
   rcases hb with rfl|rfl|rfl|rfl|rfl|rfl<;>omega
  ·cases ha
 refine⟨fun _=>⟨⟨p,r1,g1,r2,g2,w6.heap.size,none,0⟩,rfl,⟨?_,?_,?_,hcl,⟨by simp[u8s,AG],.inl ⟨rfl,rfl⟩⟩,?_,(fun a ha=>by cases ha),hnk,hgb.keep hFr (fun _ _ x=>x),fun b hb hx=> ?_⟩,hown,hFr⟩,fun h=>absurd hok h⟩
 ·obtain⟨_,_,h2,_⟩:=hok
  obtain⟨⟨b1,b2⟩,⟨b3,b4⟩,⟨b5,b6⟩,_⟩:=h2
  unfold dM AG lU.cfg
  rw[Int.toNat_of_nonneg (show 0≤c.cap by omega),Int.toNat_of_nonneg (show 0≤c.block by omega),Int.toNat_of_nonneg (show 0≤c.window by omega),hnr,hnt,Int.toNat_natCast,Int.toNat_natCast]
  exact hB7
 ·show gL w7 r1 g1 c.rx.toNat []
  rw[show c.rx.toNat=nr by omega]
  exact hRx.keep hf7 (fun e=>by have e':r1=p:=e;omega) (fun e=>by have e':g1=p:=e;omega)
 ·show gL w7 r2 g2 c.tx.toNat []
  rw[show c.tx.toNat=nt by omega]
  exact hTx.keep hf7 (fun e=>by have e':r2=p:=e;omega) (fun e=>by have e':g2=p:=e;omega)
 ·simp only[Lay.blocks,List.nodup_cons,List.mem_cons,List.not_mem_nil,or_false,not_or,List.nodup_nil,and_true,not_false_eq_true]
  omega
 ·have:=hown b hb;have:=zG hgb b hx;omega
end Go.Proofs.YtcbkaiakdhiloacGreatDoor
namespace Go.Proofs.YtcbkaiakdhiloacGreatDoor
open Go.RowKit Go.Proofs
attribute [local go_sem] aG aD aC aE
attribute [local simp] ibq ibn eqN ltN leN eqL ltL gtL leL geL
def FH (s:St):Value:= .agg #[.int .i64 s.now,.int .i64 (s.lease:Int),.int .i64 (s.phase:Int),.int .u32 (s.address:Int),.int .i64 s.boots,.int .i64 (s.image.length:Int),.int .i64 s.lost,.int .i64 (s.cache.length:Int)]
theorem Fb:(Tryz.prog.info? 9).map (fun i=>(i.zero,i.size,i.bytes))=some (some (.string ⟨#[]⟩),1,16):=by kernel_rfl
def txV (l:List (List UInt8)):List Value:=l.map fun f=> .string (bs f)
end Go.Proofs.YtcbkaiakdhiloacGreatDoor
namespace Go.Proofs.YtcbkaiakdhiloacGreatDoor
open Go.RowKit Go.Proofs
attribute [local go_sem] aG aD aC aE
attribute [local simp] ibq ibn eqN ltN leN eqL ltL gtL leL geL
def MX (Y:Nat→Prop) (p:Nat) (s:St) (w:World):Prop:=∃L:Lay,L.p=p∧aA w L s∧∀b,Y b→b<w.heap.size∧¬bM L b
def DI (Y:Nat→Prop) (b:Nat):Prop:=¬Y b
def Dv (Y:Nat→Prop) (p:Nat) (s:St) (w:World) (r:Value) (e:Ending) (w':World):Prop:=e= .returned r∧MX Y p s w'∧Fr (DI Y) w w'
section
variable {Y Z:Nat→Prop} {p:Nat} {s s':St} {w w':World} {r:Value} {e:Ending} {L:Lay}
theorem MX.two (hY:∀b,Y b→b<w.heap.size∧¬bM L b) (h:bC L s' r w e w'):Dv Y L.p s' w r e w':=by
 obtain⟨he,L',hp,ho',hB,hF⟩:=h
 refine⟨he,⟨L',hp,hB,fun b hb=> ?_⟩,hF.mono fun b _ ho hy=>(hY b hy).2 ho⟩
 have h1:=hY b hb
 exact⟨Nat.lt_of_lt_of_le h1.1 hF.size,fun ho=>(ho' b ho).elim h1.2 fun h=>by omega⟩
theorem MX.keep {S:Nat→Prop} (h:MX Y p s w) (hf:Fr S w w') (hS:∀b,S b→Y b) (hG:∀b,glB b→¬S b):MX Y p s w':=by
 obtain⟨L,hp,hB,hY⟩:=h
 exact⟨L,hp,hB.keep hf (fun b ho hs=>(hY b (hS b hs)).2 ho) hG,fun b hb=>⟨Nat.lt_of_lt_of_le (hY b hb).1 hf.size,(hY b hb).2⟩⟩
theorem MX.none (h:MX Y p s w) (hf:Fr noB w w'):MX Y p s w':=h.keep hf (fun _ x=>x.elim) (fun _ _ x=>x)
theorem MX.mono (h:MX Y p s w) (hZ:∀b,Z b→Y b):MX Z p s w:=by
 obtain⟨L,hp,hB,hY⟩:=h
 exact⟨L,hp,hB,fun b hb=>hY b (hZ b hb)⟩
theorem MX.gb (h:MX Y p s w):Glb w:=by obtain⟨_,_,h,_⟩:=h;exact h.gb
theorem MX.lt (h:MX Y p s w):∀b,Y b→b<w.heap.size:=by obtain⟨_,_,_,h⟩:=h;exact fun b hb=>(h b hb).1
theorem MX.add {S:Nat→Prop} (h:MX Y p s w) (hf:Fr S w w') (hS:∀b,S b→Y b) (hG:∀b,glB b→¬S b) (hZ:∀b,Z b→Y b∨(w.heap.size≤b∧b<w'.heap.size)):MX Z p s w':=by
 obtain⟨L,hp,hB,hY⟩:=h
 refine⟨L,hp,hB.keep hf (fun b ho hs=>(hY b (hS b hs)).2 ho) hG,fun b hb=> ?_⟩
 rcases hZ b hb with h1|h1
 ·exact⟨Nat.lt_of_lt_of_le (hY b h1).1 hf.size,(hY b h1).2⟩
 ·exact⟨h1.2,fun ho=>by have:=hB.lt b ho;omega⟩
end
instance (Y:Nat→Prop) (p:Nat) (s:St):Kp0 fun w=>MX Y p s w:=⟨fun _ _ h f=>h.none f⟩
section
variable {Y:Nat→Prop} {p:Nat} {s:St} {w:World}
theorem DP (dr:Nat) (h:MX Y p s w) (hn:s.now<4611686018427387904) (hdr:dr<4294967296):Calls Tryz.prog 18 #[.pointer (some ⟨p,0,Option.none⟩),.int .u32 (dr:Int)] w (Dv Y p (s.tick dr) w (.tuple #[])):=by
 obtain⟨L,rfl,hB,hY⟩:=h
 exact(EV L s dr w hB hn hdr).mono fun e w' hp=>MX.two hY hp
theorem E9 (n:Int) (h:MX Y p s w) (hn:n≤9223372036854775807) (hr:s.Rest) (hs:s.Short):Calls Tryz.prog 17 #[.pointer (some ⟨p,0,Option.none⟩),.int .i64 n] w (Dv Y p (lM n.toNat s 0).1 w (.int .i64 ((lM n.toNat s 0).2:Int))):=by
 obtain⟨L,rfl,hB,hY⟩:=h
 exact(D6 L s n hn w hB hr hs).mono fun e w' hp=>MX.two hY hp
theorem Gt (f:List UInt8) (h:MX Y p s w):Calls Tryz.prog 16 #[.pointer (some ⟨p,0,Option.none⟩),.string (bs f)] w (Dv Y p (s.put f).1 w (.bool (s.put f).2)):=by
 obtain⟨L,rfl,hB,hY⟩:=h
 exact(Gh L s f w hB).mono fun e w' hp=>MX.two hY hp.two
theorem DM (h:MX Y p s w):Calls Tryz.prog 15 #[.pointer (some ⟨p,0,Option.none⟩)] w (Dv Y p s.take.1 w (.tuple #[.string (bs (s.take.2.getD [])),.bool s.take.2.isSome])):=by
 obtain⟨L,rfl,hB,hY⟩:=h
 exact(EY L s w hB).mono fun e w' hp=>MX.two hY hp.two
theorem mU (h:MX Y p s w):Calls Tryz.prog 14 #[.pointer (some ⟨p,0,Option.none⟩)] w fun e w'=>e= .returned (FH s)∧Fr noB w w':=by
 obtain⟨L,rfl,hB,hY⟩:=h
 exact Fc L s w hB
end
def St.txAs (s:St) (t:List (List UInt8)):St:={s with tx:=t}
theorem FW (s:St) (h:s.tx=[]):s.take=(s,none):=by unfold St.take;rw[h]
theorem EN (s:St) (f:List UInt8) (r:List (List UInt8)) (h:s.tx=f::r):s.take=(s.txAs r,some f):=by unfold St.take;rw[h];rfl
theorem zH {w w':World} {base k:Nat} {v:Value} {xs:List Value} {S:Nat→Prop} {t:TypeId} (h:w.ownsRow base t 1 v k xs) (hf:Fr S w w') (hb:∀b,v.ownBlock=some b→¬S b):w'.ownsRow base t 1 v k xs:=by
 refine⟨h.1,h.2.imp id ?_⟩
 rintro⟨g,cap,cur,h1,h2,h3,h4⟩
 exact⟨g,cap,cur,h1,h2,(hf.block g (Array.getElem?_eq_some_iff.1 h3).1 (hb g (by rw[h1];rfl))).trans h3,h4⟩
def JE (v:Value) (b:Nat):Prop:=v.ownBlock=some b
theorem uI {Y:Nat→Prop} {p:Nat} {s:St} {w:World} (h:MX Y p s w) (hn:s.tx.length≤16):
 Calls Tryz.prog 25 #[.pointer (some ⟨p,0,none⟩)] w fun e w'=>∃v,e= .returned v∧w'.ownsRow w.heap.size 9 1 v s.tx.length (txV s.tx)∧MX (fun b=>Y b∨JE v b) p (s.txAs []) w'∧Fr (DI Y) w w':=by
 refine en Tryz.func25 Tryz.ntmps25 ?_
 refine W ?_
 refine cL (fun i=>17-i.1) (fun(i:Nat×Value)=>[(0,.pointer (some ⟨p,0,none⟩)),(3,i.2),(6,.int .i64 (i.1:Int))])
  (fun i w'=>i.1≤s.tx.length∧w'.ownsRow w.heap.size 9 1 i.2 i.1 (txV (s.tx.take i.1))∧MX (fun b=>Y b∨JE i.2 b) p (s.txAs (s.tx.drop i.1)) w'∧Fr (DI Y) w w')
  (0,.slice none 0 0) (mt (p:=True) trivial).1 ⟨Nat.zero_le _,⟨rfl,.inl ⟨rfl,rfl⟩⟩,h.mono fun b hb=>hb.elim id nofun,Fr.refl _ _⟩ ?_
 rintro⟨i,v⟩ u w1 ⟨hi,hov,hM,f⟩
 dsimp only at hi hov hM⊢
 have h17:i<17:=by omega
 refine W ?_
 have hc:=DM hM
 rcases hd:s.tx.drop i with _|⟨fx,rs⟩
 ·rw[FW _ hd]at hc
  refine sX hc ?_
  rintro e w2 ⟨rfl,hM,f2⟩
  refine⟨_,rfl,?_⟩
  refine W ?_
  have hl:i=s.tx.length:=by have:=congrArg List.length hd;rw[List.length_drop]at this;simp at this;omega
  refine⟨_,rfl,?_,?_,f.trans (f2.mono fun b _ hb hy=>hb (.inl hy))⟩
  ·rw[hl,List.take_length]at hov
   exact zH hov f2 fun b hb x=>x (.inr hb)
  ·rw[hd]at hM
   exact hM
 ·rw[EN _ fx rs hd]at hc
  refine sX hc ?_
  rintro e w2 ⟨rfl,hM,f2⟩
  refine⟨_,rfl,?_⟩
  have hlt:i<s.tx.length:=by have:=congrArg List.length hd;rw[List.length_drop]at this;simp at this;omega
  have hfx:s.tx[i]=fx:=by rw[List.drop_eq_getElem_cons hlt]at hd;exact(List.cons.inj hd).1
  have hrs:s.tx.drop (i+1)=rs:=by rw[List.drop_eq_getElem_cons hlt]at hd;exact(List.cons.inj hd).2
  replace hov:=zH hov f2 fun b hb x=>x (.inr hb)
  replace f:=f.trans (f2.mono fun b _ hb hy=>hb (.inl hy))
  have hw1:=f.size
  obtain⟨A,cap,rfl,hA⟩:=eS hov
  refine W ?_
  refine sA ?_
  intro w3 hE f3
  replace hov:=eW hov f3 (fun _ _ x=>x)
  have f':=f.none f3
  refine W ?_
  refine sP (hi:=Fb) hov (SlR.of_bk (S:=noB) hE id rfl) (by simp[Value.oneCell']) Tryz.underlying73 (by unfold maxLen;omega) (by omega) f'.size ?_
  intro A' cap' w4 ha
  have i1:IntKind.i64.wrap ((i:Int)+1)=((i+1:Nat):Int):=(IntWalk.i64_in _ (by omega)).trans (by omega)
  refine W ?_
  have f4:=ha.fr
  have hgl:=zG h.gb
  have hge:∀b,(∃a,A=some a∧a.block=b)→w.heap.size≤b:=fun b ⟨a,h1,e⟩=>e▸(hov.lt _ (by rw[h1];rfl)).1
  refine⟨(i+1,.slice A' (i+1) cap'),(mt (p:=True) trivial).1,⟨hlt,?_,?_,?_⟩,by dsimp only;omega⟩
  ·have h5:txV (s.tx.take (i+1))=txV (s.tx.take i)++[.string (bs fx)]:=by rw[List.take_succ_eq_append_getElem hlt,hfx];simp[txV]
   dsimp only
   rw[h5]
   exact ha.own
  ·dsimp only
   rw[hrs]
   refine(hM.none f3).add f4 (fun b ⟨a,h1,h2⟩=> .inr (by subst h1;exact congrArg some h2)) (fun b hb x=>absurd (hge b x) (by have:=hgl b hb;omega)) (fun b hb=> ?_)
   rcases hb with hb|hb
   ·exact .inl (.inl hb)
   ·have h6:=ha.own.lt b hb
    unfold JE Value.ownBlock at hb
    cases A' with
    |none=>cases hb
    |some a'=>
     obtain rfl:=Option.some.inj hb
     rcases ha.at_ a' rfl with h7|⟨a,h7,h8⟩
     ·exact .inr ⟨h7,h6.2⟩
     ·subst h7;exact .inl (.inr (congrArg some h8))
  ·exact f'.trans (f4.mono fun b _ x hy=>absurd (hge b x) (by have:=h.lt b hy;omega))
end Go.Proofs.YtcbkaiakdhiloacGreatDoor
