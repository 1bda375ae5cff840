/- Parts of the walk; written by programs, merged. -/
import Derived.Test.YtcbkaiakdhiloaaGreatDoorSav
set_option linter.unusedSimpArgs false
set_option linter.unusedVariables false
set_option maxRecDepth 20000
set_option maxHeartbeats 8000000
namespace Go.Proofs.YtcbkaiakdhiloaaGreatDoor
open Go.RowKit Go.Proofs
attribute [local go_sem] aE aC aB aD
attribute [local simp] CZ ibq ibn eqN ltN leN eqL ltL gtL leL geL
def dH (s:List UInt8):jE:=⟨cH,[107,101,114,110,101,108],3000,sha s,16,2,16,16⟩
def I0 (ts:List UInt8) (k:Nat):Bool:=match ts[k]? with
 |some b=>b.toNat%4==0
 |none=>false
theorem MX.tx16 {Y:Nat→Prop} {p:Nat} {s:St} {w:World} (h:MX Y p s w):s.tx.length≤16:=by
 obtain⟨L,_,hB,_⟩:=h
 obtain⟨i,cs,_,_,_,_,hl,_⟩:=hB.tx
 exact Nat.le_trans hl hB.ok.tx1
theorem FV (s:St) (f:List UInt8) (h:s.rx=[]) (hc:0<s.c.rx):(s.put f).2=true∧(pU 1 (s.put f).1 0).1=lP false f s∧(s.put f).1.rx=[f]:=by
 obtain⟨c,rx⟩:=s
 dsimp only at h hc
 subst h
 unfold St.put
 rw[if_neg (by show ¬0=c.rx;omega)]
 exact⟨rfl,rfl,rfl⟩
theorem CD.len {A:Nat→Prop} {f:List UInt8} (h:CD A f):f.length≤4611686018427387904:=by
 have h1:=h.1
 unfold aI at h1
 by_cases a:1500<(sub f 14 f.length).length
 ·rw[if_pos a]at h1
  split at h1
  ·cases h1
  ·split at h1<;>cases h1
 ·unfold sub at a
  rw[List.length_drop,List.length_take]at a
  omega
structure SB (Y:Nat→Prop) (p g7:Nat) (A:Option Addr) (frames:List (List UInt8)) (c:jE) (s:St) (w:World):Prop where
 m:MX Y p s w
 c7:Bk w g7 30 (CZ c)
 row:SlR w (vV Y) 1 A frames.length (txV frames)
 card:Ht w
structure SY (Y:Nat→Prop) (g7:Nat):Prop where
 y7:Y g7
 yc:Y 0
theorem SB.mach {Y Z:Nat→Prop} {p g7:Nat} {A:Option Addr} {frames:List (List UInt8)} {c:jE} {s t:St} {w w':World} (h:SB Y p g7 A frames c s w) (F:SY Y g7) (hZ:∀b,Y b→Z b) (hM:MX Y p t w') (f:Fr (vV Z) w w'):SB Y p g7 A frames c t w':=
 ⟨hM,h.c7.keep f (fun x=>x (hZ _ F.y7)),h.row.keep (f.mono fun b _ x y=>x (hZ b y)),zG.keep h.card f (fun x=>x (hZ _ F.yc))⟩
theorem SB.none {Y:Nat→Prop} {p g7:Nat} {A:Option Addr} {frames:List (List UInt8)} {c:jE} {s:St} {w w':World} (h:SB Y p g7 A frames c s w) (f:Fr noB w w'):SB Y p g7 A frames c s w':=
 ⟨h.m.none f,h.c7.keep f id,h.row.keep (f.of_no _),zG.keep h.card f id⟩
theorem DS {Y:Nat→Prop} (p g7:Nat) (A:Option Addr) (cap k:Nat) (frames:List (List UInt8)) (ts x:List UInt8) (s:St) (w0:World) (F0:SY Y g7) (B:SB Y p g7 A frames (dH x) s w0) (hI:Cj (dH x).cfg k s) (hkl:k<frames.length) (hfl:frames.length≤16384) (hff:∀f∈frames,f.length≤4611686018427387904) (htl:ts.length≤4611686018427387904)
 (K:KT) (u:Nat→Value) (hKp:LH K) (hK:∀t u' w',SB Y p g7 A frames (dH x) t w'∧Cj (dH x).cfg (k+1) t∧Fr (vV Y) w0 w'→K .normal (F 202 u' [(2,.string (bs ts)),(7,.pointer (some ⟨g7,0,none⟩)),(8,.pointer (some ⟨p,0,none⟩)),(10,.string (bs (if t.phase=3 then t.image else []))),(49,.slice A frames.length cap),(50,.int .i64 (frames.length:Int)),(51,.int .i64 (k:Int))]) w'):
 cw Tryz.prog (eQ Tryz.f4 1) K (F 202 u [(2,.string (bs ts)),(7,.pointer (some ⟨g7,0,none⟩)),(8,.pointer (some ⟨p,0,none⟩)),(10,.string (bs (if s.phase=3 then s.image else []))),(49,.slice A frames.length cap),(50,.int .i64 (frames.length:Int)),(51,.int .i64 (k:Int))]) w0:=by
 refine cW ?_
 obtain⟨ad,y,rfl,hy,hc⟩:=B.row.at_ hkl
 obtain⟨f,hfr⟩:∃f,frames[k]=f:=⟨_,rfl⟩
 obtain rfl: .string (bs f)=y:=by unfold txV at hy;rw[List.getElem?_map,List.getElem?_eq_getElem hkl,hfr]at hy;exact Option.some.inj hy
 have hf62:=hff f (hfr▸List.getElem_mem hkl)
 clear hy hfr
 obtain⟨was,hwas⟩:∃z,(if s.phase=3 then s.image else [])=z:=⟨_,rfl⟩
 rw[hwas]
 refine W ?_
 have hl:=iB B.m
 unfold Aj at hl
 refine sC hl ?_
 intro w1 f1
 clear hl
 refine W ?_
 refine sA ?_
 intro w2 hA f2
 refine W ?_
 refine sT ?_
 intro w3 hA f3
 replace f3:=f1.none (aZ f2 (Nat.le_refl _) f3)
 have hgl:w0.heap.size≤w1.heap.size:=f1.size
 have hgl3:=hA.lt
 obtain⟨gA,hgA⟩:∃g,w1.heap.size=g:=⟨_,rfl⟩
 rw[hgA]at hA hgl hgl3⊢
 replace hA:Bk w3 gA 45 (zZ s):=hA
 have hgY:∀b,Y b→b≠gA:=fun b hb e=>by have:=B.m.lt b hb;omega
 obtain⟨Y1,hY1⟩:∃Y1:Nat→Prop,Y1=fun b=>Y b∨b=gA:=⟨_,rfl⟩
 have hYY:∀b,Y b→Y1 b:=fun b hb=>hY1▸ .inl hb
 have hM1:MX Y1 p s w3:=by
  subst hY1
  exact B.m.add f3 (fun _ x=>x.elim) (fun _ _ x=>x) fun b hb=>hb.imp id fun e=>by subst e;exact⟨hgl,hgl3⟩
 have hA1:Y1 gA:=hY1▸ .inr rfl
 have off1:∀b,b<w0.heap.size→vV Y1 b→vV Y b:=fun b _ h y=>h (hYY b y)
 replace B:=B.none f3
 replace f3:Fr (vV Y) w0 w3:=f3.of_no _
 clear f1 f2 hc
 have hok:=B.m.ok
 have hst:=Ez (c:=(dH x).cfg) rfl hI hok (by omega) (I0 ts k) f
 obtain⟨t,ht⟩:∃t,lP (I0 ts k) f s=t:=⟨_,rfl⟩
 rw[ht]at hst
 obtain⟨hfr,hov,hIt⟩:=hst
 refine V ?_
 refine cS ?_
 refine cM [2,7,8,10,13,49,50,51] [] (fun w'=>MX Y1 p t w'∧Fr (vV Y1) w3 w') ?_ ?_
 ·clear hfr hov hIt hA
  have tick:I0 ts k=true→Calls Tryz.prog 12 #[.pointer (some ⟨p,0,Option.none⟩),.int .u32 ((f.length%4294967296:Nat):Int)] w3 (zK Y1 p t w3 (.tuple #[])):=fun e=>by
   rw[e]at ht
   rw[←ht]
   exact xL (f.length%4294967296) hM1 (by have:=hI.now;omega) (Nat.mod_lt _ (by decide))
  have poll:I0 ts k=false→(s.put f).2=true∧∀w':World,MX Y1 p (s.put f).1 w'→Calls Tryz.prog 14 #[.pointer (some ⟨p,0,Option.none⟩),.int .i64 1] w' fun e w2=>∃v,e= .returned v∧MX Y1 p t w2∧Fr (vV Y1) w' w2:=fun e=>by
   rw[e]at ht
   obtain⟨h1,h2,h3⟩:=FV s f hI.rx hok.rx0
   refine⟨h1,fun w' hM=>(xR 1 hM (by decide) ?_ ?_).mono ?_⟩
   ·unfold St.put
    split
    ·exact hI.rest
    ·exact hI.rest
   ·intro g hg
    rw[h3]at hg
    obtain rfl:=List.mem_singleton.1 hg
    exact hf62
   ·rintro e w2 ⟨rfl,hM,f2⟩
    refine⟨_,rfl,?_,f2⟩
    rw[←ht,←h2]
    exact hM
  have e8:IntKind.u32.wrap ((f.length:Nat):Int)=((f.length%4294967296:Nat):Int):=by rw[IntKind.wrap_u32];omega
  generalize f.length%4294967296=dr at*
  clear hI hwas ht
  unfold I0 at tick poll
  have slow:(I0 ts k=false→Prop):=fun _=>True
  clear slow
  by_cases hkt:k<ts.length
  ·obtain⟨c,hcc⟩:∃c,ts[k]? =some c:=⟨_,List.getElem?_eq_getElem hkt⟩
   have hg:∀h:k<(bs ts).size,(bs ts)[k]'h=c:=fun h=>by rw[jA ts k h];rw[List.getElem?_eq_getElem hkt]at hcc;injection hcc
   rw[hcc]at tick poll
   dsimp only at tick poll
   have hT:((c.toNat:Nat):Int).tmod 4=((c.toNat%4:Nat):Int):=by rw[Int.tmod_eq_emod_of_nonneg (by omega)];omega
   generalize c.toNat%4=m at*
   by_cases hm:m=0
   ·subst hm
    replace tick:=tick rfl
    clear poll hcc
    refine W ?_
    refine sX tick ?_
    rintro e w4 ⟨rfl,hM,f4⟩
    refine⟨_,rfl,?_⟩
    refine W ?_
    exact mt ⟨hM,f4⟩
   ·have hm':(m==0)=false:=by simpa using hm
    obtain⟨hp1,hp2⟩:=poll hm'
    clear poll tick hcc hm'
    have hcp:=oK f hM1
    rw[hp1]at hcp
    refine W ?_
    refine sX hcp ?_
    rintro e w4 ⟨rfl,hM,f4⟩
    refine⟨_,rfl,?_⟩
    refine W ?_
    refine sX (hp2 w4 hM) ?_
    rintro e w5 ⟨v,rfl,hM,f5⟩
    refine⟨_,rfl,?_⟩
    refine W ?_
    exact mt ⟨hM,f4.trans f5⟩
  ·rw[List.getElem?_eq_none (by omega)]at tick poll
   obtain⟨hp1,hp2⟩:=poll rfl
   clear poll tick
   have hcp:=oK f hM1
   rw[hp1]at hcp
   refine W ?_
   refine sX hcp ?_
   rintro e w4 ⟨rfl,hM,f4⟩
   refine⟨_,rfl,?_⟩
   refine W ?_
   refine sX (hp2 w4 hM) ?_
   rintro e w5 ⟨v,rfl,hM,f5⟩
   refine⟨_,rfl,?_⟩
   refine W ?_
   exact mt ⟨hM,f4.trans f5⟩
 rintro u w4 ⟨hM,f4⟩
 have Ft:=Lib.hid ht
 clear ht hM1 hf62
 replace B:=B.mach F0 hYY (hM.mono hYY) f4
 replace hA:=hA.keep f4 (fun h=>h hA1)
 replace f3:=f3.trans' f4 off1
 have h04:w0.heap.size≤w4.heap.size:=f3.size
 clear f4
 have hl:=iB hM
 unfold Aj at hl
 refine W ?_
 refine sC hl ?_
 intro w5 f5
 clear hl
 refine W ?_
 refine sA ?_
 intro w6 hB f6
 refine W ?_
 refine sT ?_
 intro w7 hB f7
 replace f7:=f5.none (aZ f6 (Nat.le_refl _) f7)
 have h45:=f5.size
 have hgl7:=hB.lt
 obtain⟨gB,hgB⟩:∃g,w5.heap.size=g:=⟨_,rfl⟩
 rw[hgB]at hB h45 hgl7⊢
 replace hB:Bk w7 gB 45 (zZ t):=hB
 obtain⟨Y2,hY2⟩:∃Y2:Nat→Prop,Y2=fun b=>Y1 b∨b=gB:=⟨_,rfl⟩
 have hYZ:∀b,Y b→Y2 b:=fun b hb=>hY2▸ .inl (hYY b hb)
 have hM2:MX Y2 p t w7:=by
  subst hY2
  exact hM.add f7 (fun _ x=>x.elim) (fun _ _ x=>x) fun b hb=>hb.imp id fun e=>by subst e;exact⟨h45,hgl7⟩
 have hA2:Y2 gA:=hY2▸ .inl hA1
 have hB2:Y2 gB:=hY2▸ .inr rfl
 have off2:∀b,b<w0.heap.size→vV Y2 b→vV Y b:=fun b _ h y=>h (hYZ b y)
 replace B:=B.none f7
 replace hA:=hA.keep f7 id
 replace f3:=f3.none f7
 clear f5 f6 f7 hM h45 h04
 obtain⟨ov,hovv⟩:∃o,s.over=o:=⟨_,rfl⟩
 rw[hovv]at hov
 replace hovv:=Lib.hid (hovv.symm.trans (show s.over=(decide (s.phase=3)||decide (s.phase=4))from rfl))
 refine V ?_
 refine cS ?_
 refine cM [2,7,8,10,13,14,49,50,51] [(15,.bool ov)] (fun w'=>w7=w') ?_ ?_
 ·unfold zZ at hA
  clear hov hI hfr hIt hwas
  generalize s.phase=sp at*
  clear hB
  by_cases e3:sp=3
  ·subst e3
   obtain rfl:ov=true:=hovv.out
   clear hovv
   refine W ?_
   exact mt rfl
  by_cases e4:sp=4
  ·subst e4
   obtain rfl:ov=true:=hovv.out
   clear hovv
   refine W ?_
   exact mt rfl
  ·obtain rfl:ov=false:=by rw[hovv.out];simp[e3,e4]
   clear hovv
   refine W ?_
   exact mt rfl
 rintro u _ rfl
 refine W ?_
 refine sX (nL hM2 hM2.tx16) ?_
 rintro e w8 ⟨v,rfl,hvo,hM3,f8⟩
 refine⟨_,rfl,?_⟩
 have hlen:=hM2.tx16
 replace B:=B.mach F0 hYZ (hM3.mono fun b hb=> .inl (hYZ b hb)) f8
 replace hA:=hA.keep f8 (fun h=>h hA2)
 replace hB:=hB.keep f8 (fun h=>h hB2)
 replace f3:=f3.trans' f8 off2
 obtain⟨vA,vc,rfl,_⟩:=eD hvo
 have hvr:=jQ hvo
 replace hM3:=hM3.mono fun b hb=>Or.inl hb
 clear f8 hvo hM2
 refine V ?_
 refine cS ?_
 refine cM [2,7,8,10,13,14,15,16,49,50,51] [] (fun w'=>w8=w') ?_ ?_
 ·clear hfr hIt hvr hlen hI hwas hovv
  unfold zZ at hA hB
  cases ov
  ·refine W ?_
   exact mt rfl
  ·obtain⟨o1,o2,_⟩:=hov rfl
   rw[o1]
   rw[o2]at hB
   refine W ?_
   exact mt rfl
 rintro u _ rfl
 refine cS ?_
 refine cZ ?_
 refine W ?_
 refine uZ ?_
 refine cBl _ (fun K u hK=>Gz gA gB vA vc t.tx s t (.string (bs ts)) (.pointer (some ⟨g7,0,none⟩)) (.pointer (some ⟨p,0,none⟩)) (.string (bs was)) (.bool ov) (.slice (some ad) frames.length cap) (.int .i64 (frames.length:Int)) (.int .i64 (k:Int)) w8 hA hB B.card hvr hlen (fun o ho=>⟨(hfr o ho).len,hfr o ho⟩) K u hK) ?_
 rintro u w9 f9
 clear hfr hvr hlen
 replace B:=B.none f9
 replace hA:=hA.keep f9 id
 replace hB:=hB.keep f9 id
 replace f3:=f3.none f9
 replace hM3:=hM3.none f9
 have hok2:=hM3.ok
 clear f9
 refine W ?_
 refine sX (sY hM3) ?_
 rintro e w10 ⟨rfl,hM4,f10⟩
 refine⟨_,rfl,?_⟩
 clear hM3
 have hch:t.c=(dH x).cfg:=hIt.c
 have hdig:t.Dig:=hIt.dig
 have hcap:t.image.length≤t.c.cap:=hok2.image
 rw[show t.c.cap=3000 by rw[hch];rfl]at hcap
 replace B:=B.mach F0 hYZ (hM4.mono hYZ) f10
 replace hB:=hB.keep f10 (fun h=>h hB2)
 replace f3:=f3.trans' f10 off2
 have hgb:=B.m.gb
 have c7:=B.c7
 clear f10 hM4 hA hYY hYZ hA1 hA2 hB2 off1 off2 hgY hok hok2
 have hdg:t.phase=3→sha t.image=sha x:=fun e=>(hdig e).trans (congrArg IZ.digest hch)
 have hwo:ov=true→t.phase=3→was=t.image:=fun e e3=>by
  obtain⟨_,o2,o3⟩:=hov e
  rw[←hwas,←o2,if_pos e3,o3]
 clear hov hwas hdig hch
 have hfin:∀u' w',Fr noB w10 w'→K .normal (F 202 u' [(2,.string (bs ts)),(7,.pointer (some ⟨g7,0,none⟩)),(8,.pointer (some ⟨p,0,none⟩)),(10,.string (bs (if t.phase=3 then t.image else []))),(49,.slice (some ad) frames.length cap),(50,.int .i64 (frames.length:Int)),(51,.int .i64 (k:Int))]) w':=fun u' w' f=>hK (t.txAs []) u' w' ⟨B.none f,hIt,f3.none f⟩
 clear hK B f3 hIt hI
 refine V ?_
 refine cS ?_
 change Bk w10 gB 45 #[.int .i64 t.now,.int .i64 (t.lease:Int),.int .i64 (t.phase:Int),.int .u32 (t.address:Int),.int .i64 t.boots,.int .i64 (t.image.length:Int),.int .i64 t.lost,.int .i64 (t.cache.length:Int)]at hB
 change Bk w10 g7 30 (CZ ⟨cH,[107,101,114,110,101,108],3000,sha x,16,2,16,16⟩)at c7
 unfold CZ at c7
 dsimp only at c7
 rw[show(t.txAs []).phase=t.phase from rfl,show(t.txAs []).image=t.image from rfl]
 generalize t.phase=tp at*
 generalize t.image=im at*
 generalize sha x=dg at*
 refine cM [2,7,8,23,49,50,51] [] (fun w'=>Fr noB w10 w') ?_ ?_
 ·clear hfin
  by_cases e3:tp=3
  rotate_left
  ·rw[if_neg e3,decide_eq_false e3]
   clear hdg hwo
   refine cS ?_
   refine dI (An hB c7) [] (up 15 0++[16,17,15]++up 19 18) (hQ:=fun c a w d v h=>hKp c a w d v h) (h:= ?_)
   rintro w11 ⟨hB,c7⟩ f11
   refine D ?_
   refine tN ?_
   refine W ?_
   exact mt f11
  ·subst e3
   have hd:=hdg rfl
   clear hdg
   rw[if_pos rfl,decide_eq_true rfl]
   refine cS ?_
   refine dI (An hB (An c7 hgb)) [] (up 15 0++[16,17,15]++up 19 18) (hQ:=fun c a w d v h=>hKp c a w d v h) (h:= ?_)
   rintro w11 hS f11
   have hb:=Bn im (by omega) w11 hS.2.2.rounds hS.2.2.begin
   rw[hd]at hb
   clear hd
   cases ov
   ·clear hwo
    refine D ?_
    refine dQc hb hS ?_
    intro w12 f12 hS
    have hB:=hS.1
    have c7:=hS.2.1
    refine D ?_
    refine tN ?_
    refine W ?_
    exact mt (f11.none f12)
   ·obtain rfl:=hwo rfl rfl
    clear hwo
    refine D ?_
    refine dQc hb hS ?_
    intro w12 f12 hS
    have hB:=hS.1
    have c7:=hS.2.1
    refine D ?_
    refine tN ?_
    refine W ?_
    exact mt (f11.none f12)
 rintro u w11 f11
 refine W ?_
 exact mtK (fun u' w' (h:Fr noB w10 w')=>hfin u' w' h) f11
end Go.Proofs.YtcbkaiakdhiloaaGreatDoor
namespace Go.Proofs.YtcbkaiakdhiloaaGreatDoor
open Go.RowKit Go.Proofs
attribute [local simp] ibq ibn eqN ltN leN eqL ltL gtL leL geL
attribute [local go_sem] aE aC aB aD
instance:Kp0 fun _=>True:=⟨fun _ _ h _=>h⟩
theorem cvB {w:World} {g:Nat} {t:TypeId} {cs:Array Value} (l:List UInt8) (k:Nat) (hB:Bk w g t cs) (hc:cs.toList=l.map fun c=> .int .u8 (c.toNat:Int)) (cap:Nat) (hk:l.length=k:=by rfl):
 (convert 63 9 (.slice (some ⟨g,0,none⟩) k cap)).run Tryz.prog w= .ok (.string (bs l)) w:=by
 have h:=Lib.run_convert_whole (P:=Tryz.prog) w 63 5 9 Tryz.underlying63 Tryz.underlying5 Tryz.underlying9 g 0 (bs l) (fun i h=>by
  have hi:i<l.length:=by rwa [aE]at h
  rw[Nat.zero_add,hB.cell i,←Array.getElem?_toList,hc,List.getElem?_map,List.getElem?_eq_getElem hi,jA l i h]
  rfl) cap
 rwa [aE,hk]at h
theorem Lj (n:Nat):(big 4 n).map (fun c=>Value.int .u8 (c.toNat:Int))=[.int .u8 (IntKind.u8.wrap ((n:Int)/16777216)),.int .u8 (IntKind.u8.wrap ((n:Int)/65536)),.int .u8 (IntKind.u8.wrap ((n:Int)/256)),.int .u8 (IntKind.u8.wrap (n:Int))]:=by
 simp[big,IntKind.wrap_u8']
 omega
theorem AU (n:Nat) (hn:n<4294967296) (w:World):Calls Tryz.prog 80 #[.int .u32 (n:Int)] w fun e w'=>e= .returned (.string (bs (big 4 n)))∧Fr noB w w':=by
 refine en Tryz.func80 Tryz.ntmps80 ?_
 refine W ?_
 refine sA ?_
 intro w1 hB f
 have hcv:=cvB (big 4 n) 4 hB (Lj n).symm 4
 refine W ?_
 exact⟨rfl,f⟩
theorem sD (A:Option Addr) (n cap:Nat) (os:List bK) (c:UInt8) (w:World) (hA:SlR w noB 2 A n (fN os)) (hn:n≤4611686018427387904):
 Calls Tryz.prog 78 #[.slice A n cap,.int .u8 (c.toNat:Int)] w fun e w'=>e= .returned (.string (bs (I2 os c)))∧Fr noB w w':=by
 have hlen:=hA.opt
 refine en Tryz.func78 Tryz.ntmps78 ?_
 refine W ?_
 refine cL (fun i=>n-i) (fun i=>[(1,.int .u8 (c.toNat:Int)),(7,.slice A n cap),(8,.int .i64 (n:Int)),(9,.int .i64 ((i:Nat):Int))]) (fun i w'=>i≤n∧dM os c=dM (os.drop i) c∧Fr noB w w') 0 (mt (p:=True) trivial).1 ⟨Nat.zero_le _,rfl,Fr.refl _ _⟩ ?_
 rintro i u w1 ⟨hi,ha,f1⟩
 refine W ?_
 by_cases hlt:i<n
 rotate_left
 ·refine W ?_
  refine⟨?_,f1⟩
  unfold I2
  rw[ha,List.drop_of_length_le (by omega)];rfl
 obtain⟨o,ho⟩:∃o,os[i]? =some o:=⟨_,List.getElem?_eq_getElem (by omega)⟩
 obtain⟨ad,rfl,c1,c2⟩:=(hA.keep f1).optAt ho
 have ha2:=ha.trans (sH ho c)
 clear ha ho
 refine W ?_
 refine sA ?_
 intro w2 hB f2
 refine W ?_
 refine sT ?_
 intro w3 hB f3
 replace f3:=f1.none (aZ f2 (Nat.le_refl _) f3)
 refine W ?_
 by_cases he:o.code.toNat=c.toNat
 ·have he':=UInt8.toNat_inj.1 he
  rw[if_pos he']at ha2
  refine W ?_
  refine⟨?_,f3⟩
  unfold I2
  rw[ha2];rfl
 ·rw[if_neg (fun h=>he (by rw[h]))]at ha2
  have hi1:IntKind.i64.wrap ((i:Int)+1)=((i+1:Nat):Int):=(IntWalk.i64_in _ (by omega)).trans (by omega)
  refine W ?_
  exact⟨i+1,(mt (p:=True) trivial).1,⟨by omega,ha2,f3⟩,by omega⟩
theorem Je (c:UInt8):IntKind.u8.wrap ((c.toNat:Int)-48)=(((c-48).toNat:Nat):Int):=by
 rw[IntKind.wrap_u8',UInt8.toNat_sub]
 have h:=c.toNat_lt
 rw[show(48:UInt8).toNat=48 from rfl]
 omega
theorem F7 (v:List UInt8) (c:UInt8) (n:Int):FD (v++[c]) n=wrap64 (wrap64 (10*FD v n)+((c-48).toNat:Int)):=by
 unfold FD;rw[List.foldl_append];rfl
theorem sF (A:Option Addr) (n cap:Nat) (fs:List cP) (nm:List UInt8) (w:World) (hA:SlR w noB 2 A n (fT fs)) (hn:n≤4611686018427387904) (hv:wtF fs≤4611686018427387904):
 Calls Tryz.prog 83 #[.slice A n cap,.string (bs nm)] w fun e w'=>e= .returned (.int .i64 (eC nm fs))∧Fr noB w w':=by
 have hlen:=hA.fld
 refine en Tryz.func83 Tryz.ntmps83 ?_
 refine W ?_
 refine cL (fun i=>n-i) (fun i=>[(1,.string (bs nm)),(5,.int .i64 (eC nm (fs.take i))),(9,.slice A n cap),(10,.int .i64 (n:Int)),(11,.int .i64 ((i:Nat):Int))]) (fun i w'=>i≤n∧Fr noB w w') 0 (mt (p:=True) trivial).1 ⟨Nat.zero_le _,Fr.refl _ _⟩ ?_
 rintro i u w1 ⟨hi,f1⟩
 refine W ?_
 by_cases hlt:i<n
 rotate_left
 ·refine W ?_
  rw[List.take_of_length_le (by omega)]
  exact⟨rfl,f1⟩
 obtain⟨o,ho⟩:∃o,fs[i]? =some o:=⟨_,List.getElem?_eq_getElem (by omega)⟩
 obtain⟨ad,rfl,c1,c2⟩:=(hA.keep f1).fldAt ho
 have hw:=AS _ _ _ ho
 have hT:fs.take (i+1)=fs.take i++[o]:=by rw[List.take_add_one,ho];rfl
 have hi1:IntKind.i64.wrap ((i:Int)+1)=((i+1:Nat):Int):=(IntWalk.i64_in _ (by omega)).trans (by omega)
 have hN:eC nm (fs.take (i+1))=if o.name=nm then FD o.value (eC nm (fs.take i))else eC nm (fs.take i):=by
  rw[hT];unfold eC;rw[List.foldl_append];rfl
 generalize eC nm (fs.take i)=x at*
 clear hT ho hA
 refine W ?_
 refine sA ?_
 intro w2 hB f2
 refine W ?_
 refine sT ?_
 intro w3 hB f3
 replace f3:=f1.none (aZ f2 (Nat.le_refl _) f3)
 refine W ?_
 by_cases he:o.name=nm
 rotate_left
 ·rw[if_neg he]at hN
  have hb:(o.name==nm)=false:=by simpa using he
  clear he
  refine W ?_
  refine⟨i+1,?_,⟨by omega,f3⟩,by omega⟩
  rw[hN]
  exact(mt (p:=True) trivial).1
 rw[if_pos he]at hN
 have hb:(o.name==nm)=true:=by simpa using he
 clear he
 refine W ?_
 obtain⟨v,hvv⟩:∃v,o.value=v:=⟨_,rfl⟩
 rw[hvv]at hN hw c2 hB⊢
 refine cL (fun j=>v.length-j) (fun j=>[(1,.string (bs nm)),(5,.int .i64 (FD (v.take j) x)),(7,.pointer (some ⟨w1.heap.size,0,none⟩)),(9,.slice (some ad) n cap),(10,.int .i64 (n:Int)),(11,.int .i64 ((i:Nat):Int)),(21,.int .i64 (v.length:Int)),(22,.int .i64 ((j:Nat):Int))]) (fun j w'=>j≤v.length∧w'=w3) 0 (mt (p:=True) trivial).1 ⟨Nat.zero_le _,rfl⟩ ?_
 rintro j u2 _ ⟨hj,rfl⟩
 refine W ?_
 by_cases hlj:j<v.length
 rotate_left
 ·refine W ?_
  refine⟨i+1,?_,⟨by omega,f3⟩,by omega⟩
  rw[List.take_of_length_le (Nat.le_of_not_lt hlj),←hN]
  exact(mt (p:=True) trivial).1
 obtain⟨c,hc⟩:∃c,v[j]? =some c:=⟨_,List.getElem?_eq_getElem hlj⟩
 have hg:∀h:j<(bs v).size,(bs v)[j]'h=c:=fun h=>by rw[jA v j h];rw[List.getElem?_eq_getElem hlj]at hc;injection hc
 have hq:=Je c
 have hD:FD (v.take (j+1)) x=wrap64 (wrap64 (10*FD (v.take j) x)+((c-48).toNat:Int)):=by rw[List.take_add_one,hc];exact F7 _ c x
 have hj1:IntKind.i64.wrap ((j:Int)+1)=((j+1:Nat):Int):=(IntWalk.i64_in _ (by omega)).trans (by omega)
 generalize FD (v.take j) x=y at*
 have hcl:=(c-48).toNat_lt
 have hc0:=c.toNat_lt
 generalize(c-48).toNat=z at*
 have hz:IntKind.i64.wrap (z:Int)=z:=IntWalk.i64_in _ ⟨by omega,by omega⟩
 clear hc hN hvv
 refine W ?_
 refine⟨j+1,?_,⟨by omega,rfl⟩,by omega⟩
 rw[hD,lK,lK]
 exact(mt (p:=True) trivial).1
theorem C8:∀(f g n:Nat),n<f→n<g→vR f n=vR g n
 |f+1,g+1,n,h1,h2=>by
  unfold vR
  split
  ·rfl
  ·rw[C8 f g (n/10) (by omega) (by omega)]
theorem Ki (n:Nat) (h:n<10):dec n=[UInt8.ofNat (48+n)]:=by unfold dec vR;rw[if_pos h]
theorem Kk (n:Nat) (h:¬n<10):dec n=dec (n/10)++[UInt8.ofNat (48+n%10)]:=by
 unfold dec
 rw[vR,if_neg h,C8 n (n/10+1) (n/10) (by omega) (by omega)]
theorem C7:∀f n:Nat,(vR f n).length≤f
 |0,_=>Nat.le_refl _
 |f+1,n=>by
  unfold vR
  split
  ·simp
  ·rw[List.length_append];have:=C7 f (n/10);simp;omega
theorem Jx (n:Nat) (h:n<10):IntKind.u8.wrap (IntKind.i64.wrap (48+(n:Int)))=(((UInt8.ofNat (48+n)).toNat:Nat):Int):=by
 rw[IntWalk.i64_in _ ⟨by omega,by omega⟩,IntKind.wrap_u8',UInt8.toNat_ofNat']
 omega
theorem nV (n:Nat) (hn:n≤4611686018427387904):∀w:World,Calls Tryz.prog 86 #[.int .i64 (n:Int)] w fun e w'=>e= .returned (.string (bs (dec n)))∧Fr noB w w':=by
 induction n using Nat.strongRecOn with
 |_ n ih=>
  intro w
  refine en Tryz.func86 Tryz.ntmps86 ?_
  refine W ?_
  by_cases h:n<10
  ·have hd:=Jx n h
   rw[Ki n h]
   generalize UInt8.ofNat (48+n)=c at*
   refine W ?_
   refine sA ?_
   intro w1 hB f
   have hcv:=cvB [c] 1 hB rfl 1
   refine W ?_
   exact⟨rfl,f⟩
  ·have hI1:(n:Int).tdiv 10=((n/10:Nat):Int):=by rw[Int.tdiv_eq_ediv_of_nonneg (by omega)];omega
   have hI2:(n:Int).tmod 10=((n%10:Nat):Int):=by rw[Int.tmod_eq_emod_of_nonneg (by omega)];omega
   have hd:=Jx (n%10) (by omega)
   have hI3:IntKind.i64.wrap ((n/10:Nat):Int)=((n/10:Nat):Int):=IntWalk.i64_in _ ⟨by omega,by omega⟩
   have ih:=ih (n/10) (by omega) (by omega)
   have hl:(dec (n/10)).length≤9223372036854775806:=by have:=C7 (n/10+1) (n/10);unfold dec;omega
   rw[Kk n h]
   generalize n/10=q at*
   generalize n%10=r at*
   generalize UInt8.ofNat (48+r)=c at*
   refine W ?_
   refine dI (S:=fun _=>True) trivial [] [0,1,3,4,5,6,2000,2,7,4008,9,10,3000,7,2000,2,4008,9,10,3000,4008,2,9,10] (h:= ?_)
   intro w1 _ f1
   refine D ?_
   refine dF (tB:=[7,2000,2,4008,9,10,3000,4008,2,9,10]) ?_ ?_
   ·refine dC (ih _) (fun _ _=>trivial) ?_
    intro w2 f2 _
    refine D ?_
    refine dA2 inferInstance trivial ?_
    intro w3 _ hB f3
    have hcv:=cvB [c] 1 hB rfl 1
    refine D ?_
    refine dU (h:= ?_) (fun _=>trivial)
    refine dV (v:= .string (bs (dec q++[c]))) (h:= ?_)
    refine D ?_
    refine W ?_
    exact⟨rfl,(f1.none f2).none f3⟩
   refine dA2 inferInstance trivial ?_
   intro w2 _ hB f2
   refine D ?_
   refine dF (tB:=[4008,2,9,10]) ?_ ?_
   ·refine dC (ih _) (fun _ _=>trivial) ?_
    intro w3 f3 _
    have hcv:=cvB [c] 1 (hB.keep f3 id) rfl 1
    refine D ?_
    refine dU (h:= ?_) (fun _=>trivial)
    refine dV (v:= .string (bs (dec q++[c]))) (h:= ?_)
    refine D ?_
    refine W ?_
    exact⟨rfl,(f1.none f2).none f3⟩
   have hcv:=cvB [c] 1 hB rfl 1
   refine dU (h:= ?_) (fun _=>trivial)
   refine D ?_
   refine dC (ih _) (fun _ _=>trivial) ?_
   intro w3 f3 _
   refine D ?_
   refine dV (v:= .string (bs (dec q++[c]))) (h:= ?_)
   refine D ?_
   refine W ?_
   exact⟨rfl,(f1.none f2).none f3⟩
end Go.Proofs.YtcbkaiakdhiloaaGreatDoor
namespace Go.Proofs.YtcbkaiakdhiloaaGreatDoor
open Go.RowKit Go.Proofs
attribute [local go_sem] aE aC aB aD
theorem lU (op bk:Nat) (tx dt:List UInt8) (fs:List cP) (Ao:Option Addr) (cap:Nat) (w:World)
 (hop:op<65536) (hbk:bk<65536) (hA:SlR w noB 2 Ao fs.length (fT fs)) (hnc:fs.length≤cap) (hwt:wtF fs≤1048576) (htx:tx.length≤1048576) (hdt:dt.length≤1048576) (hT:kT w):
 Calls Tryz.prog 85 #[.agg #[.int .u16 (op:Int),.int .u16 (bk:Int),.string (bs tx),.string (bs dt),.slice Ao fs.length cap]] w (fH (cJ ⟨op,bk,tx,dt,fs⟩) w):=by
 have hpa:=(Bk.new w 111 #[.int .u16 (op:Int),.int .u16 (bk:Int),.string (bs tx),.string (bs dt),.slice Ao fs.length cap]).cells
 have hf0:Fr noB w (w.alloc (.cells #[.int .u16 (op:Int),.int .u16 (bk:Int),.string (bs tx),.string (bs dt),.slice Ao fs.length cap] 111)):=(Fr.refl _ _).alloc _
 have hA1:=hA.keep hf0
 have hT1:=hT.none hf0
 go_enter Tryz.func85,Tryz.ntmps85
 go_wp2_with fail
 refine(qA op bk tx dt fs Ao cap _ hop hbk hA1 hnc hwt htx hdt hT1).mono ?_
 rintro e w2 ⟨rfl,hf2⟩
 generalize cJ ⟨op,bk,tx,dt,fs⟩=R at*
 go_wp2_with fail
 go_ret2
 exact⟨rfl,hf0.none hf2⟩
end Go.Proofs.YtcbkaiakdhiloaaGreatDoor
namespace Go.Proofs.YtcbkaiakdhiloaaGreatDoor
open Go.RowKit Go.Proofs
attribute [local go_sem] aE aC aB aD
def gN (h:aN):Array Value:= #[.string (bs h.image),.int .u32 (h.lease:Int),.int .u32 (h.next:Int),.bool h.options,.int .u16 (h.port:Int),.int .i64 (h.block:Int),.int .i64 (h.window:Int),.int .i64 (h.sent:Int),.int .i64 h.last,.int .i64 h.whn,.int .i64 h.now,.int .u16 (h.id:Int)]
attribute [local simp] gN ibq ibn eqN ltN leN eqL ltL gtL leL geL
structure aN.Ok (h:aN):Prop where
 image:h.image.length≤1048576
 lease:h.lease<4294967296
 next:h.next<4294967296
 port:h.port<65536
 id:h.id<65536
 block:h.block≤70000
 window:h.window≤70000
 sent:h.sent≤2097152
structure Fd (w:World):Prop where
 card:zG w 0 #[.int .u8 2,.int .u8 0,.int .u8 0,.int .u8 0,.int .u8 0,.int .u8 42]
 other:zG w 1 #[.int .u8 2,.int .u8 0,.int .u8 0,.int .u8 0,.int .u8 0,.int .u8 7]
 tabs:kT w
def glK (b:Nat):Prop:=b=0∨b=1∨b=6∨b=7
theorem Fd.keep {w w':World} {S:Nat→Prop} (h:Fd w) (hf:Fr S w w') (hS:∀b,glK b→¬S b):Fd w':=
 ⟨h.card.keep hf (hS _ (.inl rfl)),h.other.keep hf (hS _ (.inr (.inl rfl))),h.tabs.keep hf (hS _ (.inr (.inr (.inl rfl)))) (hS _ (.inr (.inr (.inr rfl))))⟩
theorem Fd.lt {w:World} (h:Fd w):0<w.heap.size∧1<w.heap.size∧6<w.heap.size∧7<w.heap.size:=⟨h.card.1,h.other.1,h.tabs.lt⟩
structure HAt (w:World) (q:Nat) (h:aN):Prop where
 bk:Bk w q 38 (gN h)
 gl:Fd w
 gq:¬glK q
 ok:h.Ok
theorem HAt.none {w w':World} {q:Nat} {h:aN} (k:HAt w q h) (f:Fr noB w w'):HAt w' q h:=⟨k.bk.keep f id,k.gl.keep f (fun _ _=>id),k.gq,k.ok⟩
instance (q:Nat) (h:aN):Kp0 fun w=>HAt w q h:=⟨fun _ _ k f=>k.none f⟩
theorem HAt.put {w w':World} {q:Nat} {h h':aN} (k:HAt w q h) (b:Bk w' q 38 (gN h')) (f:Fr (aH q) w w') (ok:h'.Ok):HAt w' q h':=
 ⟨b,k.gl.keep f (fun b hb e=>k.gq (by have e':b=q:=e;exact e'▸hb)),k.gq,ok⟩
theorem Ei (n:Nat):IntKind.u16.wrap ((n:Int)+1)=(((n+1)%65536:Nat):Int):=by rw[IntKind.wrap_u16];omega
theorem oT (n:Nat):n%65536<65536:=Nat.mod_lt _ (by decide)
theorem vN (q:Nat) (h:aN) (fm tp fi ti:Nat) (ld:List UInt8) (w:World) (hA:HAt w q h) (hfm:fm<65536) (htp:tp<65536) (hfi:fi<4294967296) (hti:ti<4294967296) (hld:ld.length≤1048576):
 Calls Tryz.prog 81 #[.pointer (some ⟨q,0,none⟩),.agg #[.int .u16 (fm:Int),.int .u16 (tp:Int),.string (bs ld)],.int .u32 (fi:Int),.int .u32 (ti:Int)] w fun e w'=>e= .returned (.string (bs (h.wrap fm tp ld fi ti).2))∧HAt w' q (h.wrap fm tp ld fi ti).1∧Fr (aH q) w w':=by
 have hu:=Ei h.id
 have hi:(h.id+1)%65536<65536:=oT _
 unfold aN.wrap
 dsimp only
 generalize(h.id+1)%65536=i at*
 have hql:=hA.bk.lt
 refine en Tryz.func81 Tryz.ntmps81 ?_
 refine W ?_
 refine sA ?_
 intro w1 hU f1
 replace hA:=hA.none f1
 have hB:=hA.bk
 refine W ?_
 refine sK (gN {h with id:=i}) hB ?_
 intro w2 hB f2
 have hqu:q≠w.heap.size:=Nat.ne_of_lt hql
 replace hA:=hA.put hB f2 {hA.ok with id:=hi}
 replace hU:=hU.keep f2 (fun e=>hqu e.symm)
 have f:=(f1.of_no (aH q)).trans f2
 clear hB f1 f2 hu
 refine W ?_
 refine sC (wD fm tp fi ti ld _ hfm htp hfi hti (by omega)) ?_
 intro w3 f3
 generalize hp1:mE fm tp fi ti ld=p1 at*
 replace hA:=hA.none f3
 replace f:=f.none f3
 have hB:=hA.bk
 refine W ?_
 have h9:((9:UInt8).toNat:Int)=9:=rfl
 have h17:((17:UInt8).toNat:Int)=17:=rfl
 have hl1:p1.1.length≤9223372036854775807:=by rw[←hp1];have:=oX fm tp fi ti ld;omega
 refine sC (Ap i fi ti 9 17 p1.1 _ hi hfi hti hl1) ?_
 intro w4 f4
 have hl2:=AP i 9 17 fi ti p1.1
 generalize Br i 9 17 fi ti p1.1=p2 at*
 replace hA:=hA.none f4
 replace f:=f.none f4
 have c0:=hA.gl.card.2 0 _ rfl
 have c1:=hA.gl.card.2 1 _ rfl
 have c2:=hA.gl.card.2 2 _ rfl
 have c3:=hA.gl.card.2 3 _ rfl
 have c4:=hA.gl.card.2 4 _ rfl
 have c5:=hA.gl.card.2 5 _ rfl
 have d0:=hA.gl.other.2 0 _ rfl
 have d1:=hA.gl.other.2 1 _ rfl
 have d2:=hA.gl.other.2 2 _ rfl
 have d3:=hA.gl.other.2 3 _ rfl
 have d4:=hA.gl.other.2 4 _ rfl
 have d5:=hA.gl.other.2 5 _ rfl
 clear hB
 refine W ?_
 refine sC (kU 2048 p2.1 2 0 0 0 0 42 2 0 0 0 0 7 w4 (by decide) (by omega)) ?_
 intro w5 f5
 refine W ?_
 exact⟨rfl,hA.none f5,f.none f5⟩
end Go.Proofs.YtcbkaiakdhiloaaGreatDoor
namespace Go.Proofs.YtcbkaiakdhiloaaGreatDoor
open Go.RowKit Go.Proofs
attribute [local go_sem] aE aC aB aD
attribute [local simp] ibq ibn eqN ltN leN eqL ltL gtL leL geL
theorem BZ (x:List UInt8):(dH x).Ok:=by
 refine⟨⟨by show 1≤6;decide,by show 6≤20;decide,rfl⟩,(show([107,101,114,110,101,108]:List UInt8).all eP=true by decide),?_,by show cH≠rF;decide,by show cH.1.toNat%2≠1;decide⟩
 refine⟨⟨?_,?_⟩,⟨?_,?_⟩,⟨?_,?_⟩,⟨?_,?_⟩,?_,?_⟩<;>simp[dH]
theorem Gv (x ts:List UInt8) (A:Option Addr) (cap:Nat) (frames:List (List UInt8)) (w:World) (hAl:∀w:World,Glb w→Fd w→Calls Tryz.prog 10 #[] w fun e w'=>e= .returned (.bool true)∧Fr noB w w') (hG:Glb w) (hK:Fd w) (hr:SlR w noB 1 A frames.length (txV frames)) (hff:∀f∈frames,f.length≤4611686018427387904) (htl:ts.length≤4611686018427387904):
 Calls Tryz.prog 4 #[.string (bs x),.slice A frames.length cap,.string (bs ts)] w fun e w'=>e= .returned (.bool true)∧Fr noB w w':=by
 obtain⟨n,hn⟩:∃n,frames.length=n:=⟨_,rfl⟩
 have HN:=Lib.hid hn
 rw[hn]at hr⊢
 refine en Tryz.func4 Tryz.ntmps4 ?_
 by_cases hx:4000<x.length
 ·refine W ?_
  exact⟨rfl,Fr.refl _ _⟩
 by_cases h16:16384<n
 ·refine W ?_
  exact⟨rfl,Fr.refl _ _⟩
 refine W ?_
 refine sC (hAl w hG hK) ?_
 intro w1 f1
 replace hG:=hG.keep f1 fun _ _=>id
 replace hK:=hK.keep f1 fun _ _=>id
 replace hr:=hr.keep f1
 refine W ?_
 refine sC (tZ x 16 2 w1 (by omega) hG hK.card) ?_
 intro w2 f2
 replace hG:=hG.keep f2 fun _ _=>id
 replace hK:=hK.keep f2 fun _ _=>id
 replace hr:=hr.keep f2
 replace f1:=f1.none f2
 clear f2
 refine W ?_
 refine sA ?_
 intro w3 hB f3
 refine W ?_
 unfold CZ
 refine sT ?_
 intro w4 hB f4
 replace f4:=aZ f3 (Nat.le_refl _) f4
 have hgg:=hB.lt
 have hgk:w.heap.size≤w2.heap.size:=f1.size
 obtain⟨g,hge⟩:∃g,w2.heap.size=g:=⟨_,rfl⟩
 rw[hge]at hB hgg hgk⊢
 have hgG:∀b,b<w.heap.size→b≠g:=fun b h e=>by omega
 have hgl:∀b,glB b→b≠g:=fun b h e=>by have:=qY hG b h;omega
 have hgc:∀b,glK b→b≠g:=fun b h e=>by
  have:=hK.lt
  rcases h with h|h|h|h<;>omega
 have hgr:∀a,A=some a→0<n→a.block≠g:=fun a ha h0 e=>by
  obtain⟨a',h1,h2,_⟩:=hr.2 h0
  rw[ha]at h1
  obtain rfl:=Option.some.inj h1
  omega
 replace hG:=hG.keep f4 fun _ _=>id
 replace hK:=hK.keep f4 fun _ _=>id
 replace hr:=hr.keep f4
 replace f1:=f1.none f4
 clear f3 f4
 refine W ?_
 refine sK (CZ (dH x)) hB ?_
 intro w5 hB f5
 replace hG:=hG.keep f5 fun b h e=>hgl b h e
 replace hK:=hK.keep f5 fun b h e=>hgc b h e
 replace hr:SlR w5 noB 1 A n (txV frames):=⟨hr.1,fun h0=>by
  obtain⟨a,h1,h2,h3,h4⟩:=hr.2 h0
  exact⟨a,h1,Nat.lt_of_lt_of_le h2 f5.size,h3,fun j v hv=>(f5.cell (by rw[gI];exact h2) (by rw[gI];exact hgr a h1 h0)).trans (h4 j v hv)⟩⟩
 replace f1:Fr noB w w5:=aZ f1 hgk f5
 have hcok:=BZ x
 have hgg:g<w5.heap.size:=hB.lt
 clear f5 hge hgl hgr
 have hB2:=Lib.hid hB
 unfold CZ dH at hB
 dsimp only at hB
 have c0:=hB.cell 0
 have c1:=hB.cell 1
 have c2:=hB.cell 2
 have c3:=hB.cell 3
 have c4:=hB.cell 4
 have c5:=hB.cell 5
 have c6:=hB.cell 6
 have c7:=hB.cell 7
 have c8:=hB.cell 8
 have c9:=hB.cell 9
 have c10:=hB.cell 10
 have c11:=hB.cell 11
 have c12:=hB.cell 12
 clear hB
 refine W ?_
 clear c0 c1 c2 c3 c4 c5 c6 c7 c8 c9 c10 c11 c12
 have hB:=hB2.out
 clear hB2
 have hc:=BG (dH x) w5 hG hcok
 refine sX hc ?_
 rintro e w6 ⟨p,rfl,hM,f6⟩
 refine⟨_,rfl,?_⟩
 clear hc
 obtain⟨Y,hY⟩:∃Y:Nat→Prop,Y=fun b=>b<w5.heap.size:=⟨_,rfl⟩
 rw[←hY]at hM
 have F0:SY Y g:=by subst hY;exact⟨hgg,hK.lt.1⟩
 have B:SB Y p g A frames (dH x) (rH (dH x)) w6:=by
  refine⟨hM,hB.keep f6 id,?_,(hK.keep f6 fun _ _=>id).card⟩
  have h1:=hr.keep f6
  rw[HN.out]
  refine⟨h1.1,fun h0=> ?_⟩
  obtain⟨a,h2,h3,_,h4⟩:=h1.2 h0
  obtain⟨a',h5,h6,_⟩:=hr.2 h0
  rw[h2]at h5
  obtain rfl:=Option.some.inj h5
  exact⟨a,h2,h3,fun hx=>hx (by rw[hY];exact h6),h4⟩
 have hI:Cj (dH x).cfg 0 (rH (dH x)):=⟨rfl,rfl,rfl,Int.le_refl _,(fun h=>by cases h),(fun h=>by rcases h with h|h<;>cases h),fun e he=>absurd he List.not_mem_nil⟩
 replace f6:Fr (vV Y) w5 w6:=f6.of_no _
 have hend:∀w',Fr (vV Y) w5 w'→Fr noB w w':=fun w' f=>f1.trans' f fun b hb ho=>ho (by rw[hY];have:=f1.size;show b<_;omega)
 clear hG hK hr f1 hB hcok hgG hgc hY hM hgg hgk
 refine W ?_
 rw[←HN.out]
 rw[←HN.out]at h16
 replace h16:=Nat.le_of_not_lt h16
 clear HN hn n
 refine cL (fun i=>frames.length-i.1) (fun(i:Nat×St)=>[(2,.string (bs ts)),(7,.pointer (some ⟨g,0,none⟩)),(8,.pointer (some ⟨p,0,none⟩)),(10,.string (bs (if i.2.phase=3 then i.2.image else []))),(49,.slice A frames.length cap),(50,.int .i64 (frames.length:Int)),(51,.int .i64 (i.1:Int))])
  (fun i w'=>i.1≤frames.length∧SB Y p g A frames (dH x) i.2 w'∧Cj (dH x).cfg i.1 i.2∧Fr (vV Y) w5 w')
  (0,rH (dH x)) (mt (p:=True) trivial).1 ⟨Nat.zero_le _,B,hI,f6⟩ ?_
 clear B hI f6
 rintro⟨k,s⟩ u w7 ⟨hk,B,hI,f⟩
 dsimp only at hk B hI⊢
 by_cases hlt:k<frames.length
 rotate_left
 ·refine W ?_
  exact⟨rfl,hend _ f⟩
 refine cZ ?_
 refine W ?_
 refine uZ ?_
 refine cZ ?_
 refine W ?_
 refine uZ ?_
 refine cS ?_
 refine Mw _ (fun K u hp hK=>DS p g A cap k frames ts x s w7 F0 B hI hlt h16 hff htl K u hp hK) ?_
 rintro t u w8 ⟨B,hI,f8⟩
 have i1:IntKind.i64.wrap ((k:Int)+1)=((k+1:Nat):Int):=(IntWalk.i64_in _ (by omega)).trans (by omega)
 refine tN ?_
 refine W ?_
 exact⟨(k+1,t),(mt (p:=True) trivial).1,⟨hlt,B,hI,f.trans f8⟩,by dsimp only;omega⟩
end Go.Proofs.YtcbkaiakdhiloaaGreatDoor
namespace Go.Proofs.YtcbkaiakdhiloaaGreatDoor
open Go.RowKit Go.Proofs
attribute [local go_sem] aE aC aB aD
attribute [local simp] ibq ibn eqN ltN leN eqL ltL gtL leL geL
def KX (l:List Int):List Value:=l.map fun x=> .int .i64 x
structure jH (w:World) (g:Nat) (A:Option Addr) (cap:Nat) (d:cD):Prop where
 bk:Bk w g 80 #[.slice A d.loss.length cap,.int .i64 (d.n:Int),.int .i64 (d.lost:Int),.int .i64 d.was.now,.int .i64 (d.was.lease:Int),.int .i64 (d.was.phase:Int),.int .u32 (d.was.address:Int),.int .i64 d.was.boots,.int .i64 (d.was.bytes:Int),.int .i64 d.was.lost,.int .i64 (d.was.cached:Int)]
 row:SlR w (aH g) 1 A d.loss.length (KX d.loss)
 len:d.loss.length≤1048576
theorem jH.keep {w w':World} {g cap:Nat} {A:Option Addr} {d:cD} {S:Nat→Prop} (h:jH w g A cap d) (hf:Fr S w w') (hg:¬S g) (hA:∀a,A=some a→¬S a.block):jH w' g A cap d:=by
 refine⟨h.bk.keep hf hg,⟨h.row.1,fun hn=> ?_⟩,h.len⟩
 obtain⟨ad,e,hb,h1,hc⟩:=h.row.2 hn
 refine⟨ad,e,Nat.lt_of_lt_of_le hb hf.size,h1,fun j u hu=>(hf.cell ?_ ?_).trans (hc j u hu)⟩
 ·rw[gI];exact hb
 ·rw[gI];exact hA ad e
theorem jH.none {w w':World} {g cap:Nat} {A:Option Addr} {d:cD} (h:jH w g A cap d) (hf:Fr noB w w'):jH w' g A cap d:=h.keep hf id fun _ _=>id
theorem BW {Y:Nat→Prop} (p g:Nat) (A:Option Addr) (cap:Nat) (s:St) (d:cD) (w:World) (hM:MX Y p s w) (hL:jH w g A cap d) (hY:Y g) (hG:¬glB g) (hn:d.n<4611686018427387904) (hlo:d.lost≤4):
 Calls Tryz.prog 23 #[.pointer (some ⟨g,0,none⟩),.pointer (some ⟨p,0,none⟩)] w fun e w'=>e= .returned (.bool (d.gone s).2)∧jH w' g A cap (d.gone s).1∧Fr (aH g) w w':=by
 obtain⟨r,hr⟩:∃r,d.gone s=r:=⟨_,rfl⟩
 rw[hr]
 unfold cD.gone at hr
 dsimp only at hr
 have hB:=hL.bk
 have hgl:=hB.lt
 have hrow:=hL.row
 have hlen:=hL.len
 obtain⟨x,hx⟩:∃x,d.seen s.look=x:=⟨_,rfl⟩
 rw[hx]at hr
 obtain⟨loss,n,lost,⟨vnow,vl,vp,va,vb,vby,vlo,vc⟩⟩:=d
 dsimp only at hB hn hlo hrow hlen
 obtain⟨n1,hn1⟩:∃n1,n+1=n1:=⟨_,rfl⟩
 have eN:IntKind.i64.wrap ((n:Int)+1)=(n1:Int):=(IntWalk.i64_in _ (by omega)).trans (by omega)
 unfold cD.seen at hx
 dsimp only at hx
 rw[hn1]at hx
 have hnb:n1≤4611686018427387904:=by omega
 clear hL
 refine en Tryz.func23 Tryz.ntmps23 ?_
 refine W ?_
 refine sK #[.slice A loss.length cap,.int .i64 (n1:Int),.int .i64 (lost:Int),.int .i64 vnow,.int .i64 (vl:Int),.int .i64 (vp:Int),.int .u32 (va:Int),.int .i64 vb,.int .i64 (vby:Int),.int .i64 vlo,.int .i64 (vc:Int)] hB ?_
 intro w1 hB f
 replace hrow:=hrow.keep f
 replace hM:=hM.keep f (fun b e=>by obtain rfl:b=g:=e;exact hY) (fun b hb e=>by obtain rfl:b=g:=e;exact hG hb)
 clear hn1 eN hn
 refine V ?_
 refine cS ?_
 refine cM [0,1,4] [] (fun w'=>jH w' g A cap x∧Fr (aH g) w w') ?_ ?_
 ·have hc:=iB hM
  unfold Aj at hc
  unfold St.look cD.news at hx
  dsimp only at hx
  obtain⟨bl,hbl⟩:∃b,b=(decide (s.lease≠vl)||decide (s.phase≠vp)||decide (s.image.length≠vby)||decide (s.cache.length≠vc)):=⟨_,rfl⟩
  rw[←hbl]at hx
  generalize s.now=l0 at*
  generalize s.lease=l1 at*
  generalize s.phase=l2 at*
  generalize s.address=l3 at*
  generalize s.boots=l4 at*
  generalize s.image.length=l5 at*
  generalize s.lost=l6 at*
  generalize s.cache.length=l7 at*
  refine W ?_
  refine sC hc ?_
  intro w2 f2
  clear hc hr
  refine W ?_
  refine sA ?_
  intro w3 hE f3
  refine W ?_
  refine sT ?_
  intro w4 hE f4
  replace f4:=f2.none (aZ f3 (Nat.le_refl _) f4)
  have hne:w2.heap.size≠g:=by have:=f.size;have:=f2.size;omega
  generalize w2.heap.size=gl at*
  replace hB:=hB.keep f4 id
  replace hrow:=hrow.keep (f4.of_no _)
  replace f:=f.none f4
  clear f2 f3 f4 hM
  refine V ?_
  refine cS ?_
  refine cM [0,1,4,5] [(52,.bool bl)] (fun w'=>Fr noB w4 w') ?_ ?_
  ·refine dI (An hB hE) [] (up 38 0) (h:= ?_)
   rintro w5 ⟨hB,hE⟩ f5
   clear hx
   by_cases e1:l1=vl
   rotate_left
   ·obtain rfl:bl=true:=by rw[hbl];simp[e1]
    clear hbl
    refine D ?_
    refine tN ?_
    exact mt f5
   by_cases e2:l2=vp
   rotate_left
   ·obtain rfl:bl=true:=by rw[hbl];simp[e2]
    clear hbl
    subst e1
    refine D ?_
    refine tN ?_
    exact mt f5
   by_cases e3:l5=vby
   rotate_left
   ·obtain rfl:bl=true:=by rw[hbl];simp[e3]
    clear hbl
    subst e1 e2
    refine D ?_
    refine tN ?_
    exact mt f5
   by_cases e4:l7=vc
   rotate_left
   ·obtain rfl:bl=true:=by rw[hbl];simp[e4]
    clear hbl
    subst e1 e2 e3
    refine D ?_
    refine tN ?_
    exact mt f5
   ·obtain rfl:bl=false:=by rw[hbl];simp[e1,e2,e3,e4]
    clear hbl
    subst e1 e2 e3 e4
    refine D ?_
    refine tN ?_
    exact mt f5
  rintro u w5 f5
  clear hbl
  replace hB:=hB.keep f5 id
  replace hE:=hE.keep f5 id
  replace hrow:=hrow.keep (f5.of_no _)
  replace f:=f.none f5
  cases bl
  ·refine W ?_
   subst hx
   exact mt ⟨⟨hB,hrow,hlen⟩,f⟩
  ·refine W ?_
   refine sKm #[.slice A loss.length cap,.int .i64 (n1:Int),.int .i64 (lost:Int),.int .i64 l0,.int .i64 (l1:Int),.int .i64 (l2:Int),.int .u32 (l3:Int),.int .i64 l4,.int .i64 (l5:Int),.int .i64 l6,.int .i64 (l7:Int)] hB ?_
   intro w6 hB f6
   refine W ?_
   refine sK #[.slice A loss.length cap,.int .i64 (n1:Int),.int .i64 0,.int .i64 l0,.int .i64 (l1:Int),.int .i64 (l2:Int),.int .u32 (l3:Int),.int .i64 l4,.int .i64 (l5:Int),.int .i64 l6,.int .i64 (l7:Int)] hB ?_
   intro w7 hB f7
   replace f6:=f6.trans f7
   refine W ?_
   subst hx
   exact mt ⟨⟨hB,hrow.keep f6,hlen⟩,f.trans f6⟩
 rintro u w2 ⟨hL,f⟩
 have hn2:x.n≤4611686018427387904:=by rw[←hx];split<;>exact hnb
 have hl2:x.lost≤4:=by rw[←hx];split<;>dsimp only<;>omega
 clear hx hB hM hrow hlen hnb hlo
 have hB:=hL.bk
 have hrow:=hL.row
 have hlen:=hL.len
 obtain⟨loss,n,lost,was⟩:=x
 dsimp only at hB hrow hlen hn2 hl2
 clear hL
 unfold cD.hit at hr
 dsimp only at hr
 obtain⟨b,hb⟩:∃b,b=(decide (0<loss.length)&&decide ((loss.getD (n%loss.length) 0).tmod 3=0)&&decide (lost<2)):=⟨_,rfl⟩
 rw[←hb]at hr
 refine cS (cS ?_)
 refine cM [0,1,4] [(92,.bool b)] (fun w'=>Fr noB w2 w') ?_ ?_
 ·clear hr
  by_cases h0:loss.length=0
  ·obtain rfl:b=false:=by rw[hb];simp[h0]
   clear hb
   refine dI hB [] (up 33 0) (h:= ?_)
   intro w3 hB f3
   refine D ?_
   refine tN ?_
   exact mt f3
  ·obtain⟨k,hk⟩:∃k,n%loss.length=k:=⟨_,rfl⟩
   have hkl:k<loss.length:=by rw[←hk];exact Nat.mod_lt _ (by omega)
   obtain⟨ad,y,rfl,hy,hc⟩:=hrow.at_ hkl
   obtain⟨v,hv⟩:∃v,loss[k]? =some v:=⟨_,List.getElem?_eq_getElem hkl⟩
   obtain rfl: .int .i64 v=y:=by unfold KX at hy;rw[List.getElem?_map,hv]at hy;exact Option.some.inj hy
   have hgd:loss.getD k 0=v:=by rw[List.getD_eq_getElem?_getD,hv];rfl
   rw[hk,hgd]at hb
   have eT:(n:Int).tmod (loss.length:Int)=(k:Int):=by rw[Int.tmod_eq_emod_of_nonneg (by omega),←hk];rfl
   have hb1:b=(decide (v.tmod 3=0)&&decide (lost<2)):=by rw[hb,decide_eq_true (show 0<loss.length by omega)];rfl
   clear hb hk hy hv hgd hrow
   generalize loss.length=m at*
   have hm0:0<m:=by omega
   refine dI (An hB hc) [] (up 33 0) (h:= ?_)
   rintro w3 ⟨hB,hc⟩ f3
   by_cases e1:v.tmod 3=0
   rotate_left
   ·obtain rfl:b=false:=by rw[hb1];simp[e1]
    clear hb1
    refine D ?_
    refine dQ (v:= .int .i64 v) ?_ ?_
    ·intro w' hS
     have hc:=hS.2
     go_simp
    refine D ?_
    refine tN ?_
    exact mt f3
   by_cases e2:lost<2
   ·obtain rfl:b=true:=by rw[hb1];simp[e1,e2]
    clear hb1
    refine D ?_
    refine dQ (v:= .int .i64 v) ?_ ?_
    ·intro w' hS
     have hc:=hS.2
     go_simp
    refine D ?_
    refine tN ?_
    exact mt f3
   ·obtain rfl:b=false:=by rw[hb1];simp[e1,e2]
    clear hb1
    refine D ?_
    refine dQ (v:= .int .i64 v) ?_ ?_
    ·intro w' hS
     have hc:=hS.2
     go_simp
    refine D ?_
    refine tN ?_
    exact mt f3
 rintro u w3 f3
 replace hB:=hB.keep f3 id
 replace hrow:=hrow.keep (f3.of_no _)
 replace f:=f.none f3
 clear hb
 have hl1:IntKind.i64.wrap ((lost:Int)+1)=((lost+1:Nat):Int):=(IntWalk.i64_in _ (by omega)).trans (by omega)
 refine cC (fun e=> ?_) fun e=> ?_
 ·rw[if_pos e]at hr
  clear e
  refine W ?_
  refine sK #[.slice A loss.length cap,.int .i64 (n:Int),.int .i64 ((lost+1:Nat):Int),.int .i64 was.now,.int .i64 (was.lease:Int),.int .i64 (was.phase:Int),.int .u32 (was.address:Int),.int .i64 was.boots,.int .i64 (was.bytes:Int),.int .i64 was.lost,.int .i64 (was.cached:Int)] hB ?_
  intro w4 hB f4
  refine W ?_
  subst hr
  exact⟨rfl,⟨hB,hrow.keep f4,hlen⟩,f.trans f4⟩
 ·rw[if_neg (by simp[e])]at hr
  clear e
  refine cK (tN ?_)
  refine W ?_
  subst hr
  exact⟨rfl,⟨hB,hrow,hlen⟩,f⟩
end Go.Proofs.YtcbkaiakdhiloaaGreatDoor
namespace Go.Proofs.YtcbkaiakdhiloaaGreatDoor
open Go.RowKit Go.Proofs
attribute [local go_sem] aE aC aB aD gH
attribute [local simp] gN ibq ibn eqN ltN leN eqL ltL gtL leL geL
theorem sJ (q:Nat) (h:aN) (fm tp:Nat) (ld:List UInt8) (w:World) (hA:HAt w q h) (hfm:fm<65536):
 Calls Tryz.prog 84 #[.pointer (some ⟨q,0,none⟩),.agg #[.int .u16 (fm:Int),.int .u16 (tp:Int),.string (bs ld)]] w fun e w'=>∃v,e= .returned v∧w'.ownsRow w.heap.size 9 1 v (h.blocks fm).2.length (txV (h.blocks fm).2)∧HAt w' q (h.blocks fm).1∧Fr (aH q) w w':=by
 obtain⟨r,hr⟩:∃r,h.blocks fm=r:=⟨_,rfl⟩
 rw[hr]
 unfold aN.blocks at hr
 have hql:=hA.bk.lt
 have hg0:=hA.gl.lt
 refine en Tryz.func84 Tryz.ntmps84 ?_
 refine W ?_
 refine sA ?_
 intro w1 hU f1
 have hUl:=hU.lt
 replace hA:=hA.none f1
 have hB:=hA.bk
 have hok:=hA.ok
 have hbm:∀k,k≤3000000→k*h.block≤3000000*70000:=fun k hk=>Nat.mul_le_mul hk hok.block
 refine W ?_
 refine cL (fun i=>h.window-i.1) (fun(i:Nat×Nat×Value×List (List UInt8))=>[(0,.pointer (some ⟨q,0,none⟩)),(3,.pointer (some ⟨w.heap.size,0,none⟩)),(5,i.2.2.1),(6,.int .i64 ((h.sent+i.1:Nat):Int))])
  (fun i w'=>i.1≤h.window∧HAt w' q {h with id:=i.2.1}∧w'.ownsRow w1.heap.size 9 1 i.2.2.1 i.2.2.2.length (txV i.2.2.2)∧i.2.2.2.length≤i.1∧Bk w' w.heap.size 105 #[.int .u16 (fm:Int),.int .u16 (tp:Int),.string (bs ld)]∧Fr (aH q) w1 w'∧aN.blockN fm (h.window-i.1) (h.sent+i.1) {h with id:=i.2.1} i.2.2.2=r)
  (0,h.id,.slice none 0 0,[]) (mt (p:=True) trivial).1 ⟨Nat.zero_le _,hA,⟨rfl,.inl ⟨rfl,rfl⟩⟩,Nat.le_refl _,hU,Fr.refl _ _,hr⟩ ?_
 rintro⟨i,j,v,out⟩ u w2 ⟨hi,hA,hov,hol,hU,f2,hr⟩
 dsimp only at hi hA hov hol hr⊢
 have hB:=hA.bk
 have hwn:=hok.window
 have hsn:=hok.sent
 obtain⟨k,hk⟩:∃k,h.sent+i=k:=⟨_,rfl⟩
 rw[hk]at hr⊢
 have hkm:k≤2200000:=by omega
 have hb2:=hbm k (by omega)
 have hb3:=hbm (k+1) (by omega)
 have hMM:k*h.block≤(k+1)*h.block:=Nat.mul_le_mul_right _ (by omega)
 have hi1:IntKind.i64.wrap ((k:Int)+1)=((k+1:Nat):Int):=(IntWalk.i64_in _ (by omega)).trans (by omega)
 have eN:IntKind.i64.wrap ((h.sent:Int)+(h.window:Int))=((h.sent+h.window:Nat):Int):=(IntWalk.i64_in _ (by omega)).trans (by omega)
 have eM:IntKind.i64.wrap ((k:Int)*(h.block:Int))=((k*h.block:Nat):Int):=by rw[←Int.natCast_mul];exact IntWalk.i64_in _ ⟨by omega,by omega⟩
 have eM2:IntKind.i64.wrap (((k+1:Nat):Int)*(h.block:Int))=(((k+1)*h.block:Nat):Int):=by rw[←Int.natCast_mul];exact IntWalk.i64_in _ ⟨by omega,by omega⟩
 obtain⟨M,hM⟩:∃M,k*h.block=M:=⟨_,rfl⟩
 obtain⟨k1,hk1⟩:∃k1,k+1=k1:=⟨_,rfl⟩
 rw[hk1]at eM2 hi1 hb3 hMM
 obtain⟨M2,hM2⟩:∃M,k1*h.block=M:=⟨_,rfl⟩
 obtain⟨N,hN⟩:∃N,h.sent+h.window=N:=⟨_,rfl⟩
 rw[hM]at eM hb2 hMM
 rw[hM2]at eM2 hb3 hMM
 rw[hN]at eN
 have hlt:i<h.window↔k<N:=by omega
 have HK:=Lib.hid (And.intro hM (And.intro hM2 (And.intro hN (And.intro hk hk1))))
 clear hM hM2 hN hk hk1
 obtain⟨b,hb⟩:∃b,b=decide (k<N∧M≤h.image.length):=⟨_,rfl⟩
 refine cS (cS ?_)
 refine cM [0,3,5,6] [(37,.bool b)] (fun w'=>Fr noB w2 w') ?_ ?_
 ·refine dI hB [] (up 25 0) (h:= ?_)
  intro w3 hB f3
  by_cases a1:k<N<;>by_cases a2:M≤h.image.length<;>refine D ?_<;>refine tN ?_<;>subst hb<;>exact mt f3
 rintro u w3 f3
 clear hB
 replace hA:=hA.none f3
 replace hov:=eL hov f3 (fun _ _ x=>x)
 replace hU:=hU.keep f3 id
 replace f2:=f2.none f3
 refine cC (fun e=> ?_) fun e=> ?_
 rotate_left
 ·have hn:=of_decide_eq_false (hb.symm.trans e)
  have hr:(({h with id:=j}:aN),out)=r:=by
   rw[←hr]
   obtain⟨m,hm⟩:∃m,h.window-i=m:=⟨_,rfl⟩
   rw[hm]
   cases m with
   |zero=>rfl
   |succ m=>
    unfold aN.blockN
    rw[if_neg]
    intro hle
    exact hn ⟨by omega,by rw[←HK.out.1];exact hle⟩
  clear hb hn
  refine W ?_
  refine⟨v,rfl,?_⟩
  subst hr
  exact⟨⟨hov.1,hov.2.imp id fun⟨g,c,cur,h1,h2,h3⟩=>⟨g,c,cur,h1,Nat.le_trans f1.size h2,h3⟩⟩,hA,(f1.of_no _).trans f2⟩
 obtain⟨hkN,hMl⟩:=of_decide_eq_true (hb.symm.trans e)
 have hiw:i<h.window:=hlt.2 hkN
 obtain⟨m,hm⟩:∃m,h.window-i=m+1:=⟨h.window-i-1,by omega⟩
 rw[hm]at hr
 unfold aN.blockN at hr
 rw[if_pos (by show k*h.block≤h.image.length;rw[HK.out.1];exact hMl)]at hr
 dsimp only at hr
 obtain⟨m2,hm2⟩:∃m2,min h.image.length M2=m2:=⟨_,rfl⟩
 have hmin:min (h.image.length:Int) (M2:Int)=(m2:Int):=by omega
 have hm2a:M≤m2:=by omega
 have hm2b:m2≤h.image.length:=by omega
 have hpt:aN.part ({h with id:=j}:aN) k=(h.image.take m2).drop M:=by
  unfold aN.part
  show sub h.image (k*h.block) (min h.image.length ((k+1)*h.block))=_
  rw[HK.out.1,HK.out.2.2.2.2,HK.out.2.1,hm2];rfl
 rw[hpt,HK.out.2.2.2.2]at hr
 have hbk:k1%65536<65536:=oT _
 have ebk:IntKind.u16.wrap (k1:Int)=((k1%65536:Nat):Int):=by rw[IntKind.wrap_u16];omega
 generalize k1%65536=bk at*
 have hT:=hA.gl.tabs
 have hB:=hA.bk
 have hplen:((h.image.take m2).drop M).length≤1048576:=by have:=hok.image;rw[List.length_drop,List.length_take];omega
 generalize hpd:(h.image.take m2).drop M=pd at*
 clear hb e hm2 hpt hlt
 refine W ?_
 refine dI hB [] (up 34 0) (h:= ?_)
 intro w4 hB4 f4
 refine D ?_
 refine dC (lU 3 bk [] pd [] none 0 w4 (by decide) hbk SlR.nil (Nat.zero_le _) (Nat.zero_le _) (Nat.zero_le _) hplen (hT.none f4)) ?_ ?_
 ·intro w' f'
  exact hB4.keep f' id
 intro w5 f5 hB5
 have hx0:=nE ⟨3,bk,[],pd,[]⟩
 generalize cJ ⟨3,bk,[],pd,[]⟩=x0 at*
 refine D ?_
 refine W ?_
 replace f5:=f4.none f5
 replace hA:=hA.none f5
 replace hov:=eL hov f5 (fun _ _ x=>x)
 replace hU:=hU.keep f5 id
 replace f2:=f2.none f5
 have hw1:=f2.size
 clear hB hB4 hB5 f5 f4 hpd hplen
 obtain⟨A,c2,rfl,_⟩:=eD hov
 refine dI (An hA.bk (An hU hA)) [14,15,16] (up 18 0) (h:= ?_)
 rintro w6 ⟨hB6,hU6,hA6⟩ f6
 replace hov:=eL hov f6 (fun _ _ x=>x)
 replace f2:=f2.none f6
 have hql2:=hB6.lt
 refine D ?_
 refine dD (vN q _ h.port fm h.next 167772215 x0.1 w6 hA6 hok.port hfm hok.next (by decide) (by omega)) ?_
 rintro w7 ⟨hA7,f7⟩
 replace hov:=eL hov f7 (fun b hb e=>by have e':b=q:=e;omega)
 replace hU:=hU6.keep f7 (fun e=>by have e':w.heap.size=q:=e;omega)
 replace f2:=f2.trans f7
 have hr:aN.blockN fm m k1 (aN.wrap ({h with id:=j}:aN) h.port fm x0.1 h.next 167772215).1 (out++[(aN.wrap ({h with id:=j}:aN) h.port fm x0.1 h.next 167772215).2])=r:=hr
 obtain⟨j2,hj2⟩:∃j2,(aN.wrap ({h with id:=j}:aN) h.port fm x0.1 h.next 167772215).1=({h with id:=j2}:aN):=⟨_,rfl⟩
 rw[hj2]at hr hA7
 generalize(aN.wrap ({h with id:=j}:aN) h.port fm x0.1 h.next 167772215).2=fx at*
 clear hA hA6 hB6 hU6 hj2 f7 f6
 refine D ?_
 refine dA ?_
 intro w8 hE f8
 replace hA7:=hA7.none f8
 replace hov:=eL hov f8 (fun _ _ x=>x)
 replace hU:=hU.keep f8 id
 refine D ?_
 refine dAp (hi:=GM) hov (SlR.of_bk (S:=noB) hE id rfl) (by simp[Value.oneCell']) Tryz.underlying41 (by unfold maxLen;omega) (by omega) (Nat.le_trans f2.size f8.size) ?_
 intro A' cap' w9 ha
 refine⟨nofun,?_⟩
 refine D ?_
 refine W ?_
 have hge:∀b,(∃a,A=some a∧a.block=b)→w1.heap.size≤b:=fun b ⟨a,hA,e⟩=>e▸(hov.lt _ (by rw[hA];rfl)).1
 have f9:=ha.fr
 have hk1:h.sent+(i+1)=k1:=by have:=HK.out;omega
 have hm1:h.window-(i+1)=m:=by omega
 have hq9:¬∃a,A=some a∧a.block=q:=fun x=>absurd (hge _ x) (by omega)
 have hgl:∀b,glK b→¬∃a,A=some a∧a.block=b:=fun b hb x=>by
  have h1:=hge _ x
  have h2:b<w.heap.size:=by
   rcases hb with rfl|rfl|rfl|rfl
   ·exact hg0.1
   ·exact hg0.2.1
   ·exact hg0.2.2.1
   ·exact hg0.2.2.2
  omega
 refine⟨(i+1,j2,.slice A' (out.length+1) cap',out++[fx]),?_,⟨by dsimp only;omega,⟨hA7.bk.keep f9 hq9,hA7.gl.keep f9 hgl,hA7.gq,hA7.ok⟩,?_,?_,?_,?_,?_⟩,by dsimp only;omega⟩
 ·dsimp only
  rw[hk1]
  exact(mt (p:=True) trivial).1
 ·dsimp only
  unfold txV
  rw[List.length_append,List.map_append]
  exact ha.own
 ·dsimp only
  rw[List.length_append];simp;omega
 ·exact hU.keep f9 fun x=>absurd (hge _ x) (by omega)
 ·exact(f2.none f8).trans' f9 fun b hb x=>absurd (hge _ x) (by omega)
 ·dsimp only
  rw[hk1,hm1];exact hr
end Go.Proofs.YtcbkaiakdhiloaaGreatDoor
namespace Go.Proofs.YtcbkaiakdhiloaaGreatDoor
open Go.RowKit Go.Proofs
attribute [local go_sem] aE aC aB aD
theorem uY (rp:Bool) (xid client yours next:Nat) (m0 m1 m2 m3 m4 m5:UInt8) (os:List bK) (Ao:Option Addr) (cap:Nat) (w:World)
 (hxid:xid<4294967296) (hcl:client<4294967296) (hyo:yours<4294967296) (hnx:next<4294967296) (hA:SlR w noB 2 Ao os.length (fN os)) (hwt:wtO os≤2097152):
 Calls Tryz.prog 79 #[.agg #[.bool rp,.int .u32 (xid:Int),.int .u32 (client:Int),.int .u32 (yours:Int),.int .u32 (next:Int),.int .u8 (m0.toNat:Int),.int .u8 (m1.toNat:Int),.int .u8 (m2.toNat:Int),.int .u8 (m3.toNat:Int),.int .u8 (m4.toNat:Int),.int .u8 (m5.toNat:Int),.slice Ao os.length cap]] w (fH (fV rp xid client yours next [m0,m1,m2,m3,m4,m5] os) w):=by
 have hpa:=(Bk.new w 154 #[.bool rp,.int .u32 (xid:Int),.int .u32 (client:Int),.int .u32 (yours:Int),.int .u32 (next:Int),.int .u8 (m0.toNat:Int),.int .u8 (m1.toNat:Int),.int .u8 (m2.toNat:Int),.int .u8 (m3.toNat:Int),.int .u8 (m4.toNat:Int),.int .u8 (m5.toNat:Int),.slice Ao os.length cap]).cells
 have hf0:Fr noB w (w.alloc (.cells #[.bool rp,.int .u32 (xid:Int),.int .u32 (client:Int),.int .u32 (yours:Int),.int .u32 (next:Int),.int .u8 (m0.toNat:Int),.int .u8 (m1.toNat:Int),.int .u8 (m2.toNat:Int),.int .u8 (m3.toNat:Int),.int .u8 (m4.toNat:Int),.int .u8 (m5.toNat:Int),.slice Ao os.length cap] 154)):=(Fr.refl _ _).alloc _
 have hA1:=hA.keep hf0
 go_enter Tryz.func79,Tryz.ntmps79
 go_wp2_with fail
 refine(vZ rp xid client yours next m0 m1 m2 m3 m4 m5 os Ao cap _ hxid hcl hyo hnx hA1 hwt).mono ?_
 rintro e w2 ⟨rfl,hf2⟩
 generalize fV rp xid client yours next [m0,m1,m2,m3,m4,m5] os=R at*
 go_wp2_with fail
 go_ret2
 exact⟨rfl,hf0.none hf2⟩
end Go.Proofs.YtcbkaiakdhiloaaGreatDoor
namespace Go.Proofs.YtcbkaiakdhiloaaGreatDoor
open Go.RowKit Go.Proofs
attribute [local go_sem] aE aC aB aD
theorem xF (l:List UInt8) (w:World) (hl:l.length≤1099511000000):
 Calls Tryz.prog 77 #[.string (bs l)] w (EQ l w):=by
 go_enter Tryz.func77,Tryz.ntmps77
 go_wp2_with fail
 have hx0:=Bk.new w 154 (rdZ 4)
 have hf0:Fr noB w (w.alloc (.cells (rdZ 4) 154)):=(Fr.refl _ _).alloc _
 have hsz:(w.alloc (.cells (rdZ 4) 154)).heap.size=w.heap.size+1:=by simp
 simp only[rdZ]at hx0 hf0 hsz
 generalize w.alloc (.cells #[.bool false,.int .u32 0,.int .u32 0,.int .u32 0,.int .u32 0,.int .u8 0,.int .u8 0,.int .u8 0,.int .u8 0,.int .u8 0,.int .u8 0,.slice none 0 0] 154)=w1 at*
 have Hsz:=Lib.hid hsz
 clear hsz
 refine(Bt l w1 hl).mono ?_
 rintro e w2 ⟨⟨A,cap,rfl,hA⟩,hf1⟩
 have hx1:=hx0.keep hf1 (fun x=>x)
 generalize hr:aS l=r at*
 have Hr:=Lib.hid hr
 clear hr
 have hin:=Lib.hid (Ba r.1 A cap)
 have hon:=Lib.hid (uS r.1 A cap)
 have hsz:=Lib.hid (pK r.1 A cap)
 generalize hc:yC r.1 A cap=c at*
 have Hc:=Lib.hid hc
 clear hc
 go_wp2_with ((refine aJ rfl 154 (.tmp 2) (.tmp 6) rfl w.heap.size _ _ c rfl rfl hx1 hsz.out hin.out hon.out ?_);intro w9 hx9 hf9)
 refine bodyPost_ret (aR Tryz.results77 _ w9 w.heap.size _ c _ _ rfl rfl hx9 Tryz.underlying154 rfl hin.out) rfl ?_
 refine⟨⟨A,cap,by rw[Hr.out,Hc.out];rfl,?_⟩,(hf0.none hf1).trans' hf9 (fun b hb e=>by unfold aH at e;omega)⟩
 rw[Hr.out]
 exact(hA.keep (hf9.mono fun b hb e=>by unfold aH at e;have:=Hsz.out;omega)).sub (fun b hb h=>by have:=Hsz.out;omega)
end Go.Proofs.YtcbkaiakdhiloaaGreatDoor
