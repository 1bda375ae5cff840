/- Parts of the walk; written by programs, merged. -/
import Derived.Test.YtcbkaiakdhiloacGreatDoorRaw
set_option linter.unusedSimpArgs false
set_option linter.unusedVariables false
set_option maxRecDepth 20000
set_option maxHeartbeats 8000000
namespace Go.Proofs.YtcbkaiakdhiloacGreatDoor
open Go.RowKit Go.Proofs
attribute [local go_sem] aG aD aC aE gK
attribute [local simp] gW ibq ibn eqN ltN leN eqL ltL gtL leL geL
theorem EL (w bk:Nat):∀(m s:Nat),aK.gotN w bk m s≤s+w
 |0,s=>by unfold aK.gotN;omega
 |m+1,s=>by
  unfold aK.gotN
  split
  ·omega
  ·exact EL w bk m s
theorem mN:∀(k f n:Nat),n<10^(k+1)→(wN f n).length≤k+1
 |_,0,_,_=>Nat.zero_le _
 |0,f+1,n,h=>by
  unfold wN
  rw[if_pos (by omega)];simp
 |k+1,f+1,n,h=>by
  unfold wN
  split
  ·simp
  ·rw[List.length_append]
   have:=mN k f (n/10) (by rw[Nat.pow_succ]at h;omega)
   simp;omega
section
variable {P:Program} {opl:List Oper} {Q:Exit→Act→World→Prop} {n:Nat} {u:Nat→Value} {l:List (Nat×Value)} {w:World} {o:Oper} {v:Value} {k:Nat} {c:Bool} {S:World→Prop} {brk t:List Nat}
theorem dK {c':Bool} {r:Result Next} {t':TypeId} {g i:Nat} {cs:Array Value} (cs':Array Value) (hB:Bk w g t' cs) (h:∀w',Bk w' g t' cs'→Fr (aI g) w w'→(c'=true→S w')∧wdr P opl Q S brk c' t (F n u l) w') (hk:Nat.blt k 1000=true:=by rfl) (h0:kdO opl k=2:=by rfl) (ho:opl[k]? =some o:=by rfl) (hw:Region.wanted o (yielded opl.toArray (F n u l).tmps)=true:=by first|exact aR rfl|exact wg rfl rfl rfl|(refine aP rfl (aO (Lib.hid rfl) rfl) ?_;go_simp<;>fail)) (hd:o.dst=none:=by rfl)
 (hb:(c&& !(brk.contains k))=c':=by rfl) (hv:(∀j,w.cell? ⟨g,j,none⟩=cs[j]?)→(∀j,w.frozen? ⟨g,j,none⟩=false)→(execOp (F n u l).eval o).run P w=r:=by intro _ _;go_simp;((try with_reducible rfl);done)) (hr:r= .ok .skip (w.setCell ⟨g,i,none⟩ v):=by rfl) (he:cs.setIfInBounds i v=cs':=by rfl):wdr P opl Q S brk c (k::t) (F n u l) w:=
 dEf hk h0 ho hw hb fun K hK=>by
  have h2:=h _ (he▸hB.set i v) ((Fr.refl (aI g) w).setCell (p:=⟨g,i,none⟩) (fun _=>rfl) v)
  unfold Oper.wp
  rw[hv hB.cells hB.frees,hr]
  show K ((F n u l).put o.dst undef) _
  rw[hd]
  exact hK _ _ h2.1 h2.2
end
theorem Gu (q:Nat) (h:aK) (fm tp:Nat) (ld:List UInt8) (m:tK) (A:Option Addr) (cap:Nat) (w:World) (hA:HAt w q h) (hfm:fm<65536) (hmb:m.block<65536) (hS:SlR w (aI q) 2 A m.fs.length (gJ m.fs)) (hfl:wtF m.fs≤1048576)
 (hb:0≤cH St.bNm m.fs∧cH St.bNm m.fs≤70000) (hw:0≤cH St.wNm m.fs∧cH St.wNm m.fs≤70000) (hs:h.sent+h.window≤2097152):
 Calls Tryz.prog 57 #[.pointer (some ⟨q,0,none⟩),.agg #[.int .u16 (fm:Int),.int .u16 (tp:Int),.string (bs ld)],.agg #[.int .u16 (m.op:Int),.int .u16 (m.block:Int),.string (bs m.text),.string (bs m.data),.slice A m.fs.length cap]] w fun e w'=>∃v,e= .returned (.tuple #[v,.bool (h.tftp ⟨fm,tp,ld⟩ m).2.2])∧w'.ownsRow w.heap.size 9 1 v (h.tftp ⟨fm,tp,ld⟩ m).2.1.length (txV (h.tftp ⟨fm,tp,ld⟩ m).2.1)∧HAt w' q (h.tftp ⟨fm,tp,ld⟩ m).1∧Fr (aI q) w w':=by
 obtain⟨r,hr⟩:∃r,h.tftp ⟨fm,tp,ld⟩ m=r:=⟨_,rfl⟩
 rw[hr]
 unfold aK.tftp at hr
 have hql:=hA.bk.lt
 obtain⟨op,bk,tx,dt,fs⟩:=m
 dsimp only at hr hmb hS hfl hb hw⊢
 refine en Tryz.func57 Tryz.ntmps57 ?_
 refine W ?_
 refine sA ?_
 intro w1 hU f1
 refine W ?_
 refine sA ?_
 intro w2 hM f2
 have hUl:=hU.lt
 replace hU:=hU.keep f2 id
 have f:=f1.none f2
 replace hA:=hA.none f
 replace hS:=hS.keep (f.of_no _)
 have hq1:w.heap.size≤w1.heap.size:=f1.size
 generalize w1.heap.size=gm at*
 generalize hgu:w.heap.size=gu at*
 have hguq:gu≠q:=by omega
 have hgmq:gm≠q:=by omega
 have hok:=hA.ok
 by_cases h1:op=1
 ·subst h1
  rw[if_pos rfl]at hr
  unfold aK.ask at hr
  dsimp only at hr
  have hp:=Fm h.port
  have hp1:(h.port+1)%65536<65536:=pK _
  generalize(h.port+1)%65536=p1 at*
  refine W ?_
  have hB:=hA.bk
  refine W ?_
  refine sK (gW {h with port:=p1}) hB ?_
  intro w3 hB f3
  replace hA:=hA.put hB f3 {hok with port:=hp1}
  replace hU:=hU.keep f3 hguq
  replace hM:=hM.keep f3 hgmq
  replace hS:=hS.keep f3
  replace f:=(f.of_no (aI q)).trans f3
  clear f1 f2 f3 hp
  refine W ?_
  refine sK (gW {h with port:=p1,sent:=0}) hB ?_
  intro w4 hB f4
  replace hA:=hA.put hB f4 {hok with port:=hp1,sent:=Nat.zero_le _}
  replace hU:=hU.keep f4 hguq
  replace hM:=hM.keep f4 hgmq
  replace hS:=hS.keep f4
  replace f:=f.trans f4
  clear f4
  refine W ?_
  refine sK (gW {h with port:=p1,sent:=0,last:= -1}) hB ?_
  intro w5 hB f5
  replace hA:=hA.put hB f5 {hok with port:=hp1,sent:=Nat.zero_le _}
  replace hU:=hU.keep f5 hguq
  replace hM:=hM.keep f5 hgmq
  replace hS:=hS.keep f5
  replace f:=f.trans f5
  clear f5
  obtain⟨bn,hbn⟩:=Int.eq_ofNat_of_zero_le hb.1
  obtain⟨wn,hwn⟩:=Int.eq_ofNat_of_zero_le hw.1
  rw[hbn]at hb hr
  rw[hwn]at hw hr
  dsimp only[Int.toNat_natCast]at hr
  have hb2:bn≤70000:=by omega
  have hw2:wn≤70000:=by omega
  have hfn:=oD fs
  have hN1:=fun w' (k:SlR w' (aI q) 2 A fs.length (gJ fs))=>tT A fs.length cap fs St.bNm w' (k.sub (fun _ _ x=>x.elim)) (by omega) (by omega)
  have hN2:=fun w' (k:SlR w' (aI q) 2 A fs.length (gJ fs))=>tT A fs.length cap fs St.wNm w' (k.sub (fun _ _ x=>x.elim)) (by omega) (by omega)
  rw[hbn]at hN1
  rw[hwn]at hN2
  clear hb hw hbn hwn
  obtain⟨h',hh⟩:∃h',h'={h with port:=p1,sent:=0,last:= -1,block:=bn,window:=wn}:=⟨_,rfl⟩
  refine W ?_
  refine cM [0,4,5,6,7] [] (fun w'=>HAt w' q h'∧Bk w' gu 57 #[.int .u16 (fm:Int),.int .u16 (tp:Int),.string (bs ld)]∧Bk w' gm 123 #[.int .u16 ((1:Nat):Int),.int .u16 (bk:Int),.string (bs tx),.string (bs dt),.slice A fs.length cap]∧Fr (aI q) w w') ?_ ?_
  ·refine dI (An hA.bk (An hA (An hU (An hM (An hS f))))) [10,13] [0,1,2,3,5,6,4,7,8,9,10,11,12,13] (h:= ?_)
   intro w6 hS _
   have hB:=hS.1
   have hM:=hS.2.2.2.1
   refine D ?_
   refine dQc (hN1 _ hS.2.2.2.2.1) hS ?_
   intro w7 f7 hS
   refine D ?_
   refine dQc (hN2 _ hS.2.2.2.2.1) hS ?_
   intro w8 f8 hS
   obtain⟨hB,hA,hU,hM,hS,f⟩:=hS
   refine D ?_
   refine dK (gW {h with port:=p1,sent:=0,last:= -1,block:=bn}) hB ?_
   intro w9 hB f9
   refine⟨nofun,?_⟩
   replace hA:=hA.put hB f9 {hok with port:=hp1,sent:=Nat.zero_le _,block:=hb2}
   refine D ?_
   refine dK (gW {h with port:=p1,sent:=0,last:= -1,block:=bn,window:=wn}) hB ?_
   intro w10 hB f10
   refine⟨nofun,?_⟩
   replace hA:=hA.put hB f10 {hok with port:=hp1,sent:=Nat.zero_le _,block:=hb2,window:=hw2}
   refine D ?_
   refine tN ?_
   subst hh
   replace f9:=f9.trans f10
   exact mt ⟨hA,hU.keep f9 hguq,hM.keep f9 hgmq,f.trans f9⟩
  rintro u w6 ⟨hA,hU,hM,f⟩
  have hw6:=f.size
  have hB:=hA.bk
  clear hN1 hN2 hS
  obtain⟨b,hb⟩:∃b,b=decide (tp≠69∨tx≠[107,101,114,110,101,108]∨(bn:Int)=0∨(wn:Int)=0):=⟨_,rfl⟩
  refine cS (cS ?_)
  refine cM [0,4,5,6,7] [(61,.bool b)] (fun w'=>w6=w') ?_ ?_
  ·subst hh
   refine W ?_
   by_cases a1:tp=69
   rotate_left
   ·obtain rfl:b=true:=by rw[hb];simp[a1]
    clear hb hr
    refine W ?_
    exact mt rfl
   subst a1
   by_cases a2:tx=[107,101,114,110,101,108]
   rotate_left
   ·obtain rfl:b=true:=by rw[hb];simp[a2]
    clear hb hr
    have hb3:(tx==[107,101,114,110,101,108])=false:=by simpa using a2
    refine W ?_
    exact mt rfl
   subst a2
   by_cases a3:bn=0
   ·obtain rfl:b=true:=by rw[hb];simp[a3]
    clear hb hr
    subst a3
    refine W ?_
    exact mt rfl
   by_cases a4:wn=0
   ·obtain rfl:b=true:=by rw[hb];simp[a4]
    clear hb hr
    subst a4
    refine W ?_
    exact mt rfl
   ·obtain rfl:b=false:=by rw[hb];simp[a3,a4]
    clear hb hr
    refine W ?_
    exact mt rfl
  rintro u _ rfl
  refine cC (fun e=> ?_) fun e=> ?_
  ·rw[if_pos (of_decide_eq_true (hb.symm.trans e))]at hr
   clear hb e
   refine W ?_
   subst hr
   subst hh
   exact⟨_,rfl,⟨rfl,.inl ⟨rfl,rfl⟩⟩,hA,f⟩
  rw[if_neg (of_decide_eq_false (hb.symm.trans e))]at hr
  clear hb e
  subst hh
  refine cK (tN ?_)
  refine cZ ?_
  clear hM
  by_cases ho:h.options=false
  ·rw[if_pos ho]at hr
   refine W ?_
   refine sK (gW {h with port:=p1,sent:=0,last:= -1,block:=512,window:=wn}) hB ?_
   intro w7 hB f7
   refine W ?_
   refine sK (gW {h with port:=p1,sent:=0,last:= -1,block:=512,window:=1}) hB ?_
   intro w8 hB f8
   replace f7:=f7.trans f8
   replace hA:=hA.put hB f7 {hok with port:=hp1,sent:=Nat.zero_le _,block:=by dsimp only;omega,window:=by dsimp only;omega}
   replace hU:=hU.keep f7 hguq
   replace f:=f.trans f7
   clear f7 f8 hB
   have hfs:=f.size
   refine W ?_
   refine sX (tQ q _ fm tp ld w8 hA hfm) ?_
   rintro e w9 ⟨v,rfl,hov,hA,f9⟩
   refine⟨_,rfl,?_⟩
   refine W ?_
   subst hr
   exact⟨_,rfl,⟨hov.1,hov.2.imp id fun⟨g,c,cur,h1,h2,h3⟩=>⟨g,c,cur,h1,Nat.le_trans (by omega) h2,h3⟩⟩,hA,f.trans f9⟩
  rw[if_neg ho]at hr
  have ho:h.options=true:=by simpa using ho
  obtain⟨b3,hb3⟩:∃b3,min bn 300=b3:=⟨_,rfl⟩
  rw[hb3]at hr
  have hmn:min (bn:Int) 300=(b3:Int):=by omega
  have hb4:b3≤300:=by omega
  clear hb3
  refine W ?_
  refine uZ ?_
  refine W ?_
  refine sK (gW {h with port:=p1,sent:=0,last:= -1,block:=b3,window:=wn}) hB ?_
  intro w7 hB f7
  replace hA:=hA.put hB f7 {hok with port:=hp1,sent:=Nat.zero_le _,block:=by dsimp only;omega,window:=hw2}
  replace hU:=hU.keep f7 hguq
  replace f:=f.trans f7
  clear f7 hB hmn
  have hw7:=f.size
  obtain⟨pkt,hpk⟩:∃pkt,bU ⟨6,0,[],[],[⟨St.tNm,dec h.image.length⟩,⟨St.bNm,dec b3⟩,⟨St.wNm,dec wn⟩]⟩=pkt:=⟨_,rfl⟩
  rw[hpk]at hr
  have hpl:pkt.1.length≤1048576:=by rw[←hpk];exact Nat.le_trans (oN _) (by decide)
  have hwf:wtF [⟨St.tNm,dec h.image.length⟩,⟨St.bNm,dec b3⟩,⟨St.wNm,dec wn⟩]≤1048576:=by
   have:=hok.image
   have h1:=mN 19 (h.image.length+1) h.image.length (by omega)
   have h2:=mN 19 (b3+1) b3 (by omega)
   have h3:=mN 19 (wn+1) wn (by omega)
   show 5+(wN _ _).length+1+(7+(wN _ _).length+1+(10+(wN _ _).length+1+0))≤1048576
   omega
  have hD1:=oL h.image.length (by have:=hok.image;omega)
  have hD2:=oL b3 (by omega)
  have hD3:=oL wn (by omega)
  refine W ?_
  refine cM [0,4,5,6,7] [(8,.string (bs pkt.1))] (fun w'=>HAt w' q {h with port:=p1,sent:=0,last:= -1,block:=b3,window:=wn}∧Bk w' gu 57 #[.int .u16 (fm:Int),.int .u16 (tp:Int),.string (bs ld)]∧Fr (aI q) w w') ?_ ?_
  ·refine dI (An hA.bk (An hA (An hU f))) [] [0,1,2,3,4,7,8,9,10,13,14,15,16,5,6,11,12,17,18,19,20,21,22,23,24,25,26] (h:= ?_)
   intro w8 hS _
   have hB:=hS.1
   refine D ?_
   refine dQc (hD1 _) hS ?_
   intro w9 _ hS
   refine D ?_
   refine dQc (hD2 _) hS ?_
   intro w10 _ hS
   refine D ?_
   refine dQc (hD3 _) hS ?_
   intro w11 _ hS
   refine D ?_
   refine dA2 (cs:= #[.string (bs St.tNm),.string (bs (dec h.image.length)),.string (bs St.bNm),.string (bs (dec b3)),.string (bs St.wNm),.string (bs (dec wn))]) inferInstance hS ?_
   intro w12 hS hE f12
   refine D ?_
   have hwr:=mQ 6 0 [] [] [⟨St.tNm,dec h.image.length⟩,⟨St.bNm,dec b3⟩,⟨St.wNm,dec wn⟩] _ 3 w12 (by decide) (by decide) (SlR.of_bk (S:=noB) hE id rfl) (Nat.le_refl 3) hwf (by decide) (by decide) hS.2.1.gl.tabs
   rw[hpk]at hwr
   have hwr2:Calls Tryz.prog 112 #[.agg #[.int .u16 6,.int .u16 0,.string ⟨#[]⟩,.string ⟨#[]⟩,.slice (some ⟨w11.heap.size,0,none⟩) 3 3]] w12 (fun e w'=>e= .returned (.tuple #[.string (bs pkt.1),.int .i64 (pkt.2:Int)])∧Fr noB w12 w'):=hwr
   clear hwr
   refine dQc hwr2 hS ?_
   intro w13 _ hS
   refine D ?_
   refine tN ?_
   exact mt hS.2
  rintro u w8 ⟨hA,hU,f⟩
  have hB:=hA.bk
  clear hD1 hD2 hD3 hwf hpk
  refine W ?_
  refine dI (An hA.bk (An hA (An hU f))) [13] (up 17 0) (h:= ?_)
  rintro w9 ⟨hB,hA,hU,f⟩ _
  refine D ?_
  refine dD (wY q _ p1 fm h.next 167772215 pkt.1 w9 hA hp1 hfm hok.next (by decide) hpl) ?_
  rintro w10 ⟨hA,f10⟩
  replace f:=f.trans f10
  have hfs:gu≤w10.heap.size:=hgu▸f.size
  refine D ?_
  refine dA ?_
  intro w11 hE f11
  refine D ?_
  refine W ?_
  subst hr
  exact⟨_,rfl,BH hE hfs rfl rfl (by decide),hA.none f11,f.none f11⟩
 rw[if_neg h1]at hr
 by_cases h4:op=4
 rotate_left
 ·rw[if_neg h4]at hr
  refine W ?_
  subst hr
  exact⟨_,rfl,⟨rfl,.inl ⟨rfl,rfl⟩⟩,hA,f.of_no _⟩
 subst h4
 rw[if_pos rfl]at hr
 unfold aK.acked at hr
 dsimp only at hr
 have hB:=hA.bk
 obtain⟨b,hb⟩:∃b,b=decide (tp≠h.port∨h.last=(bk:Int)∧h.whn=h.now):=⟨_,rfl⟩
 have hp:=hok.port
 have hwin:=hok.window
 refine W ?_
 refine cM [0,4,5,6,7] [(153,.bool b)] (fun w'=>Fr noB w2 w') ?_ ?_
 ·refine dI (An hB (An hU hM)) [] (up 28 0) (h:= ?_)
  intro w3 hS f3
  have hB:=hS.1
  have hU:=hS.2.1
  have hM:=hS.2.2
  have hbw:IntKind.i64.wrap (bk:Int)=(bk:Int):=IntWalk.i64_in _ (by omega)
  by_cases a1:tp=h.port
  rotate_left
  ·obtain rfl:b=true:=by rw[hb];simp[a1]
   clear hb hr
   refine D ?_
   refine tN ?_
   exact mt f3
  subst a1
  by_cases a2:h.last=(bk:Int)
  rotate_left
  ·obtain rfl:b=false:=by rw[hb];simp[a2]
   clear hb hr
   refine D ?_
   refine tN ?_
   exact mt f3
  by_cases a3:h.whn=h.now
  ·obtain rfl:b=true:=by rw[hb];simp[a2,a3]
   clear hb hr
   refine D ?_
   refine tN ?_
   exact mt f3
  ·obtain rfl:b=false:=by rw[hb];simp[a3]
   clear hb hr
   refine D ?_
   refine tN ?_
   exact mt f3
 rintro u w3 f3
 replace hA:=hA.none f3
 replace hU:=hU.keep f3 id
 replace hM:=hM.keep f3 id
 replace f:=f.none f3
 have hB:=hA.bk
 refine cC (fun e=> ?_) fun e=> ?_
 ·rw[if_pos (of_decide_eq_true (hb.symm.trans e))]at hr
  clear hb e
  refine W ?_
  subst hr
  exact⟨_,rfl,⟨rfl,.inl ⟨rfl,rfl⟩⟩,hA,f.of_no _⟩
 rw[if_neg (of_decide_eq_false (hb.symm.trans e))]at hr
 clear hb e
 refine cK (tN ?_)
 have hbw:IntKind.i64.wrap (bk:Int)=(bk:Int):=IntWalk.i64_in _ (by omega)
 have hN:IntKind.i64.wrap ((h.window:Int)+1)=((h.window+1:Nat):Int):=(IntWalk.i64_in _ (by omega)).trans (by omega)
 obtain⟨N,hNe⟩:∃N,h.window+1=N:=⟨_,rfl⟩
 rw[hNe]at hN hr
 have hle:=EL h.window bk N h.sent
 obtain⟨s',hs'⟩:∃s',aK.gotN h.window bk N h.sent=s':=⟨_,rfl⟩
 rw[hs']at hr hle
 refine W ?_
 refine sK (gW {h with last:=(bk:Int)}) hB ?_
 intro w4 hB f4
 refine W ?_
 refine sK (gW {h with last:=(bk:Int),whn:=h.now}) hB ?_
 intro w5 hB f5
 replace f4:=f4.trans f5
 replace hA:=hA.put hB f4 {hok with}
 replace hU:=hU.keep f4 hguq
 replace hM:=hM.keep f4 hgmq
 replace f:=(f.of_no (aI q)).trans f4
 clear f4 f5 f1 f2 f3 hbw
 refine V ?_
 refine cS ?_
 refine cM [0,4,5,6,7] [] (fun w'=>HAt w' q {h with last:=(bk:Int),whn:=h.now,sent:=s'}∧Bk w' gu 57 #[.int .u16 (fm:Int),.int .u16 (tp:Int),.string (bs ld)]∧Fr (aI q) w w') ?_ ?_
 ·refine W ?_
  refine cL (fun i=>N-i) (fun(i:Nat)=>[(0,.pointer (some ⟨q,0,none⟩)),(4,.pointer (some ⟨gu,0,none⟩)),(5,.pointer (some ⟨gm,0,none⟩)),(6,.slice none 0 0),(7,.bool false),(171,.int .i64 (N:Int)),(172,.int .i64 (i:Int))])
   (fun i w'=>i≤N∧Fr noB w5 w'∧aK.gotN h.window bk (N-i) h.sent=s') 0 (mt (p:=True) trivial).1 ⟨Nat.zero_le _,Fr.refl _ _,hs'⟩ ?_
  rintro k u w6 ⟨hk,f6,hg⟩
  replace hA:=hA.none f6
  replace hU:=hU.keep f6 id
  replace hM:=hM.keep f6 id
  have hB:=hA.bk
  by_cases hlt:k<N
  rotate_left
  ·rw[show N-k=0 by omega]at hg
   unfold aK.gotN at hg
   subst hg
   refine W ?_
   exact mt ⟨hA,hU,f.none f6⟩
  ·obtain⟨m,hm⟩:∃m,N-k=m+1:=⟨N-k-1,by omega⟩
   rw[hm]at hg
   unfold aK.gotN at hg
   rw[show h.window-m=k by omega]at hg
   obtain⟨j,hj⟩:∃j,h.sent+k=j:=⟨_,rfl⟩
   rw[hj]at hg
   have eJ:IntKind.i64.wrap ((h.sent:Int)+(k:Int))=(j:Int):=(IntWalk.i64_in _ (by omega)).trans (by omega)
   have hbw:IntKind.i64.wrap (bk:Int)=(bk:Int):=IntWalk.i64_in _ (by omega)
   have hjb:j≤2097152:=by omega
   have eK:IntKind.i64.wrap ((k:Int)+1)=((k+1:Nat):Int):=(IntWalk.i64_in _ (by omega)).trans (by omega)
   have eT:(j:Int).tmod 65536=((j%65536:Nat):Int):=by rw[Int.tmod_eq_emod_of_nonneg (by omega)];rfl
   have hz:=pK j
   generalize j%65536=z at*
   have HK:=Lib.hid (And.intro hm hj)
   clear hm hj
   refine W ?_
   refine dI (An hB hM) [] (up 11 0) (h:= ?_)
   rintro w7 ⟨hB,hM⟩ f7
   replace hA:=hA.none f7
   replace hU:=hU.keep f7 id
   replace f6:=f6.none f7
   refine D ?_
   refine tN ?_
   refine cC (fun e=> ?_) fun e=> ?_
   ·have he:z=bk:=of_decide_eq_true e
    rw[if_pos he]at hg
    clear e eT
    subst hg
    refine W ?_
    refine sK (gW {h with last:=(bk:Int),whn:=h.now,sent:=j}) hB ?_
    intro w8 hB f8
    replace hA:=hA.put hB f8 {hok with sent:=hjb}
    refine W ?_
    exact mt ⟨hA,hU.keep f8 hguq,(f.none f6).trans f8⟩
   ·have he:z≠bk:=of_decide_eq_false e
    rw[if_neg he]at hg
    clear e eT
    refine W ?_
    have hm1:N-(k+1)=m:=by have:=HK.out.1;omega
    exact⟨k+1,(mt (p:=True) trivial).1,⟨by omega,f6,by rw[hm1];exact hg⟩,by omega⟩
 rintro u w6 ⟨hA,hU,f⟩
 have hfs:=f.size
 refine W ?_
 refine sX (tQ q _ fm tp ld w6 hA hfm) ?_
 rintro e w7 ⟨v,rfl,hov,hA,f7⟩
 refine⟨_,rfl,?_⟩
 refine W ?_
 subst hr
 exact⟨_,rfl,⟨hov.1,hov.2.imp id fun⟨g,c,cur,h1,h2,h3⟩=>⟨g,c,cur,h1,Nat.le_trans (by omega) h2,h3⟩⟩,hA,f.trans f7⟩
end Go.Proofs.YtcbkaiakdhiloacGreatDoor
