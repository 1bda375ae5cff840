/- Parts of the walk; written by programs, merged. -/
import Derived.Test.YtcbkaiakdhiloacGreatDoorBXb
set_option linter.unusedSimpArgs false
set_option linter.unusedVariables false
set_option maxRecDepth 20000
set_option maxHeartbeats 8000000
namespace Go.Proofs.YtcbkaiakdhiloacGreatDoor
open Go.RowKit Go.Proofs
structure Hq (y:Way) (im:List UInt8) (k:Nat) (h:aK):Prop where
 o:Ho y im h
 le:h.sent≤k
 near:k≤h.sent+y.wd
def lvN (h:aK):Nat:=if h.whn=h.now then(h.last+1).toNat else 0
theorem gotN_no (w bk s:Nat) (hn:∀j,j≤w→(s+j)%65536≠bk):∀m,aK.gotN w bk m s=s
 |0=>rfl
 |m+1=>by
  unfold aK.gotN
  rw[if_neg (hn _ (by omega))]
  exact gotN_no w bk s hn m
section
variable {c:JG} {y:Way} {im:List UInt8} {k q i v tw:Nat} {s t:St} {h:aK} {g:CQ} {du T:Int}
theorem hears_any (X:Cxqq c y im) (o:Hq y im k h) (hv:v≤k) (hk:k≤nbK y im) (hlv:lvN h≤v+1) (hi:i<65536):
 ∃h' l,h.answer (Js y i (v%65536))=(h',l,true)∧Hq y im k h'∧h'.now=h.now∧l.length≤8∧(h'.whn=h.whn∨h'.whn=h.now)∧
  ((l=[]∧h'=h∧lvN h=v+1)∨(lvN h'=v+1∧lvN h≤v∧∃q,BlF y im q l∧q+l.length≤nbK y im∧q+l.length≤h'.sent+y.wd∧(v=k→q=k)∧(q<nbK y im→l≠[]))):=by
 have hnb:=nbK_le X
 have hm:v%65536=v:=Nat.mod_eq_of_lt (by omega)
 have hw2:=X.ok.wd2
 have hw1:=X.ok.wd
 unfold Js
 rw[pI h hi (by decide) (by decide) X.ok.nx X.ok.pt X.ok.pe (by rw[nK];decide),if_neg X.ok.pe67,LI _ (by omega),if_neg (by rintro(x|x|x);exact x rfl;exact x rfl;exact x o.o.next.symm)]
 unfold aK.tftp
 rw[if_neg (show ¬(4:Nat)=1 by decide),if_pos rfl]
 unfold aK.acked
 dsimp only
 by_cases hs:h.last=((v%65536:Nat):Int)∧h.whn=h.now
 ·rw[if_pos (.inr hs)]
  refine⟨h,[],rfl,o,rfl,Nat.zero_le _,.inl rfl,.inl ⟨rfl,rfl,?_⟩⟩
  unfold lvN
  rw[if_pos hs.2,hs.1,hm]
  omega
 rw[if_neg (by rintro(x|x);exact x o.o.port.symm;exact hs x)]
 have hlv2:lvN h≤v:=by
  by_cases e:lvN h=v+1
  ·exfalso
   unfold lvN at e
   split at e
   ·next hw=>exact hs ⟨by rw[hm];omega,hw⟩
   ·omega
  ·omega
 obtain⟨q,hq⟩:∃q,aK.gotN h.window (v%65536) (h.window+1) h.sent=q:=⟨_,rfl⟩
 have hq2:(h.sent≤v∧q=v)∨(v<h.sent∧q=h.sent):=by
  have h1:=o.near
  have h2:=o.le
  rw[o.o.window,hm]at hq
  by_cases hle:h.sent≤v
  ·refine .inl ⟨hle,?_⟩
   rw[←hq,D1 y.wd v h.sent (v-h.sent) (by omega) (by omega) (fun j hj=>by omega) (y.wd+1) (Nat.le_refl _) (by omega)]
   omega
  ·refine .inr ⟨by omega,?_⟩
   rw[←hq,gotN_no y.wd v h.sent fun j hj=>by omega]
 rw[hq]
 have hqk:q≤k:=by have:=o.le;omega
 have hqs:h.sent≤q:=by omega
 obtain⟨a,ha⟩:∃a,a=min y.wd (nbK y im-q):=⟨_,rfl⟩
 unfold aK.blocks
 dsimp only
 obtain⟨h',l,e,m,hl,hB⟩:=rM X.ok a (y.wd-a) q {h with last:=((v%65536:Nat):Int),whn:=h.now,sent:=q} [] ⟨o.o.image,o.o.next,o.o.port,o.o.block,o.o.window⟩ (fun j hj=>(nbK_lt X).1 (by omega)) (by
  by_cases x:a=y.wd
  ·exact .inl (by omega)
  ·right
   have hx:q+a=nbK y im:=by omega
   rw[hx]
   exact Nat.lt_of_not_le fun z=>Nat.lt_irrefl _ ((nbK_lt X).2 z))
 rw[show a+(y.wd-a)=y.wd by omega,←o.o.window]at e
 rw[e]
 have hsn:h'.sent=q:=m.sent
 refine⟨h',l,rfl,⟨m.ho ⟨o.o.image,o.o.next,o.o.port,o.o.block,o.o.window⟩,by omega,by have:=o.near;omega⟩,m.now,by omega,.inr m.whn,.inr ⟨?_,hlv2,q,hB,by omega,by omega,fun x=> ?_,fun x y=> ?_⟩⟩
 ·unfold lvN
  rw[if_pos (m.whn.trans m.now.symm),m.last,hm]
  show(((v:Nat):Int)+1).toNat=v+1
  omega
 ·have:=o.le;omega
 ·subst y
  have:a=0:=hl.symm
  omega
structure So (c:JG) (y:Way) (im:List UInt8) (du T:Int) (k:Nat) (s:St) (g:CQ):Prop where
 m:Mmqq c y im du k s
 rx:s.rx=[]
 txl:s.tx.length≤16
 now:s.now=T
 t0:0≤T
 t1:T≤1000000
 lost:g.lost≤2
 ts:k=nbK y im∨(1≤s.tsends∧s.tsends≤1+g.els s∧s.now<s.tagain∧s.tagain≤s.now+9)
def Rk (y:Way) (im:List UInt8) (e k:Nat) (s:St) (g:CQ) (k':Nat) (s':St) (g':CQ):Prop:=k'=nbK y im∨3*k+g.els s+e≤3*k'+g'.els s'
theorem Rk.trans {e k1 k2:Nat} {s1 s2:St} {g1 g2:CQ} (a:Rk y im e k s g k1 s1 g1) (b:Rk y im 0 k1 s1 g1 k2 s2 g2) (h1:k1≤k2) (h2:k2≤nbK y im):Rk y im e k s g k2 s2 g2:=by
 rcases a with a|a
 ·exact .inl (by omega)
 ·rcases b with b|b
  ·exact .inl b
  ·exact .inr (by omega)
theorem Mmqq.same (h:Mmqq c y im du k s) (h':Mmqq c y im du k t) (X:Cxqq c y im) (hn:k<nbK y im):t.lease=s.lease∧t.phase=s.phase∧t.image=s.image∧t.cache=s.cache:=by
 rcases h with⟨h,e,_⟩|⟨h,_⟩
 ·rcases h' with⟨h',e',_⟩|⟨h',_⟩
  ·exact⟨h'.lease.trans h.lease.symm,h'.phase.trans h.phase.symm,h'.image.trans h.image.symm,e'.trans e.symm⟩
  ·omega
 ·omega
theorem So.heard {k1:Nat} {g':CQ} (S:So c y im du T k s g) (X:Cxqq c y im) (w:Wa g' s) (hl:g'.lost=g.els s) (hl2:g'.lost≤2) (R:Hr c y im du q k k1 s t) (hrx:t.rx=[]):So c y im du T k1 t g'∧Rk y im 0 k s g k1 t g'∧(k1=k+1→Rk y im 1 k s g k1 t g'):=by
 have hn:=R.now
 have hk1:=R.le
 have hts:=R.ts
 have hle:=R.m.le
 refine⟨⟨R.m,hrx,R.txl,hn.trans S.now,S.t0,S.t1,hl2,?_⟩,?_,?_⟩
 ·rcases R.m with⟨_,_⟩|⟨hm,_⟩
  ·rcases hts with hts|hts
   ·next L _=>exact absurd hts (by rw[L.phase];decide)
   ·exact .inr ⟨by omega,by omega,by omega,by omega⟩
  ·exact .inl hm
 ·by_cases e:k1=k
  ·subst e
   by_cases hnb:k1<nbK y im
   ·obtain⟨a,b,c',d⟩:=S.m.same R.m X hnb
    right
    rw[els_of a b c' d,w.els]
    omega
   ·exact .inl (by omega)
  ·right;omega
 ·intro e
  right;omega
theorem So.lose {g':CQ} (S:So c y im du T k s g) (w:Wa g' s) (hl:g'.lost=g.els s+1) (hl2:g'.lost≤2):So c y im du T k s g'∧Rk y im 1 k s g k s g':=by
 have e:=w.els
 refine⟨⟨S.m,S.rx,S.txl,S.now,S.t0,S.t1,hl2,?_⟩,.inr (by omega)⟩
 rcases S.ts with h|h
 ·exact .inl h
 ·exact .inr ⟨h.1,by omega,h.2.2.1,h.2.2.2⟩
theorem So.pass {g':CQ} (S:So c y im du T k s g) (w:Wa g' s) (hl:g'.lost=g.els s) (hl2:g'.lost≤2):So c y im du T k s g'∧Rk y im 0 k s g k s g':=by
 have e:=w.els
 refine⟨⟨S.m,S.rx,S.txl,S.now,S.t0,S.t1,hl2,?_⟩,.inr (by omega)⟩
 rcases S.ts with h|h
 ·exact .inl h
 ·exact .inr ⟨h.1,by omega,h.2.2.1,h.2.2.2⟩
theorem comes_soup (X:Cxqq c y im):∀(l:List (List UInt8)) (q k:Nat) (s:St) (g:CQ),So c y im du T k s g→BlF y im q l→q+l.length≤nbK y im→g.n+l.length<4611686018427387904→
 ∃s' g' k',bComes tw l s g=some (s',g')∧So c y im du T k' s' g'∧k≤k'∧(k'≤k∨k'≤q+l.length)∧(∀lo,Asc y lo s.tx k→Asc y lo s'.tx k')∧g'.n≤g.n+l.length∧Rk y im 0 k s g k' s' g'
 |[],q,k,s,g,S,_,_,_=>⟨s,g,k,rfl,S,Nat.le_refl _,.inl (Nat.le_refl _),fun _ h=>h,Nat.le_refl _,.inr (Nat.le_refl _)⟩
 |a::l,q,k,s,g,S,⟨⟨i,hi,ea⟩,hB⟩,hq,hN=>by
  rw[List.length_cons]at hq hN
  obtain⟨g',b,e,hn,hl2,w,hl⟩:=gone_el g s S.lost
  have hal:a.length≤1048576:=by rw[ea];exact F8 X.ok hi (part_len X q)
  have ec:=comes_cons tw a l s g S.rx (by rw[S.m.cc];exact X.rx) hal (S.m.cm X) (by omega) S.lost e
  rw[ec]
  cases b with
  |true=>
   rw[if_pos rfl]at hl⊢
   obtain⟨S1,R1⟩:=S.lose w hl hl2
   obtain⟨s2,g2,k2,e2,S2,a1,a2,a3,a4,a5⟩:=comes_soup X l (q+1) k s g' S1 hB (by omega) (by omega)
   refine⟨s2,g2,k2,e2,S2,a1,by rw[List.length_cons];omega,a3,by rw[List.length_cons];omega,?_⟩
   have:=R1.trans a5 a1 S2.m.le
   rcases this with x|x
   ·exact .inl x
   ·exact .inr (by omega)
  |false=>
   rw[if_neg (by decide)]at hl⊢
   obtain⟨k1,R⟩:=S.m.hear X S.txl (by rw[S.now];exact S.t0) (by rw[S.now];exact S.t1) hi (show q<nbK y im by omega) (decide (0<tw∧g'.n%tw=0))
   rw[←ea]at R
   obtain⟨S1,R1,_⟩:=S.heard X w (by omega) hl2 R (hear_rx a S.rx)
   have hup:=R.up
   have hle:=R.le
   obtain⟨s2,g2,k2,e2,S2,a1,a2,a3,a4,a5⟩:=comes_soup X l (q+1) k1 _ g' S1 hB (by omega) (by omega)
   refine⟨s2,g2,k2,e2,S2,by omega,?_,fun lo h=>a3 lo (R.asc lo h),by rw[List.length_cons];omega,R1.trans a5 a1 S2.m.le⟩
   rw[List.length_cons]
   by_cases x:k1=k<;>omega
theorem goes_cons (X:Cxqq c y im) (o:Hq y im k h) (hv:v<65536) (hi:i<65536) (hk:k≤nbK y im) (hn:g.n<4611686018427387904) (hl:g.lost≤2) {h':aK} {l:List (List UInt8)} (ea:h.answer (Js y i v)=(h',l,true)) (hll:l.length≤8) {g':CQ} {b:Bool} (e:g.gone s=(g',b)) (r:List (List UInt8)):
 bGoes tw (Js y i v::r) s h g=if b=true then bGoes tw r s h' g' else match bComes tw l s g' with
  |none=>none
  |some (s,g)=>bGoes tw r s h' g:=by
 have h1:=o.le
 have h2:=nbK_le X
 have h3:=X.ok.wd2
 rw[bGoes,if_pos ⟨ackF_len X.ok hi,by rw[o.o.window];omega,Cj X.ok hi hv,hn,by omega⟩]
 dsimp only
 rw[ea]
 dsimp only
 rw[if_pos ⟨rfl,by omega⟩,e]
 rfl
theorem goes_soup (X:Cxqq c y im):∀(out:List (List UInt8)) (lo k0 k:Nat) (s:St) (h:aK) (g:CQ),So c y im du T k s g→Hq y im k h→Asc y lo out k0→k0≤k→lvN h≤lo+1→g.n+9*out.length<4611686018427387904→
 ∃s' h' g' k',bGoes tw out s h g=some (s',h',g')∧So c y im du T k' s' g'∧Hq y im k' h'∧h'.now=h.now∧(h'.whn=h.whn∨h'.whn=h.now)∧lvN h≤lvN h'∧(lvN h'≤k0+1)∧k≤k'∧(∀lo,Asc y lo s.tx k→Asc y lo s'.tx k')∧g'.n≤g.n+9*out.length∧Rk y im 0 k s g k' s' g'∧(s'.tx=s.tx∨lvN h<lvN h')
 |[],lo,k0,k,s,h,g,S,o,ha,hk0,hlv,_=>⟨s,h,g,k,rfl,S,o,rfl,.inl rfl,Nat.le_refl _,by have:=ha.le;omega,Nat.le_refl _,fun _ h=>h,Nat.le_refl _,.inr (Nat.le_refl _),.inl rfl⟩
 |f::r,lo,k0,k,s,h,g,S,o,⟨v,i,hi,hlo,hvk,ef,hr⟩,hk0,hlv,hN=>by
  rw[List.length_cons]at hN
  have hkn:=S.m.le
  have hnb:=nbK_le X
  obtain⟨h1,l,ea,o1,hnow,hll,hwhn,hans⟩:=hears_any X o (show v≤k by omega) hkn (by omega) hi
  obtain⟨g',b,e,hn,hl2,w,hl⟩:=gone_el g s S.lost
  have ec:=goes_cons (tw:=tw) X o (show v%65536<65536 from Nat.mod_lt _ (by decide)) hi hkn (by omega) S.lost ea hll e r
  rw[ef,ec]
  have hlv1:lvN h1=v+1∧lvN h≤lvN h1:=by
   rcases hans with⟨_,e1,e2⟩|⟨e1,e2,_⟩
   ·subst e1;exact⟨e2,Nat.le_refl _⟩
   ·exact⟨e1,by omega⟩
  cases b with
  |true=>
   rw[if_pos rfl]at hl⊢
   obtain⟨S1,R1⟩:=S.lose w hl hl2
   obtain⟨s2,h2,g2,k2,e2,S2,o2,a1,a2,a3,a4,a5,a6,a7,a8,a9⟩:=goes_soup X r v k0 k s h1 g' S1 o1 hr hk0 (by omega) (by omega)
   refine⟨s2,h2,g2,k2,e2,S2,o2,a1.trans hnow,?_,by omega,a4,a5,a6,by rw[List.length_cons];omega,?_,?_⟩
   ·rw[hnow]at a2;rcases a2 with x|x
    ·rw[x];exact hwhn
    ·exact .inr x
   ·rcases R1.trans a8 a5 S2.m.le with x|x
    ·exact .inl x
    ·exact .inr (by omega)
   ·rcases a9 with x|x
    ·rcases hans with⟨_,e1,e3⟩|⟨e1,e3,_⟩
     ·exact .inl x
     ·right;omega
    ·right;omega
  |false=>
   rw[if_neg (by decide)]at hl⊢
   obtain⟨S1,R1⟩:=S.pass w (by omega) hl2
   rcases hans with⟨rfl,rfl,e3⟩|⟨e1,e3,q,hB,hq1,hq2,_,_⟩
   ·rw[bComes]
    dsimp only
    obtain⟨s2,h2,g2,k2,e2,S2,o2,a1,a2,a3,a4,a5,a6,a7,a8,a9⟩:=goes_soup X r v k0 k s h1 g' S1 o1 hr hk0 (by omega) (by omega)
    exact⟨s2,h2,g2,k2,e2,S2,o2,a1,a2,a3,a4,a5,a6,by rw[List.length_cons];omega,R1.trans a8 a5 S2.m.le,a9⟩
   ·obtain⟨s1,g1,k1,ec1,S2,b1,b2,b3,b4,b5⟩:=comes_soup (tw:=tw) X l q k s g' S1 hB hq1 (by omega)
    rw[ec1]
    dsimp only
    have o2:Hq y im k1 h1:=⟨o1.o,Nat.le_trans o1.le b1,by have:=o1.near;omega⟩
    obtain⟨s2,h2,g2,k2,e2,S3,o3,a1,a2,a3,a4,a5,a6,a7,a8,a9⟩:=goes_soup X r v k0 k1 s1 h1 g1 S2 o2 hr (by omega) (by omega) (by omega)
    refine⟨s2,h2,g2,k2,e2,S3,o3,a1.trans hnow,?_,by omega,a4,by omega,fun lo h=>a6 lo (b3 lo h),by rw[List.length_cons];omega,(R1.trans b5 b1 S2.m.le).trans a8 a5 S3.m.le,.inr (by omega)⟩
    rw[hnow]at a2;rcases a2 with x|x
    ·rw[x];exact hwhn
    ·exact .inr x
theorem turns_cons (F:Nat) {f:List UInt8} {r:List (List UInt8)} (hx:s.tx=f::r) (hl:s.tx.length≤16):bTurns tw (F+1) s h g=match bGoes tw (f::r) {s with tx:=[]} h g with
 |none=>none
 |some (s,h,g)=>bTurns tw F s h g:=by
 rw[bTurns,if_pos hl,hx]
 rfl
theorem So.txAs (S:So c y im du T k s g):So c y im du T k {s with tx:=[]} g:=⟨S.m.txAs [],S.rx,Nat.zero_le _,S.now,S.t0,S.t1,S.lost,S.ts⟩
theorem turns_soup (X:Cxqq c y im):∀(F lo k:Nat) (s:St) (h:aK) (g:CQ),So c y im du T k s g→Hq y im k h→Asc y lo s.tx k→lvN h≤lo+1→nbK y im+3≤F+lvN h→g.n+144*F<4611686018427387904→
 ∃s' h' g' k',bTurns tw F s h g=some (s',h',g')∧So c y im du T k' s' g'∧s'.tx=[]∧Hq y im k' h'∧h'.now=h.now∧(h'.whn=h.whn∨h'.whn=h.now)∧k≤k'∧g'.n≤g.n+144*F∧Rk y im 0 k s g k' s' g'
 |0,lo,k,s,h,g,S,o,ha,hlv,hF,hN=>by
  exfalso
  have:=ha.le;have:=S.m.le;omega
 |F+1,lo,k,s,h,g,S,o,ha,hlv,hF,hN=>by
  have hle:=ha.le
  have hkn:=S.m.le
  obtain⟨x,hx⟩:∃x,s.tx=x:=⟨_,rfl⟩
  cases x with
  |nil=>exact⟨s,h,g,k,turns_nil hx,S,hx,o,rfl,.inl rfl,Nat.le_refl _,by omega,.inr (Nat.le_refl _)⟩
  |cons f r=>
   have hl:=S.txl
   have hl2:(f::r).length≤16:=hx▸hl
   rw[turns_cons F hx hl]
   rw[hx]at ha
   obtain⟨s1,h1,g1,k1,e1,S1,o1,a1,a2,a3,a4,a5,a6,a7,a8,a9⟩:=goes_soup (tw:=tw) X (f::r) lo k k {s with tx:=[]} h g S.txAs o ha (Nat.le_refl _) hlv (by omega)
   rw[e1]
   dsimp only
   have hA:Asc y k s1.tx k1:=a6 k (Nat.le_refl k)
   have R0:Rk y im 0 k s g k1 s1 g1:=a8
   rcases a9 with x|x
   ·have hx1:s1.tx=[]:=x
    obtain⟨F',rfl⟩:∃F',F=F'+1:=⟨F-1,by omega⟩
    exact⟨s1,h1,g1,k1,turns_nil hx1,S1,hx1,o1,a1,a2,a5,by omega,R0⟩
   ·obtain⟨s2,h2,g2,k2,e2,S2,hx2,o2,b1,b2,b3,b4,b5⟩:=turns_soup X F k k1 s1 h1 g1 S1 o1 hA (by omega) (by omega) (by omega)
    refine⟨s2,h2,g2,k2,e2,S2,hx2,o2,b1.trans a1,?_,by omega,by omega,R0.trans b5 b3 S2.m.le⟩
    rw[a1]at b2;rcases b2 with x|x
    ·rw[x];exact a2
    ·exact .inr x
end
end Go.Proofs.YtcbkaiakdhiloacGreatDoor
namespace Go.Proofs.YtcbkaiakdhiloacGreatDoor
open Go.RowKit Go.Proofs
def nmR:List UInt8:=[107,101,114,110,101,108]
def If (dg:List UInt8):JG:=⟨aL,nmR,600000,dg,8,1,16,16⟩
structure Hd (dg:List UInt8) (s:St):Prop where
 c:s.c=If dg
 rx:s.rx=[]
 draw:s.draw=1
 xid:s.xid<4294967296
 lease:4≤s.lease
 addr:s.addr=aS
 mask:s.mask=4294967040
 router:s.router=aF
 server:s.server=aF
 source:s.source=aF
end Go.Proofs.YtcbkaiakdhiloacGreatDoor
namespace Go.Proofs.YtcbkaiakdhiloacGreatDoor
open Go.RowKit Go.Proofs
structure HR (im:List UInt8) (n:Nat) (h:aK):Prop where
 image:h.image=im
 lease:h.lease=n
 next:h.next=aF
 options:h.options=true
 sent:h.sent≤400
 window:h.window≤1
 whn:h.whn≤h.now
section
variable {im dg:List UInt8} {n r i:Nat} {s:St} {h:aK}
end
end Go.Proofs.YtcbkaiakdhiloacGreatDoor
namespace Go.Proofs.YtcbkaiakdhiloacGreatDoor
open Go.RowKit Go.Proofs
def dhF (d:Mac) (i fi ti:Nat) (ld:List UInt8):List UInt8:=frU d aL i 64 fi ti 68 67 ld
structure Msg (xid cl:Nat) (kind:UInt8) (ld:List UInt8):Prop where
 len:ld.length≤1472
 rd:∃os,aQ ld=(⟨false,xid,cl,0,0,aL,os⟩,0)∧FT os 53=[kind]
 tf:(aM ld).1.fs=[]
theorem AK (s:St) (kind:UInt8) (os:List bK) (hc:s.c.card=aL) (hx:s.xid<4294967296) (ha:s.address<4294967296) (hk:kind≠4) (hos:os=[]∨os=s.both):Msg s.xid s.address kind (s.msg kind os):=by
 obtain⟨e1,e2⟩:=GY s kind os hc hx ha hk hos
 refine⟨by unfold St.msg;exact iW ..,⟨_,e1,e2⟩,?_⟩
 have e3:∃r,s.msg kind os=1::1::r∨s.msg kind os=r∧r.length<2:=by
  unfold St.msg fP
  split
  ·exact⟨[],.inr ⟨rfl,by decide⟩⟩
  split
  ·exact⟨[],.inr ⟨rfl,by decide⟩⟩
  ·exact⟨_,.inl rfl⟩
 obtain⟨r,e|⟨e,hr⟩⟩:=e3
 ·rw[e]
  have hn:num (sub (1::1::r) 0 2)=257:=rfl
  unfold aM
  rw[if_neg (by simp),hn]
  rfl
 ·rw[e]
  unfold aM
  rw[if_pos hr]
  rfl
section
variable {im dg ld:List UInt8} {n r i a t bd ak sl fi ti xid cl:Nat} {s:St} {h:aK} {da:Mac} {kind:UInt8}
theorem DZ (M:Msg xid cl kind ld) (hi:i<65536) (hfi:fi<4294967296) (hti:ti<4294967296):(dhF da i fi ti ld).length≤1048576:=by
 obtain⟨_,_,_,_,_,_,h⟩:=gB (d:=da) (src:=aL) (i:=i) (ttl:=64) (fi:=fi) (ti:=ti) (fm:=68) (tp:=67) (ld:=ld) hi (by decide) hfi hti (by decide) (by decide) M.len
 exact Nat.le_trans h (by decide)
theorem EH (M:Msg xid cl kind ld) (hi:i<65536) (hfi:fi<4294967296) (hti:ti<4294967296):qC (dhF da i fi ti ld)=true:=by
 unfold dhF
 refine AI hi (by decide) hfi hti (by decide) (by decide) M.len ?_ ?_<;>rw[M.tf]<;>exact⟨Int.le_refl 0,(by decide:(0:Int)≤70000)⟩
def hostD (h:aK):aK:={h with id:=(h.id+1)%65536}
end
end Go.Proofs.YtcbkaiakdhiloacGreatDoor
namespace Go.Proofs.YtcbkaiakdhiloacGreatDoor
open Go.RowKit Go.Proofs
def decOk (n:Nat):Bool:=decide (Gk (dec n) 0=n)&&decide (vW (dec n)=some n)&&cP (dec n)&&decide ((dec n).length≤4)
set_option maxRecDepth 100000 in
theorem dec_all:(List.range 4096).all decOk=true:=by decide+kernel
theorem dec_ok {n:Nat} (h:n<4096):Gk (dec n) 0=n∧vW (dec n)=some n∧cP (dec n)=true∧(dec n).length≤4:=by
 have:=List.all_eq_true.1 dec_all n (List.mem_range.2 h)
 unfold decOk at this
 simp only[Bool.and_eq_true,decide_eq_true_eq]at this
 exact⟨this.1.1.1,this.1.1.2,this.1.2,this.2⟩
def fsQ (c:JG):List eH:=[⟨St.bNm,dec c.block⟩,⟨St.wNm,dec c.window⟩,⟨St.tNm,[48]⟩]
def rrqB (c:JG):List UInt8:=(bU ⟨1,0,c.name,[],fsQ c⟩).1
def fsA (n b w:Nat):List eH:=[⟨St.tNm,dec n⟩,⟨St.bNm,dec b⟩,⟨St.wNm,dec w⟩]
def oackB (n b w:Nat):List UInt8:=(bU ⟨6,0,[],[],fsA n b w⟩).1
structure Cqqq (c:JG):Prop where
 card:c.card=aL
 name:c.name=nmR
 rx:c.rx=16
 tx:c.tx=16
 b8:8≤c.block
 b9:c.block≤1008
 w1:1≤c.window
 w8:c.window≤8
 cap:4000≤c.cap
section
variable {c:JG} {n b w nx pt pe i:Nat} {s t:St} {h:aK} {im:List UInt8}
theorem fsQ_to (C:Cqqq c):DW (fsQ c) (fsQ c).length:=by
 have hb:=(dec_ok (n:=c.block) (by have:=C.b9;omega)).2.2.1
 have hw:=(dec_ok (n:=c.window) (by have:=C.w8;omega)).2.2.1
 intro j o hj ho
 match j,hj,ho with
 |0,_,ho=>cases ho;unfold nM;dsimp only;rw[hb];rfl
 |1,_,ho=>cases ho;unfold nM;dsimp only;rw[hw];rfl
 |2,_,ho=>cases ho;rfl
 |j+3,hj,_=>exact absurd hj (by show ¬j+3<3;omega)
theorem fsA_to (hn:n<4096) (hb:b<4096) (hw:w<4096):DW (fsA n b w) (fsA n b w).length:=by
 have h1:=(dec_ok hn).2.2.1
 have h2:=(dec_ok hb).2.2.1
 have h3:=(dec_ok hw).2.2.1
 intro j o hj ho
 match j,hj,ho with
 |0,_,ho=>cases ho;unfold nM;dsimp only;rw[h1];rfl
 |1,_,ho=>cases ho;unfold nM;dsimp only;rw[h2];rfl
 |2,_,ho=>cases ho;unfold nM;dsimp only;rw[h3];rfl
 |j+3,hj,_=>exact absurd hj (by show ¬j+3<3;omega)
theorem rrqB_eq (C:Cqqq c):rrqB c=big 2 1++nmR++[0,111,99,116,101,116,0]++Au (fsQ c)∧(rrqB c).length≤1472:=by
 have hl:=pM (fsQ c)
 have hb:=(dec_ok (n:=c.block) (by have:=C.b9;omega)).2.2.2
 have hw:=(dec_ok (n:=c.window) (by have:=C.w8;omega)).2.2.2
 have hq:wtF (fsQ c)≤100:=by simp only[fsQ,wtF,St.bNm,St.wNm,St.tNm,List.length_cons,List.length_nil];omega
 have hle:(big 2 1++nmR++[0,111,99,116,101,116,0]++Au (fsQ c)).length≤1472:=by
  simp only[List.length_append,aB,nmR,List.length_cons,List.length_nil];omega
 have e:rrqB c=big 2 1++nmR++[0,111,99,116,101,116,0]++Au (fsQ c):=by
  unfold rrqB bU
  dsimp only
  rw[if_pos rfl,C.name,show cP nmR=true by decide,if_pos rfl,EW (fsQ_to C)]
  dsimp only
  unfold Av
  rw[if_neg (by omega)]
 exact⟨e,by rw[e];exact hle⟩
theorem oackB_eq (hn:n<4096) (hb:b<4096) (hw:w<4096):oackB n b w=big 2 6++Au (fsA n b w)∧(oackB n b w).length≤1472:=by
 have hl:=pM (fsA n b w)
 have h1:=(dec_ok hn).2.2.2
 have h2:=(dec_ok hb).2.2.2
 have h3:=(dec_ok hw).2.2.2
 have hq:wtF (fsA n b w)≤100:=by simp only[fsA,wtF,St.bNm,St.wNm,St.tNm,List.length_cons,List.length_nil];omega
 have hle:(big 2 6++Au (fsA n b w)).length≤1472:=by
  simp only[List.length_append,aB,List.length_cons,List.length_nil];omega
 have e:oackB n b w=big 2 6++Au (fsA n b w):=by
  unfold oackB bU
  dsimp only
  rw[if_neg (by decide),if_pos rfl,EW (fsA_to hn hb hw)]
  dsimp only
  unfold Av
  rw[if_neg (by omega)]
 exact⟨e,by rw[e];exact hle⟩
theorem rrqB_rd (C:Cqqq c):aM (rrqB c)=(⟨1,0,nmR,[],fsQ c⟩,0):=by
 rw[(rrqB_eq C).1]
 exact readTFTP_ask nmR _ (by decide) (fsQ_to C)
theorem oackB_rd (hn:n<4096) (hb:b<4096) (hw:w<4096):aM (oackB n b w)=(⟨6,0,[],[],fsA n b w⟩,0):=by
 rw[(oackB_eq hn hb hw).1]
 exact readTFTP_oack _ (fsA_to hn hb hw)
theorem fsQ_b (C:Cqqq c):cH St.bNm (fsQ c)=c.block:=by
 unfold cH fsQ
 simp only[List.foldl_cons,List.foldl_nil]
 rw[if_neg (show ¬St.tNm=St.bNm by decide),if_neg (show ¬St.wNm=St.bNm by decide),if_pos trivial]
 exact(dec_ok (n:=c.block) (by have:=C.b9;omega)).1
theorem fsQ_w (C:Cqqq c):cH St.wNm (fsQ c)=c.window:=by
 unfold cH fsQ
 simp only[List.foldl_cons,List.foldl_nil]
 rw[if_neg (show ¬St.tNm=St.wNm by decide),if_pos trivial,if_neg (show ¬St.bNm=St.wNm by decide)]
 exact(dec_ok (n:=c.window) (by have:=C.w8;omega)).1
def mFqq (nx pt i goal:Nat) (last:List UInt8):List UInt8:=frU bG aL i 64 aS nx pt goal last
theorem mF_len (hn:nx<4294967296) (hp:pt<65536) (hi:i<65536) {goal:Nat} {last:List UInt8} (hg:goal<65536) (hl:last.length≤1472):(mFqq nx pt i goal last).length≤1048576:=by
 obtain⟨_,_,_,_,_,_,h⟩:=gB (d:=bG) (src:=aL) (i:=i) (ttl:=64) (fi:=aS) (ti:=nx) (fm:=pt) (tp:=goal) (ld:=last) hi (by decide) (by decide) hn hp hg hl
 exact Nat.le_trans h (by decide)
theorem rrqF_num (C:Cqqq c) (hn:nx<4294967296) (hp:pt<65536) (hi:i<65536):qC (mFqq nx pt i 69 (rrqB c))=true:=by
 have h1:=C.b9
 have h2:=C.w8
 refine AI hi (by decide) (by decide) hn hp (by decide) (rrqB_eq C).2 ?_ ?_<;>rw[rrqB_rd C]<;>dsimp only
 ·rw[fsQ_b C];omega
 ·rw[fsQ_w C];omega
structure Ha (im:List UInt8) (nx:Nat) (o:Bool) (h:aK):Prop where
 image:h.image=im
 next:h.next=nx
 options:h.options=o
 port:h.port≤60
 sent:h.sent≤1000
 window:h.window≤8
def heardB (h:aK) (c:JG):aK:={h with port:=(h.port+1)%65536,sent:=0,last:= -1,block:=min c.block 300,window:=c.window,id:=(h.id+1)%65536}
def oF2 (nx pt i pe n b w:Nat):List UInt8:=frU aL bG i 9 nx aS pe pt (oackB n b w)
theorem hears_opt (C:Cqqq c) (H:Ha im nx true h) (hn:nx<4294967296) (hp:pt<65536) (hi:i<65536):h.answer (mFqq nx pt i 69 (rrqB c))=(heardB h c,[oF2 nx pt ((h.id+1)%65536) ((h.port+1)%65536) im.length (min c.block 300) c.window],true):=by
 obtain⟨im',ls,nx',op,po,bk,wi,se,la,wh,no,id⟩:=h
 obtain⟨e1,e2,e3,_⟩:=H
 dsimp only at e1 e2 e3
 subst e1 e2 e3
 have h1:=C.b8
 have h2:=C.w1
 unfold mFqq
 rw[pI _ hi (by decide) (by decide) hn hp (by decide) (rrqB_eq C).2,if_neg (by decide),rrqB_rd C,if_neg (by rintro(x|x|x)<;>exact x rfl)]
 unfold aK.tftp
 dsimp only
 rw[if_pos rfl]
 unfold aK.ask
 dsimp only
 rw[fsQ_b C,fsQ_w C,if_neg (by rintro(x|x|x|x);exact x rfl;exact x rfl;omega;omega),if_neg (by decide),FA]
 simp only[Int.toNat_natCast]
 rfl
def way5 (nx pt:Nat) (h:aK):Way:=⟨nx,pt,(h.port+1)%65536,512,1⟩
theorem hears_no (C:Cqqq c) (H:Ha im nx false h) (hy:(way5 nx pt h).Ok) (hi:i<65536):∃h' a,h.answer (mFqq nx pt i 69 (rrqB c))=(h',[a],true)∧Hq (way5 nx pt h) im 0 h'∧h'.now=h.now∧h'.whn=h.whn∧lvN h'=0∧h'.options=false∧BlF (way5 nx pt h) im 0 [a]:=by
 have h1:=C.b8
 have h2:=C.w1
 have hn:nx<4294967296:=hy.nx
 have hp:pt<65536:=hy.pt
 unfold mFqq
 rw[pI _ hi (by decide) (by decide) hn hp (by decide) (rrqB_eq C).2,if_neg (by decide),rrqB_rd C,if_neg (by rintro(x|x|x);exact x rfl;exact x rfl;exact x H.next.symm)]
 unfold aK.tftp
 dsimp only
 rw[if_pos rfl]
 unfold aK.ask
 dsimp only
 rw[fsQ_b C,fsQ_w C,if_neg (by rintro(x|x|x|x);exact x rfl;exact x rfl;omega;omega),H.options,if_pos rfl]
 unfold aK.blocks
 dsimp only
 obtain⟨h',l,e,m,hl,hB⟩:=rM hy 1 0 0 {h with port:=(h.port+1)%65536,sent:=0,last:= -1,block:=512,window:=1,options:=false} [] ⟨H.image,H.next,rfl,rfl,rfl⟩ (fun j hj=>by obtain rfl:j=0:=(by omega);exact Nat.le_trans (Nat.le_of_eq (Nat.zero_mul 512)) (Nat.zero_le _)) (.inl rfl)
 obtain⟨a,rfl⟩:∃a,l=[a]:=by
  cases l with
  |nil=>cases hl
  |cons a q=>cases q with
   |nil=>exact⟨a,rfl⟩
   |cons=>simp at hl
 have e0:aK.blockN pt 1 0 {h with port:=(h.port+1)%65536,sent:=0,last:= -1,block:=512,window:=1,options:=false} []=(h',[a]):=e
 rw[e0]
 refine⟨h',a,rfl,⟨m.ho ⟨H.image,H.next,rfl,rfl,rfl⟩,by rw[m.sent];exact Nat.le_refl _,Nat.zero_le _⟩,m.now,m.whn,?_,m.options,hB⟩
 unfold lvN
 rw[m.last]
 split<;>rfl
end
end Go.Proofs.YtcbkaiakdhiloacGreatDoor
namespace Go.Proofs.YtcbkaiakdhiloacGreatDoor
open Go.RowKit Go.Proofs
structure Aqqq (c:JG) (nx pt:Nat) (s:St):Prop where
 cc:s.c=c
 lease:s.lease=4
 addr:s.addr=aS
 mask:s.mask=4294967040
 router:s.router=aF
 src:s.source=nx
 untl:s.untl=0
 phase:s.phase=1
 port:s.port=pt
 block:s.block=512
 wind:s.wind=1
 next:s.next=1
 came:s.came=0
 image:s.image=[]
 goal:s.goal=69
 last:s.last=rrqB c
structure Pb (T:Int) (s:St) (g:CQ):Prop where
 rx:s.rx=[]
 now:s.now=T
 t0:0≤T
 t1:T≤1000000
 lost:g.lost≤2
 ts:1≤s.tsends∧s.tsends≤2+g.els s∧s.now<s.tagain∧(s.tsends≤3→s.tagain≤s.now+9)
section
variable {c:JG} {y:Way} {im:List UInt8} {k q i v tw F nx pt:Nat} {s t:St} {h:aK} {g:CQ} {du T:Int}
theorem Pb.so (P:Pb T s g) (m:Mmqq c y im du k s) (hx:s.tx.length≤16) {g':CQ} (w:Wa g' s) (hl:g'.lost=g.els s+1) (hl2:g'.lost≤2):So c y im du T k s g'∧Rk y im 1 k s g k s g':=by
 have e:=w.els
 have h:=P.ts
 exact⟨⟨m,P.rx,hx,P.now,P.t0,P.t1,hl2,.inr ⟨h.1,by omega,h.2.2.1,h.2.2.2 (by omega)⟩⟩,.inr (by omega)⟩
theorem Pb.heard {k1:Nat} {g':CQ} (P:Pb T s g) (hl2:g'.lost≤2) (R:Hr c y im du q k k1 s t) (hrx:t.rx=[]):So c y im du T k1 t g':=by
 have hn:=R.now
 have hts:=R.ts
 have hpn:=P.now
 refine⟨R.m,hrx,R.txl,hn.trans P.now,P.t0,P.t1,hl2,?_⟩
 rcases R.m with⟨L,_⟩|⟨hm,_⟩
 ·rcases hts with hts|hts
  ·exact absurd hts (by rw[L.phase];decide)
  ·exact .inr ⟨by omega,by omega,by omega,by omega⟩
 ·exact .inl hm
theorem first_ack (X:Cxqq c y im) (L:Lqqq c y im k s) (hgo:s.goal=y.pe) (hla:s.last=sJ (k%65536)) (hk:s.cache=[ntK du 0]) (P:Pb T s g) (hx:s.tx=[Js y i (k%65536)]) (hi:i<65536) (o:Hq y im k h) (hlv:lvN h≤k) (hF:nbK y im+5≤F) (hN:g.n+144*F<4611686018427387904):
 ∃s' h' g' k',bTurns tw F s h g=some (s',h',g')∧So c y im du T k' s' g'∧s'.tx=[]∧Hq y im k' h'∧h'.now=h.now∧(h'.whn=h.whn∨h'.whn=h.now)∧k≤k'∧g'.n≤g.n+144*F∧Rk y im 1 k s g k' s' g':=by
 obtain⟨F,rfl⟩:∃F',F=F'+1:=⟨F-1,by omega⟩
 have hkn:=L.kn
 have hnb:=nbK_le X
 have hm:k%65536=k:=Nat.mod_eq_of_lt (by omega)
 obtain⟨h1,l,ea,o1,hnow,hll,hwhn,hans⟩:=hears_any X o (Nat.le_refl k) (Nat.le_of_lt hkn) (by omega) hi
 obtain⟨e1,e2,q,hB,hq1,hq2,hqk,hne⟩:=hans.resolve_left (fun x=>by have:=x.2.2;omega)
 obtain rfl:=hqk rfl
 obtain⟨s0,hs0⟩:∃s0:St,s0={s with tx:=[]}:=⟨_,rfl⟩
 have L0qq:Lqqq c y im q s0:=by rw[hs0];exact L.txAs []
 have hk0:s0.cache=[ntK du 0]:=by rw[hs0];exact hk
 have P0:Pb T s0 g:=by rw[hs0];exact⟨P.rx,P.now,P.t0,P.t1,P.lost,P.ts⟩
 have hx0:s0.tx=[]:=by rw[hs0]
 have hel:g.els s0=g.els s:=by rw[hs0];rfl
 obtain⟨g',b,e,hn,hl2,w,hl⟩:=gone_el g s0 P0.lost
 rw[turns_cons F hx (by rw[hx];exact Nat.le_of_ble_eq_true rfl),←hs0,goes_cons X o (by omega) hi (Nat.le_of_lt hkn) (by omega) P.lost ea hll e []]
 have M0qq:Mmqq c y im du q s0:= .inl ⟨L0qq,hk0,by rw[hs0];exact hgo,by rw[hs0];exact hla⟩
 obtain⟨F',rfl⟩:∃F',F=F'+1:=⟨F-1,by omega⟩
 have fin:∀{k1:Nat} {s1:St} {g1:CQ},So c y im du T k1 s1 g1→q≤k1→k1≤h1.sent+y.wd→Asc y q s1.tx k1→g1.n≤g.n+9→Rk y im 1 q s g k1 s1 g1→
  ∃s' h' g' k',bTurns tw (F'+1) s1 h1 g1=some (s',h',g')∧So c y im du T k' s' g'∧s'.tx=[]∧Hq y im k' h'∧h'.now=h.now∧(h'.whn=h.whn∨h'.whn=h.now)∧q≤k'∧g'.n≤g.n+144*(F'+1+1)∧Rk y im 1 q s g k' s' g':=by
  intro k1 s1 g1 S1 hk1 hk2 hA hn1 R1
  have:=S1.m.le
  obtain⟨s2,h2,g2,k2,e2,S2,hx2,o2,b1,b2,b3,b4,b5⟩:=turns_soup (tw:=tw) X (F'+1) q k1 s1 h1 g1 S1 ⟨o1.o,Nat.le_trans o1.le hk1,hk2⟩ hA (by omega) (by omega) (by omega)
  refine⟨s2,h2,g2,k2,e2,S2,hx2,o2,b1.trans hnow,?_,by omega,by omega,R1.trans b5 b3 S2.m.le⟩
  rw[hnow]at b2;rcases b2 with x|x
  ·rw[x];exact hwhn
  ·exact .inr x
 have toR:∀{k1:Nat} {s1:St} {g1:CQ},Rk y im 1 q s0 g k1 s1 g1→Rk y im 1 q s g k1 s1 g1:=fun R=>by
  unfold Rk at R⊢;rw[hel]at R;exact R
 have hnear:=o1.near
 cases b with
 |true=>
  rw[if_pos rfl]at hl⊢
  obtain⟨S1,R1⟩:=P0.so M0qq (by rw[hx0];exact Nat.zero_le _) w hl hl2
  exact fin S1 (Nat.le_refl _) hnear (by rw[hx0];exact Nat.le_refl _) (by omega) (toR R1)
 |false=>
  rw[if_neg (by decide)]at hl⊢
  cases l with
  |nil=>exact absurd rfl (hne hkn)
  |cons a l=>
  obtain⟨⟨j,hj,ea'⟩,hB⟩:=hB
  rw[List.length_cons]at hq1 hq2 hll
  have hal:a.length≤1048576:=by rw[ea'];exact F8 X.ok hj (part_len X q)
  obtain⟨g2,b,e',hn',hl2',w',hl'⟩:=gone_el g' s0 (by omega)
  rw[comes_cons tw a l s0 g' P0.rx (by rw[L0qq.c];exact X.rx) hal (L0qq.cm X) (by omega) (by omega) e']
  have hle:g'.els s0=g.els s0:=by rw[w.els];omega
  have finish:∀{k1:Nat} {s1:St} {g1:CQ},So c y im du T k1 s1 g1→q≤k1→k1≤q+1→Asc y q s1.tx k1→g1.n=g.n+2→Rk y im 1 q s g k1 s1 g1→
   ∃s' h' g' k',(match bComes tw l s1 g1 with
    |none=>none
    |some (s,g)=>(match bGoes tw [] s h1 g with
     |none=>none
     |some (s,h,g)=>bTurns tw (F'+1) s h g))=some (s',h',g')∧So c y im du T k' s' g'∧s'.tx=[]∧Hq y im k' h'∧h'.now=h.now∧(h'.whn=h.whn∨h'.whn=h.now)∧q≤k'∧g'.n≤g.n+144*(F'+1+1)∧Rk y im 1 q s g k' s' g':=by
   intro k1 s1 g1 S1 hk1 hk2 hA hn1 R1
   obtain⟨s2,g2,k2,e2,S2,a1,a2,a3,a4,a5⟩:=comes_soup (tw:=tw) X l (q+1) k1 s1 g1 S1 hB (by omega) (by omega)
   rw[e2]
   have hqs:=o1.le
   exact fin S2 (by omega) (by omega) (a3 q hA) (by omega) (R1.trans a5 a1 S2.m.le)
  cases b with
  |true=>
   rw[if_pos rfl]at hl'⊢
   obtain⟨S1,R1⟩:=P0.so M0qq (by rw[hx0];exact Nat.zero_le _) w' (by omega) hl2'
   have:=finish S1 (Nat.le_refl _) (by omega) (by rw[hx0];exact Nat.le_refl _) (by omega) (toR R1)
   revert this
   generalize bComes tw l s0 g2=z
   intro this
   cases z with
   |none=>exact this
   |some z=>exact this
  |false=>
   rw[if_neg (by decide)]at hl'⊢
   obtain⟨k1,R⟩:=M0qq.hear X (by rw[hx0];exact Nat.zero_le _) (by rw[P0.now];exact P0.t0) (by rw[P0.now];exact P0.t1) hj hkn (decide (0<tw∧g2.n%tw=0))
   rw[←ea']at R
   have hk1:=R.new rfl hkn
   have S1:=P0.heard hl2' R (hear_rx a P0.rx)
   have hes:=g.els_le s0
   have hlo:=P.lost
   have:=finish S1 (by omega) (by omega) (R.asc q (by rw[hx0];exact Nat.le_refl _)) (by omega) (.inr (by omega))
   revert this
   generalize bComes tw l (s0.hear (decide (0<tw∧g2.n%tw=0)) a) g2=z
   intro this
   cases z with
   |none=>exact this
   |some z=>exact this
end
end Go.Proofs.YtcbkaiakdhiloacGreatDoor
namespace Go.Proofs.YtcbkaiakdhiloacGreatDoor
open Go.RowKit Go.Proofs
theorem Ii {i fi ti fm tp:Nat} {ld:List UInt8}:pkU i fi ti fm tp ld≠[]:=by
 have hu:(jC fm tp fi ti ld).1.length≤1480:=rU ..
 unfold pkU vC
 rw[if_neg (by decide),if_neg (by omega)]
 intro e
 have:=congrArg List.length e
 unfold fG at this
 rw[List.length_append,eZ]at this
 simp at this
theorem Gj:qC uA=true:=by kernel_rfl
theorem HD:uA.length≤1048576:=Nat.le_of_ble_eq_true (by kernel_rfl)
theorem Gv:JH.length≤1048576:=Nat.le_of_ble_eq_true (by kernel_rfl)
section
variable {im dg ld:List UInt8} {n r i a t F bd ak sl:Nat} {s:St} {h:aK} {du:Int}
end
end Go.Proofs.YtcbkaiakdhiloacGreatDoor
namespace Go.Proofs.YtcbkaiakdhiloacGreatDoor
open Go.RowKit Go.Proofs
theorem HZ {s:St} (hk:s.cache=[]):s.neighbours=s:=by
 unfold St.neighbours
 rw[hk]
 show({s with cache:=[]}:St)=s
 rw[←hk]
section
variable {im dg ld:List UInt8} {n r i a t F bd ak sl:Nat} {s u w y:St} {h:aK} {du:Int} {d:RnD}
end
end Go.Proofs.YtcbkaiakdhiloacGreatDoor
namespace Go.Proofs.YtcbkaiakdhiloacGreatDoor
open Go.RowKit Go.Proofs
def arpP:List UInt8:=(aT lE aL 2054 (gQ 1 aL 0 iS aS).1).1
theorem F2:qC arpP=true:=by kernel_rfl
theorem Hv:arpP.length≤1048576:=Nat.le_of_ble_eq_true (by kernel_rfl)
theorem CX (h:aK):h.answer arpP=(h,[],true):=by
 have hw:(gQ 1 aL 0 iS aS).1=aZ 1 aL 0 iS aS:=rfl
 have hwl:(aZ 1 aL 0 iS aS).length≤1500:=by simp[aZ,aB,dO]
 have he:(aT lE aL 2054 (aZ 1 aL 0 iS aS)).1=eP lE aL 2054 (aZ 1 aL 0 iS aS):=by unfold aT;rw[if_neg (by decide),if_neg (by omega)]
 have hr:aJ arpP=(⟨lE,aL,2054,iC (aZ 1 aL 0 iS aS)⟩,0):=by
  unfold arpP;rw[hw,he];exact fA _ _ _ _ (by decide) (by decide) hwl
 have hr2:bE (iC (aZ 1 aL 0 iS aS))=(⟨1,aL,0,iS,aS⟩,0):=gZ _ _ _ _ _ _ (.inl rfl) (by decide) (by decide)
 have hll:¬arpP.length<60:=by
  unfold arpP;rw[hw,he]
  unfold eP
  rw[List.length_append,List.length_replicate];omega
 unfold aK.answer
 rw[hr]
 dsimp only
 rw[if_neg (by rintro(h|h|h);exact h rfl;exact h rfl;exact hll h),if_pos rfl,hr2]
 dsimp only
 rw[if_neg (by rintro(h|h|h)<;>exact h rfl)]
 unfold aK.arp
 dsimp only
 rw[if_pos rfl]
 rfl
section
variable {im dg ld:List UInt8} {n r i a t F bd ak sl:Nat} {s u w y:St} {h:aK} {du:Int} {d:RnD}
end
end Go.Proofs.YtcbkaiakdhiloacGreatDoor
namespace Go.Proofs.YtcbkaiakdhiloacGreatDoor
open Go.RowKit Go.Proofs
section
variable {c:JG} {y:Way} {im:List UInt8} {k q i v tw F nx pt:Nat} {s t:St} {h:aK} {g:CQ} {du T:Int}
def asked (y:Way) (s:St):St:={s with block:=y.bl,wind:=y.wd,phase:=2,peer:=y.pe}
theorem Aqqq.rxAs (A:Aqqq c nx pt s) (r:List (List UInt8)):Aqqq c nx pt {s with rx:=r}:=⟨A.cc,A.lease,A.addr,A.mask,A.router,A.src,A.untl,A.phase,A.port,A.block,A.wind,A.next,A.came,A.image,A.goal,A.last⟩
theorem Aqqq.txAs (A:Aqqq c nx pt s) (r:List (List UInt8)):Aqqq c nx pt {s with tx:=r}:=⟨A.cc,A.lease,A.addr,A.mask,A.router,A.src,A.untl,A.phase,A.port,A.block,A.wind,A.next,A.came,A.image,A.goal,A.last⟩
theorem Aqqq.adr (A:Aqqq c nx pt s):s.address=aS:=by unfold St.address;rw[if_pos (by rw[A.lease];decide),A.addr]
theorem Aqqq.ovr (A:Aqqq c nx pt s):s.over=false:=by unfold St.over;rw[A.phase];rfl
theorem Aqqq.cm (A:Aqqq c nx pt s):s.Cm:=fun _=>⟨by rw[A.block];decide,by rw[A.next];omega⟩
theorem Aqqq.lq (A:Aqqq c nx pt s) (X:Cxqq c y im) (h1:y.nx=nx) (h2:y.pt=pt):Lqqq c y im 0 (asked y s):=
 ⟨A.cc,A.lease,A.addr,A.mask,A.router,A.src.trans h1.symm,A.untl,rfl,A.port.trans h2.symm,rfl,rfl,rfl,A.next,⟨0,A.came,X.ok.wd⟩,by show s.image=_;rw[A.image,Nat.zero_mul];rfl,Nat.succ_pos _⟩
theorem Aqqq.oack (A:Aqqq c nx pt s) (C:Cqqq c) (X:Cxqq c y im) (h1:y.nx=nx) (h2:y.pt=pt) (h3:y.bl=min c.block 300) (h4:y.wd=c.window) (hi:i<65536):s.frameP (oF2 nx pt i y.pe im.length (min c.block 300) c.window)=(asked y s).got:=by
 have hb9:=C.b9;have hb8:=C.b8;have hw8:=C.w8;have hw1:=C.w1;have hl:=X.len;have hca:=X.cap
 unfold oF2
 rw[vO s (by rw[A.cc];exact C.card.symm) hi (by decide) (h1▸X.ok.nx) (by decide) X.ok.pe (h2▸X.ok.pt) (oackB_eq (by omega) (by omega) (by omega)).2,if_neg (h2▸X.ok.pt68),if_pos ⟨by unfold St.busy;rw[A.phase];rfl,by rw[A.adr];decide,A.adr.symm,A.src.symm,A.port.symm⟩]
 unfold St.loadsP
 rw[oackB_rd (by omega) (by omega) (by omega),if_pos rfl]
 unfold St.loads
 dsimp only
 rw[if_neg (by intro x;rw[A.phase]at x;exact absurd x.1 (by decide)),if_neg (by decide),if_neg (by rw[A.phase];decide),if_neg (by decide),if_pos rfl]
 unfold fsA St.agree
 dsimp only
 rw[(dec_ok (n:=im.length) (by omega)).2.1]
 dsimp only
 rw[if_neg (by rintro⟨x,_⟩;exact absurd x (by decide)),if_neg (by rintro⟨x,_⟩;exact absurd x (by decide)),if_pos rfl,if_pos (by rw[A.cc];exact hca)]
 unfold St.agree
 dsimp only
 rw[(dec_ok (n:=min c.block 300) (by omega)).2.1]
 dsimp only
 rw[if_pos ⟨rfl,by omega,by rw[A.cc];omega⟩]
 unfold St.agree
 dsimp only
 rw[(dec_ok (n:=c.window) (by omega)).2.1]
 dsimp only
 rw[if_neg (by rintro⟨x,_⟩;exact absurd x (by decide)),if_pos ⟨rfl,by omega,by rw[A.cc];exact Nat.le_refl _⟩]
 unfold St.agree asked
 rw[h3,h4]
theorem Lqqq.oack (L:Lqqq c y im k s) (C:Cqqq c) (X:Cxqq c y im) (hi:i<65536):s.frameP (oF2 y.nx y.pt i y.pe im.length (min c.block 300) c.window)=s:=by
 have hb9:=C.b9;have hw8:=C.w8;have hl:=X.len
 unfold oF2
 rw[vO s (by rw[L.c];exact C.card.symm) hi (by decide) X.ok.nx (by decide) X.ok.pe X.ok.pt (oackB_eq (by omega) (by omega) (by omega)).2,if_neg X.ok.pt68,if_pos ⟨by unfold St.busy;rw[L.phase];rfl,by rw[L.adr];decide,L.adr.symm,L.src.symm,L.port.symm⟩]
 unfold St.loadsP
 rw[oackB_rd (by omega) (by omega) (by omega),if_pos rfl]
 unfold St.loads
 dsimp only
 rw[if_neg (by rintro⟨_,x⟩;exact x L.peer.symm),if_neg (by decide),if_pos L.phase,if_neg (by decide)]
theorem Aqqq.dat (A:Aqqq c nx pt s) (C:Cqqq c) (X:Cxqq c y im) (h1:y.nx=nx) (h2:y.pt=pt) (h3:y.bl=512) (h4:y.wd=1) (hi:i<65536):s.frameP (GG y i ((0+1)%65536) (iJ y im 0))=(asked y s).data ⟨3,(0+1)%65536,[],iJ y im 0,[]⟩:=by
 have hdl:=part_len X 0
 unfold GG
 rw[vO s (by rw[A.cc];exact C.card.symm) hi (by decide) X.ok.nx (by decide) X.ok.pe X.ok.pt (by rw[Cv];omega),if_neg X.ok.pt68,if_pos ⟨by unfold St.busy;rw[A.phase];rfl,by rw[A.adr];decide,A.adr.symm,h1.trans A.src.symm,h2.trans A.port.symm⟩]
 unfold St.loadsP
 rw[NJ _ _ (by decide) hdl,if_pos rfl]
 unfold St.loads
 dsimp only
 rw[if_neg (by intro x;rw[A.phase]at x;exact absurd x.1 (by decide)),if_neg (by decide),if_neg (by rw[A.phase];decide),if_pos rfl,if_pos rfl]
 have e:asked y s={s with phase:=2,peer:=y.pe}:=by
  unfold asked
  rw[h3,h4,←A.block,←A.wind]
 rw[e]
theorem Hr.two {k1 k2:Nat} {u:St} (r1:Hr c y im du q k k1 s t) (r2:Hr c y im du q k1 k2 {t with rx:=[]} u):Hr c y im du q k k2 s u:=by
 have n1:t.now=s.now:=r1.now
 have n2:u.now=t.now:=r2.now
 have a1:=r1.le;have a2:=r2.le
 have b1:=r1.up;have b2:=r2.up
 have c1:=r1.new;have c2:=r2.new
 refine⟨r2.m,by omega,fun x=> ?_,fun x y=> ?_,fun lo h=>r2.asc lo (r1.asc lo h),r2.txl,n2.trans n1,r2.draw.trans r1.draw,?_⟩
 ·by_cases e1:k1=k
  ·subst e1
   exact b2 x
  ·obtain⟨e2,e3⟩:=b1 e1
   by_cases e4:k2=k1
   ·exact⟨by omega,e3⟩
   ·have:=(b2 e4).2;omega
 ·have e1:=c1 x y
  by_cases e4:k2=k1
  ·omega
  ·have:=(b2 e4).2;omega
 ·have:=r2.ts
  rw[show({t with rx:=[]}:St).now=s.now from n1]at this
  exact this
theorem Aqqq.hearO (A:Aqqq c nx pt s) (C:Cqqq c) (X:Cxqq c y im) (h1:y.nx=nx) (h2:y.pt=pt) (h3:y.bl=min c.block 300) (h4:y.wd=c.window) (hi:i<65536) (hk:s.cache=[ntK du 0]) (hx:s.tx.length≤16) (t0:0≤s.now) (t1:s.now≤1000000) (b:Bool):
 ∃k',Hr c y im du 1 0 k' (asked y s) (s.hear b (oF2 nx pt i y.pe im.length (min c.block 300) c.window)):=by
 have key:∀z:St,Aqqq c nx pt z→z.cache=[ntK du 0]→z.tx.length≤16→0≤z.now→z.now≤1000000→Hr c y im du 1 0 0 (asked y z) (z.hear1 (oF2 nx pt i y.pe im.length (min c.block 300) c.window))∧Lqqq c y im 0 (z.hear1 (oF2 nx pt i y.pe im.length (min c.block 300) c.window)):=by
  intro z Z zk zx z0 z1
  unfold St.hear1
  rw[Z.ovr,if_neg (by decide),Z.oack C X h1 h2 h3 h4 hi]
  obtain⟨t,et,G⟩:=got_any (Z.lq X h1 h2) X zk zx (asked y z).came
  have et':(asked y z).got=t:=et
  rw[et']
  exact⟨G.hr zk z0 z1 (Nat.le_refl _) (fun x=>absurd rfl x) (fun x=>absurd x (by decide)),G.l⟩
 unfold St.hear
 cases b
 ·rw[if_neg (by decide)]
  exact⟨0,(key s A hk hx t0 t1).1⟩
 ·rw[if_pos rfl]
  obtain⟨R,L⟩:=key {s with rx:=[oF2 nx pt i y.pe im.length (min c.block 300) c.window]} (A.rxAs _) hk hx t0 t1
  generalize({s with rx:=[oF2 nx pt i y.pe im.length (min c.block 300) c.window]}:St).hear1 (oF2 nx pt i y.pe im.length (min c.block 300) c.window)=z at*
  have e:({z with rx:=[]}:St).hear1 (oF2 nx pt i y.pe im.length (min c.block 300) c.window)={z with rx:=[]}:=by
   unfold St.hear1
   rw[(L.rxAs []).ovr,if_neg (by decide),←h1,←h2]
   exact(L.rxAs []).oack C X hi
  rw[e]
  exact⟨0,R.m.rxAs [],R.le,R.up,R.new,R.asc,R.txl,R.now,R.draw,R.ts⟩
theorem Aqqq.hearD (A:Aqqq c nx pt s) (C:Cqqq c) (X:Cxqq c y im) (h1:y.nx=nx) (h2:y.pt=pt) (h3:y.bl=512) (h4:y.wd=1) (hi:i<65536) (hk:s.cache=[ntK du 0]) (hx:s.tx.length≤16) (t0:0≤s.now) (t1:s.now≤1000000) (b:Bool):
 ∃k',Hr c y im du 0 0 k' (asked y s) (s.hear b (GG y i ((0+1)%65536) (iJ y im 0))):=by
 have key:∀z:St,Aqqq c nx pt z→z.cache=[ntK du 0]→z.tx.length≤16→0≤z.now→z.now≤1000000→Hr c y im du 0 0 1 (asked y z) (z.hear1 (GG y i ((0+1)%65536) (iJ y im 0))):=by
  intro z Z zk zx z0 z1
  unfold St.hear1
  rw[Z.ovr,if_neg (by decide),Z.dat C X h1 h2 h3 h4 hi]
  obtain⟨t,et,g1,g2⟩:=(Z.lq X h1 h2).new X zk zx
  rw[et]
  by_cases hf:0+1<nbK y im
  ·exact(g1 hf).hr zk z0 z1 (by omega) (fun _=>⟨rfl,rfl⟩) fun _ _=>rfl
  ·have d:=g2 hf
   exact⟨.inr ⟨d.kk.symm,d.c,d.phase,d.image⟩,by omega,fun _=>⟨rfl,rfl⟩,fun _ _=>rfl,fun lo h=>d.tx.asc h (by omega),d.txl,d.now,d.draw,.inl d.phase⟩
 unfold St.hear
 cases b
 ·rw[if_neg (by decide)]
  exact⟨1,key s A hk hx t0 t1⟩
 ·rw[if_pos rfl]
  have R:=key {s with rx:=[GG y i ((0+1)%65536) (iJ y im 0)]} (A.rxAs _) hk hx t0 t1
  generalize({s with rx:=[GG y i ((0+1)%65536) (iJ y im 0)]}:St).hear1 (GG y i ((0+1)%65536) (iJ y im 0))=z at*
  have n1:z.now=s.now:=R.now
  obtain⟨k2,R2⟩:=(R.m.rxAs []).hear1 X R.txl (by show 0≤z.now;omega) (by show z.now≤_;omega) hi (show 0<nbK y im from Nat.succ_pos _)
  have R':Hr c y im du 0 0 1 (asked y s) z:=⟨R.m,R.le,R.up,R.new,R.asc,R.txl,R.now,R.draw,R.ts⟩
  exact⟨k2,R'.two R2⟩
def AskOut (c:JG) (im:List UInt8) (nx pt:Nat) (o:Bool) (du T:Int) (B:Nat) (s:St) (h:aK) (g:CQ) (r:Option (St×aK×CQ)):Prop:=
 (∃h' g',r=some ({s with tx:=[]},h',g')∧Ha im nx o h'∧h'.port≤s.tsends∧h'.now=h.now∧h'.whn=h.whn∧g'.lost≤2∧Wa g' s∧g'.lost=g.els s+1∧g'.n≤g.n+B)∨
 (∃y s' h' g' k',r=some (s',h',g')∧Cxqq c y im∧So c y im du T k' s' g'∧s'.tx=[]∧Hq y im k' h'∧h'.now=h.now∧(h'.whn=h.whn∨h'.whn=h.now)∧g'.n≤g.n+B)
theorem first_ask (o:Bool) (C:Cqqq c) (hnx:nx=aF∨nx=hFar) (hpt:pt<65536) (hpt8:pt≠68) (hsh:sha im=c.digest) (hlen:im.length<4000) (A:Aqqq c nx pt s) (hk:s.cache=[ntK du 0]) (P:Pb T s g) (hx:s.tx=[mFqq nx pt i 69 (rrqB c)]) (hi:i<65536) (H:Ha im nx o h) (hpo:h.port+1≤s.tsends) (hF:510≤F) (hN:g.n+144*F<4611686018427387904):
 AskOut c im nx pt o du T (144*F) s h g (bTurns tw F s h g):=by
 obtain⟨F,rfl⟩:∃F',F=F'+1:=⟨F-1,by omega⟩
 have hts:=P.ts
 have hes:=g.els_le s
 have hlo:=P.lost
 have hpm:(h.port+1)%65536=h.port+1:=Nat.mod_eq_of_lt (by omega)
 have hb8:=C.b8;have hb9:=C.b9;have hw1:=C.w1;have hw8:=C.w8;have hcap:=C.cap
 have hnx4:nx<4294967296:=by rcases hnx with rfl|rfl<;>decide
 obtain⟨s0,hs0⟩:∃s0:St,s0={s with tx:=[]}:=⟨_,rfl⟩
 have A0:Aqqq c nx pt s0:=by rw[hs0];exact A.txAs []
 have hk0:s0.cache=[ntK du 0]:=by rw[hs0];exact hk
 have P0:Pb T s0 g:=by rw[hs0];exact⟨P.rx,P.now,P.t0,P.t1,P.lost,P.ts⟩
 have hx0:s0.tx=[]:=by rw[hs0]
 have hel:g.els s0=g.els s:=by rw[hs0];rfl
 have wOf:∀{g':CQ},Wa g' s0→Wa g' s:=fun w=>by rw[hs0]at w;exact⟨w.lease,w.phase,w.bytes,w.cached⟩
 have hans:∃y h1 a,h.answer (mFqq nx pt i 69 (rrqB c))=(h1,[a],true)∧Cxqq c y im∧Hq y im 0 h1∧Ha im nx o h1∧h1.port=h.port+1∧h1.now=h.now∧h1.whn=h.whn∧lvN h1=0∧a.length≤1048576∧1≤y.wd∧∀b,∃q k',Hr c y im du q 0 k' (asked y s0) (s0.hear b a):=by
  cases o with
  |true=>
   have e:=hears_opt C H hnx4 hpt hi
   obtain⟨y,hy⟩:∃y:Way,y=⟨nx,pt,h.port+1,min c.block 300,c.window⟩:=⟨_,rfl⟩
   have X:Cxqq c y im:=by
    subst hy
    exact⟨⟨hnx4,hpt,hpt8,by show h.port+1<65536;omega,by show h.port+1≠67;omega,by show 1≤min c.block 300;omega,by show min c.block 300≤1024;omega,hw1,hw8⟩,hnx,by show 8≤min c.block 300;omega,C.card,C.rx,C.tx,by omega,hsh,hlen⟩
   rw[hpm]at e
   refine⟨y,_,_,e,X,?_,⟨H.image,H.next,H.options,by show(h.port+1)%65536≤60;omega,Nat.zero_le _,hw8⟩,hpm,rfl,rfl,?_,?_,X.ok.wd,fun b=> ?_⟩
   ·subst hy
    exact⟨⟨H.image,H.next,hpm,rfl,rfl⟩,Nat.le_refl _,Nat.zero_le _⟩
   ·unfold lvN heardB;dsimp only;split<;>rfl
   ·obtain⟨_,_,_,_,_,_,hz⟩:=gB (d:=aL) (src:=bG) (i:=(h.id+1)%65536) (ttl:=9) (fi:=nx) (ti:=aS) (fm:=h.port+1) (tp:=pt) (ld:=oackB im.length (min c.block 300) c.window) (Nat.mod_lt _ (by decide)) (by decide) hnx4 (by decide) (by omega) hpt (oackB_eq (by omega) (by omega) (by omega)).2
    exact Nat.le_trans hz (by decide)
   ·obtain⟨k',R⟩:=A0.hearO C X (by rw[hy]) (by rw[hy]) (by rw[hy]) (by rw[hy]) (i:=(h.id+1)%65536) (Nat.mod_lt _ (by decide)) hk0 (by rw[hx0];exact Nat.zero_le _) (by rw[P0.now];exact P0.t0) (by rw[P0.now];exact P0.t1) b
    rw[show y.pe=h.port+1 by rw[hy]]at R
    exact⟨1,k',R⟩
  |false=>
   have X:Cxqq c (way5 nx pt h) im:=⟨⟨hnx4,hpt,hpt8,by show(h.port+1)%65536<65536;omega,by show(h.port+1)%65536≠67;omega,by show 1≤512;decide,by show 512≤1024;decide,by show 1≤1;decide,by show 1≤8;decide⟩,hnx,by show 8≤512;decide,C.card,C.rx,C.tx,by omega,hsh,hlen⟩
   obtain⟨h1,a,e,o1,n1,n2,n3,n4,hB⟩:=hears_no C H X.ok hi
   obtain⟨⟨j,hj,ea⟩,_⟩:=hB
   refine⟨_,h1,a,e,X,o1,⟨o1.o.image,o1.o.next,n4,by rw[o1.o.port];show(h.port+1)%65536≤60;omega,Nat.le_trans o1.le (Nat.zero_le _),by rw[o1.o.window];exact X.ok.wd2⟩,by rw[o1.o.port];exact hpm,n1,n2,n3,by rw[ea];exact F8 X.ok hj (part_len X 0),X.ok.wd,fun b=> ?_⟩
   obtain⟨k',R⟩:=A0.hearD C X rfl rfl rfl rfl hj hk0 (by rw[hx0];exact Nat.zero_le _) (by rw[P0.now];exact P0.t0) (by rw[P0.now];exact P0.t1) b
   rw[←ea]at R
   exact⟨0,k',R⟩
 obtain⟨y,h1,a,ea,X,o1,H1,hp1,hn1,hw1',hlv,hal,hyw,hR⟩:=hans
 have hnb:=nbK_le X
 obtain⟨g',b,e,hn,hl2,w,hl⟩:=gone_el g s0 P0.lost
 have hs1:=H.sent
 have hs2:=H.window
 rw[turns_cons F hx (by rw[hx];exact Nat.le_of_ble_eq_true rfl),←hs0,bGoes,if_pos ⟨mF_len hnx4 hpt hi (by decide) (rrqB_eq C).2,by omega,rrqF_num C hnx4 hpt hi,by omega,by omega⟩]
 dsimp only
 rw[ea]
 dsimp only
 rw[if_pos ⟨rfl,Nat.le_of_ble_eq_true rfl⟩,e]
 dsimp only
 obtain⟨F',rfl⟩:∃F',F=F'+1:=⟨F-1,by omega⟩
 cases b with
 |true=>
  rw[if_pos rfl]at hl⊢
  left
  rw[bGoes]
  dsimp only
  rw[turns_nil hx0,hs0]
  exact⟨h1,g',rfl,H1,by omega,hn1,hw1',hl2,wOf w,by omega,by omega⟩
 |false=>
  rw[if_neg (by decide)]at hl⊢
  obtain⟨g2,b,e',hn',hl2',w',hl'⟩:=gone_el g' s0 (by omega)
  rw[comes_cons tw a [] s0 g' P0.rx (by rw[A0.cc];exact C.rx) hal A0.cm (by omega) (by omega) e']
  have hle:g'.els s0=g.els s0:=by rw[w.els];omega
  cases b with
  |true=>
   rw[if_pos rfl]at hl'⊢
   left
   rw[bComes]
   dsimp only
   rw[bGoes]
   dsimp only
   rw[turns_nil hx0,hs0]
   exact⟨h1,g2,rfl,H1,by omega,hn1,hw1',hl2',wOf w',by omega,by omega⟩
  |false=>
   rw[if_neg (by decide)]at hl'⊢
   right
   obtain⟨q,k1,R⟩:=hR (decide (0<tw∧g2.n%tw=0))
   have hrx:=hear_rx (b:=decide (0<tw∧g2.n%tw=0)) a P0.rx
   generalize s0.hear (decide (0<tw∧g2.n%tw=0)) a=t at*
   rw[bComes]
   dsimp only
   rw[bGoes]
   dsimp only
   have hn:=R.now
   have hts:=R.ts
   have hpn:(asked y s0).now=T:=P0.now
   have S1:So c y im du T k1 t g2:=by
    refine⟨R.m,hrx,R.txl,hn.trans hpn,P.t0,P.t1,hl2',?_⟩
    rcases R.m with⟨L,_⟩|⟨hm,_⟩
    ·rcases hts with hts|hts
     ·exact absurd hts (by rw[L.phase];decide)
     ·exact .inr ⟨by omega,by omega,by omega,by omega⟩
    ·exact .inl hm
   have hk1:k1≤1:=by
    by_cases x:k1=0
    ·omega
    ·have:=(R.up x).1;omega
   have:=S1.m.le
   obtain⟨s2,h2,g3,k2,e2,S2,hx2,o2,b1,b2,b3,b4,b5⟩:=turns_soup (tw:=tw) X (F'+1) 0 k1 t h1 g2 S1 ⟨o1.o,Nat.le_trans o1.le (Nat.zero_le _),by omega⟩ (R.asc 0 (by show Asc y 0 s0.tx 0;rw[hx0];exact Nat.le_refl _)) (by omega) (by omega) (by omega)
   refine⟨y,s2,h2,g3,k2,e2,X,S2,hx2,o2,b1.trans hn1,?_,by omega⟩
   rw[hn1,hw1']at b2
   exact b2
end
end Go.Proofs.YtcbkaiakdhiloacGreatDoor
namespace Go.Proofs.YtcbkaiakdhiloacGreatDoor
open Go.RowKit Go.Proofs
structure Tk (s t:St):Prop where
 c:t.c=s.c
 rx:t.rx=s.rx
 lease:t.lease=s.lease
 addr:t.addr=s.addr
 mask:t.mask=s.mask
 router:t.router=s.router
 source:t.source=s.source
 untl:t.untl=s.untl
 phase:t.phase=s.phase
 port:t.port=s.port
 peer:t.peer=s.peer
 block:t.block=s.block
 wind:t.wind=s.wind
 next:t.next=s.next
 came:t.came=s.came
 image:t.image=s.image
 goal:t.goal=s.goal
 last:t.last=s.last
theorem Tk.refl (s:St):Tk s s:=⟨rfl,rfl,rfl,rfl,rfl,rfl,rfl,rfl,rfl,rfl,rfl,rfl,rfl,rfl,rfl,rfl,rfl,rfl⟩
theorem Tk.trans {a b d:St} (x:Tk a b) (z:Tk b d):Tk a d:=⟨z.c.trans x.c,z.rx.trans x.rx,z.lease.trans x.lease,z.addr.trans x.addr,z.mask.trans x.mask,z.router.trans x.router,z.source.trans x.source,z.untl.trans x.untl,z.phase.trans x.phase,z.port.trans x.port,z.peer.trans x.peer,z.block.trans x.block,z.wind.trans x.wind,z.next.trans x.next,z.came.trans x.came,z.image.trans x.image,z.goal.trans x.goal,z.last.trans x.last⟩
def pKqq (s:St) (p:List UInt8):Prop:=∃i,i<65536∧p=pkU i aS s.source s.port s.goal s.last
def fKqq (s:St) (f:List UInt8):Prop:=∃i,i<65536∧f=mFqq s.source s.port i s.goal s.last
theorem Tk.pK {s t:St} (k:Tk s t) {p:List UInt8} (h:pKqq s p):pKqq t p:=by
 obtain⟨i,hi,e⟩:=h
 exact⟨i,hi,by rw[e,k.source,k.port,k.goal,k.last]⟩
theorem Tk.fK {s t:St} (k:Tk s t) {p:List UInt8} (h:fKqq t p):fKqq s p:=by
 obtain⟨i,hi,e⟩:=h
 exact⟨i,hi,by rw[e,k.source,k.port,k.goal,k.last]⟩
section
variable {c:JG} {y:Way} {im:List UInt8} {k i tw F nx pt d:Nat} {s t:St} {h:aK} {g:CQ} {du:Int}
theorem Lqqq.tk (L:Lqqq c y im k s) (z:Tk s t):Lqqq c y im k t:=⟨z.c.trans L.c,z.lease.trans L.lease,z.addr.trans L.addr,z.mask.trans L.mask,z.router.trans L.router,z.source.trans L.src,z.untl.trans L.untl,z.phase.trans L.phase,z.port.trans L.port,z.peer.trans L.peer,z.block.trans L.block,z.wind.trans L.wind,z.next.trans L.next,by rw[z.came];exact L.came,z.image.trans L.image,L.kn⟩
theorem Aqqq.tk (A:Aqqq c nx pt s) (z:Tk s t):Aqqq c nx pt t:=⟨z.c.trans A.cc,z.lease.trans A.lease,z.addr.trans A.addr,z.mask.trans A.mask,z.router.trans A.router,z.source.trans A.src,z.untl.trans A.untl,z.phase.trans A.phase,z.port.trans A.port,z.block.trans A.block,z.wind.trans A.wind,z.next.trans A.next,z.came.trans A.came,z.image.trans A.image,z.goal.trans A.goal,z.last.trans A.last⟩
structure Bzqq (s:St):Prop where
 card:s.c.card=aL
 crx:s.c.rx=16
 ctx:s.c.tx=16
 rx:s.rx=[]
 lease:s.lease=4
 addr:s.addr=aS
 mask:s.mask=4294967040
 router:s.router=aF
 src:s.source=aF∨s.source=hFar
 untl:s.untl=0
 phase:s.phase=1∨s.phase=2
 cm:s.Cm
theorem Bzqq.tk (b:Bzqq s) (z:Tk s t):Bzqq t:=⟨by rw[z.c];exact b.card,by rw[z.c];exact b.crx,by rw[z.c];exact b.ctx,z.rx.trans b.rx,z.lease.trans b.lease,z.addr.trans b.addr,z.mask.trans b.mask,z.router.trans b.router,by rw[z.source];exact b.src,z.untl.trans b.untl,by rw[z.phase];exact b.phase,by unfold St.Cm;rw[z.phase,z.block,z.next,z.image];exact b.cm⟩
theorem Bzqq.adr (b:Bzqq s):s.address=aS:=by unfold St.address;rw[if_pos (by rw[b.lease];decide),b.addr]
theorem Bzqq.hop (b:Bzqq s):s.hop s.source=aF:=hop_nx b.mask b.router b.addr b.src
theorem Bzqq.ovr (b:Bzqq s):s.over=false:=by unfold St.over;rcases b.phase with e|e<;>rw[e]<;>rfl
theorem Bzqq.busy (b:Bzqq s):s.busy=true:=by unfold St.busy;rcases b.phase with e|e<;>rw[e]<;>rfl
theorem neighK (hk:s.cache=[ntK du 0]):s.neighbours={s with cache:=if s.now<du then [ntK du 0]else []}:=by
 unfold St.neighbours
 rw[hk]
 by_cases h:s.now<du
 ·have e1:[ntK du 0].filterMap (St.keepE s.now)=[ntK du 0]:=by
   have:St.keepE s.now (ntK du 0)=some (ntK du 0):=if_pos h
   rw[List.filterMap_cons,this];rfl
  have e2:[ntK du 0].filter (St.asksE s.now)=[]:=by
   have:St.asksE s.now (ntK du 0)=false:=by unfold St.asksE;rw[decide_eq_true (show s.now<(ntK du 0).due from h)];rfl
   rw[List.filter_cons,this];rfl
  rw[e1,e2,if_pos h]
  rfl
 ·have e1:[ntK du 0].filterMap (St.keepE s.now)=[]:=by
   have:St.keepE s.now (ntK du 0)=none:=(if_neg h).trans (if_pos rfl)
   rw[List.filterMap_cons,this];rfl
  have e2:[ntK du 0].filter (St.asksE s.now)=[]:=by
   have:St.asksE s.now (ntK du 0)=false:=by unfold St.asksE;rw[show(ntK du 0).known=true from rfl];simp
   rw[List.filter_cons,this];rfl
  rw[e1,e2,if_neg h]
  rfl
theorem neighW {ak:Int} {p:List UInt8} (hk:s.cache=[ntW du ak p]) (ha:ak≠3) (had:s.address=aS) (hc:s.c.card=aL) (hx:s.tx=[]) (h16:s.c.tx=16) (hn:¬s.now<du):s.neighbours={s with cache:=[ntW (wrap64 (du+2)) (wrap64 (ak+1)) p],tx:=[uA]}:=by
 unfold St.neighbours
 rw[hk]
 have hd:decide ((ntW du ak p).asked=3)=false:=decide_eq_false ha
 have e1:[ntW du ak p].filterMap (St.keepE s.now)=[ntW (wrap64 (du+2)) (wrap64 (ak+1)) p]:=by
  have:St.keepE s.now (ntW du ak p)=some (ntW (wrap64 (du+2)) (wrap64 (ak+1)) p):=by
   unfold St.keepE
   rw[if_neg (show ¬s.now<(ntW du ak p).due from hn),hd,if_neg (by rintro x;cases x)]
   rfl
  rw[List.filterMap_cons,this];rfl
 have e2:[ntW du ak p].filter (St.asksE s.now)=[ntW du ak p]:=by
  have:St.asksE s.now (ntW du ak p)=true:=by
   unfold St.asksE
   rw[decide_eq_false (show ¬s.now<(ntW du ak p).due from hn),hd]
   rfl
  rw[List.filter_cons,this];rfl
 rw[e1,e2]
 show({s with cache:=[ntW (wrap64 (du+2)) (wrap64 (ak+1)) p]}:St).ask s.address aF=_
 rw[had]
 unfold St.ask St.arp
 rw[iX (by show s.tx.length≠s.c.tx;rw[hx,h16];decide)]
 show({s with cache:=[ntW (wrap64 (du+2)) (wrap64 (ak+1)) p],tx:=s.tx++[(aT lE s.c.card 2054 (gQ 1 s.c.card aS iS aF).1).1]}:St)=_
 rw[hc,hx]
 rfl
theorem neighW0 {ak:Int} {p:List UInt8} (hk:s.cache=[ntW du ak p]) (hn:s.now<du):s.neighbours=s:=by
 unfold St.neighbours
 rw[hk]
 have e1:[ntW du ak p].filterMap (St.keepE s.now)=[ntW du ak p]:=by
  have:St.keepE s.now (ntW du ak p)=some (ntW du ak p):=if_pos hn
  rw[List.filterMap_cons,this];rfl
 have e2:[ntW du ak p].filter (St.asksE s.now)=[]:=by
  have:St.asksE s.now (ntW du ak p)=false:=by unfold St.asksE;rw[decide_eq_true (show s.now<(ntW du ak p).due from hn)];rfl
  rw[List.filter_cons,this];rfl
 rw[e1,e2,←hk]
 rfl
def Fiqq (T:Int) (s t:St):Prop:=s.tagain≤T∧t.tsends=s.tsends+1∧T+2*2^s.tsends-1≤t.tagain∧t.tagain≤T+2*2^s.tsends+1
def Nfqq (T:Int) (s t:St):Prop:=T<s.tagain∧t.tsends=s.tsends∧t.tagain=s.tagain
theorem again_out {T:Int} (b:Bzqq s) (hnow:s.now=T) (h0:0≤T) (h1:T≤1000000) (hts:s.tsends≤3) (hx:s.tx.length≤1) (hcc:s.cache=[]∨(∃du,s.cache=[ntK du 0])∨∃du ak p0,s.cache=[ntW du ak p0]):
 ∃t,s.again=t∧Tk s t∧t.now=s.now∧
  ((Nfqq T s t∧t.tx=s.tx∧t.cache=s.cache)∨
   (Fiqq T s t∧((∃du,s.cache=[ntK du 0]∧t.cache=s.cache∧∃f,fKqq s f∧t.tx=s.tx++[f])∨
              (s.cache=[]∧t.tx=s.tx++[uA]∧∃p,pKqq s p∧t.cache=[ntW (T+2) 1 p])∨
              (∃du ak p0,s.cache=[ntW du ak p0]∧t.tx=s.tx∧∃p,pKqq s p∧t.cache=[ntW du ak p])))):=by
 unfold St.again
 rw[b.busy]
 by_cases hf:s.now<s.tagain
 ·rw[if_pos (.inr hf)]
  exact⟨s,rfl,.refl s,rfl,.inl ⟨⟨by omega,rfl,rfl⟩,rfl,rfl⟩⟩
 rw[if_neg (by rintro(x|x);cases x;exact hf x),if_neg (by omega)]
 have hw:=wait_bd s s.tsends (by omega) (by omega) hts
 have hFi:∀u:St,u.tsends=s.tsends+1→u.tagain=wrap64 (s.now+s.wait s.tsends)→Fiqq T s u:=fun u e1 e2=>⟨by omega,e1,by rw[e2];omega,by rw[e2];omega⟩
 have hid:s.id%65536<65536:=Nat.mod_lt _ (by decide)
 obtain⟨v,hv⟩:∃v:St,v={s with tagain:=wrap64 (s.now+s.wait s.tsends),tsends:=s.tsends+1}:=⟨_,rfl⟩
 have vc:v.c.card=aL:=by rw[hv];exact b.card
 have vh:v.hop v.source=aF:=by rw[hv];exact b.hop
 have vx:v.tx.length≠v.c.tx:=by rw[hv];show s.tx.length≠s.c.tx;rw[b.ctx];omega
 have va:v.address=aS:=by rw[hv];exact b.adr
 have vad:v.addr=aS:=by rw[hv];exact b.addr
 rw[←hv]
 rcases hcc with k0|⟨du,k1⟩|⟨du,ak,p0,k2⟩
 ·have e:=AN (s:=v) (dst:=v.source) (fm:=v.port) (port:=v.goal) (ld:=v.last) vc vh (by rw[hv];exact k0) vx vad
  have e':v.tell=_:=e
  rw[e']
  subst hv
  refine⟨_,rfl,⟨rfl,rfl,rfl,rfl,rfl,rfl,rfl,rfl,rfl,rfl,rfl,rfl,rfl,rfl,rfl,rfl,rfl,rfl⟩,rfl,.inr ⟨hFi _ rfl rfl,.inr (.inl ⟨k0,rfl,_,⟨s.id%65536,hid,rfl⟩,?_⟩)⟩⟩
  show [ntW (wrap64 (s.now+2)) 1 (pkU (s.id%65536) ({s with tagain:=wrap64 (s.now+s.wait s.tsends),tsends:=s.tsends+1}:St).address s.source s.port s.goal s.last)]=_
  rw[va,IntWalk.wrap64_in _ ⟨by omega,by omega⟩,hnow]
 ·have e:=yV (s:=v) (dst:=v.source) (fm:=v.port) (port:=v.goal) (ld:=v.last) (du:=du) (ak:=0) vc vh (by rw[hv];exact k1) vx
  have e':v.tell=_:=e
  rw[e',va]
  subst hv
  exact⟨_,rfl,⟨rfl,rfl,rfl,rfl,rfl,rfl,rfl,rfl,rfl,rfl,rfl,rfl,rfl,rfl,rfl,rfl,rfl,rfl⟩,rfl,.inr ⟨hFi _ rfl rfl,.inl ⟨du,k1,rfl,_,⟨s.id%65536,hid,rfl⟩,rfl⟩⟩⟩
 ·have e:=F4 (s:=v) (dst:=v.source) (fm:=v.port) (port:=v.goal) (ld:=v.last) (du:=du) (ak:=ak) (p:=p0) vc vh (by rw[hv];exact k2)
  have e':v.tell=_:=e
  rw[e',va]
  subst hv
  exact⟨_,rfl,⟨rfl,rfl,rfl,rfl,rfl,rfl,rfl,rfl,rfl,rfl,rfl,rfl,rfl,rfl,rfl,rfl,rfl,rfl⟩,rfl,.inr ⟨hFi _ rfl rfl,.inr (.inr ⟨du,ak,p0,k2,rfl,_,⟨s.id%65536,hid,rfl⟩,rfl⟩)⟩⟩
end
end Go.Proofs.YtcbkaiakdhiloacGreatDoor
