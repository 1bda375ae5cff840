/- Parts of the walk; written by programs, merged. -/
import Derived.Test.YtcbkaiakdhiloacGreatDoorRaq
set_option linter.unusedSimpArgs false
set_option linter.unusedVariables false
set_option maxRecDepth 20000
set_option maxHeartbeats 8000000
namespace Go.Proofs.YtcbkaiakdhiloacGreatDoor
open Go.RowKit Go.Proofs
attribute [local simp] dM ibq ibn eqN ltN leN eqL ltL gtL leL geL
attribute [local go_sem] aG aD aC aE
theorem xI:∀(n:Nat) (os:List bK) (l:List UInt8) (os':List bK),iM n os l=some os'→wtO os'≤wtO os+l.length
 |0,_,_,_,h=>by cases h
 |n+1,os,[],_,h=>by cases h
 |n+1,os,c::r,os',h=>by
  rw[gI]at h
  split at h
  ·cases h;omega
  ·split at h
   ·have:=xI n os r os' h;simp only[List.length_cons];omega
   ·cases r with
    |nil=>cases h
    |cons k r=>
     simp only at h
     split at h
     ·cases h
     ·have h1:=xI n _ _ os' h
      have h2:=Be os c (r.take k.toNat)
      simp only[List.length_cons,List.length_drop]at h1⊢
      rw[List.length_take]at h2
      omega
theorem Ka (os:List bK) (name file:List UInt8):wtO (iI os name file).1≤wtO os+name.length+file.length:=by
 have h0:wtO (os.filter fun o=> !(o.code==52))≤wtO os:=kW os
 unfold iI
 split
 ·simp only;omega
 ·split
  ·exact Nat.zero_le _
  ·split
   ·exact Nat.zero_le _
   ·next a h1=>
    have h2:wtO a≤wtO os+file.length:=by
     split at h1
     ·have:=xI _ _ _ _ h1;omega
     ·cases h1;omega
    split
    ·exact Nat.zero_le _
    ·next a2 h3=>
     have h4:wtO a2≤wtO os+name.length+file.length:=by
      split at h3
      ·have:=xI _ _ _ _ h3;omega
      ·cases h3;omega
     split
     ·exact Nat.zero_le _
     ·exact h4
 ·exact Nat.zero_le _
theorem wZ (l:List UInt8) (i j n:Nat) (hn:j-i=n):num (sub l i j)<256^n:=by
 have h:=BR (sub l i j)
 have h2:(sub l i j).length≤n:=by unfold sub;rw[List.length_drop,List.length_take];omega
 exact Nat.lt_of_lt_of_le h (Nat.pow_le_pow_right (by decide) h2)
theorem qV (l:List UInt8):(aQ l).1.yours<4294967296∧(aQ l).1.next<4294967296∧wtO (aQ l).1.os≤l.length+192:=by
 unfold aQ
 have h2:=wZ l 16 20 4 rfl
 have h3:=wZ l 20 24 4 rfl
 split
 ·exact⟨by decide,by decide,Nat.zero_le _⟩
 split
 ·exact⟨by decide,by decide,Nat.zero_le _⟩
 split
 ·exact⟨by decide,by decide,Nat.zero_le _⟩
 ·next os ho=>
  have w1:=xI _ _ _ _ ho
  have w2:=Ka os (sub l 44 108) (sub l 108 236)
  have s1:(sub l 44 108).length≤64:=by unfold sub;rw[List.length_drop,List.length_take];omega
  have s2:(sub l 108 236).length≤128:=by unfold sub;rw[List.length_drop,List.length_take];omega
  have hd:(l.drop 240).length≤l.length:=by rw[List.length_drop];omega
  simp only[wtO]at w1
  split
  ·next a heq=>
   rw[heq]at w2
   simp only at w2
   exact⟨h2,h3,by simp only;omega⟩
  ·exact⟨by show(0:Nat)<_;decide,by show(0:Nat)<_;decide,Nat.zero_le _⟩
def St.leasedP (s:St) (ld:List UInt8):St:=if(aQ ld).2=0∧(aQ ld).1.reply=true∧(aQ ld).1.xid=s.xid∧(aQ ld).1.mac=s.c.card then s.leased (aQ ld).1 else s
theorem E2 (s:St) (d:sI) (h:¬(((eF d.os 53).getD []).length=1∧(fT d.os 54 false).isSome=true)):s.leased d=s:=by
 unfold St.leased
 rw[kG]
 split
 ·next k fm e1 e2=>exact absurd ⟨by rw[e1];rfl,by rw[e2];rfl⟩ h
 ·rfl
instance (L:Lay) (d:sI) (A:Option Addr) (cap n g:Nat):Kp0 fun w=>CB w L d A cap n g:=⟨fun _ _ h f=>h.none f⟩
attribute [-go_sem] run_eql_struct run_neq_struct run_equalIn_agg in
theorem Br (L:Lay) (s:St) (ld:List UInt8) (w:World) (h:aA w L s) (hld:ld.length≤1048576):
 Calls Tryz.prog 131 #[.pointer (some ⟨L.p,0,none⟩),.string (bs ld)] w (bC L (s.leasedP ld) (.tuple #[]) w):=by
 have hin:=qV ld
 obtain⟨r,hr⟩:∃r,r=s.leasedP ld:=⟨_,rfl⟩
 rw[←hr]
 unfold St.leasedP at hr
 refine en Tryz.func131 Tryz.ntmps131 ?_
 refine W ?_
 refine sX (B9 ld w (by omega)) ?_
 rintro e w1 ⟨⟨A,cap,rfl,hS⟩,f1⟩
 refine⟨_,rfl,?_⟩
 generalize aQ ld=q at*
 obtain⟨d,k⟩:=q
 unfold yF
 dsimp only at hin hr hS⊢
 refine W ?_
 refine sA ?_
 intro w2 hG f2
 refine W ?_
 refine sT ?_
 intro w3 hG f3
 have f3:=bP f2 (Nat.le_refl _) f3
 have hD:CB w3 L d A cap d.os.length w1.heap.size:=⟨hG,(hS.sub (T:=bM L) (fun b _ hb=>h.lt b hb)).keep (f3.of_no _),fun hx=>absurd (h.lt _ hx) (by have:=f1.size;omega),rfl,by omega,hin.1,hin.2.1⟩
 have f:=f1.none f3
 replace h:=h.none f
 have hwt:=hD.wt
 generalize w1.heap.size=g at*
 obtain⟨n,hn⟩:∃n,d.os.length=n:=⟨_,rfl⟩
 rw[hn]at hD⊢
 clear f1 f2 f3 hG hS
 refine W ?_
 obtain⟨b,hb⟩:∃b,b=decide (¬(k=0∧d.reply=true∧d.xid=s.xid∧d.mac=s.c.card)):=⟨_,rfl⟩
 refine cM [0,4] [(42,.bool b)] (fun w'=>aA w' L s∧CB w' L d A cap n g∧Fr noB w w') ?_ ?_
 ·have hE:=mH d.mac s.c.card
  have hGd:=iA
  unfold xF at hE
  obtain⟨c,hc⟩:∃c,c=decide (d.mac≠s.c.card):=⟨_,rfl⟩
  replace hb:b= !decide (k=0∧d.reply=true∧d.xid=s.xid∧c=false):=by rw[hb,hc];simp
  rw[←hc]at hE
  clear hc hr hin
  refine dI (An h (An hD f)) [] (up 27 0) (h:= ?_)
  clear h hD f
  intro w5 h5 _
  by_cases a1:k=0
  cases a2:d.reply
  rotate_left
  by_cases a3:d.xid=s.xid
  cases c
  all_goals
   refine D ?_
   refine tN ?_
   exact mt h5
 clear h hD f
 rintro u w3 ⟨h,hD,f⟩
 cases b
 rotate_left
 ·rw[if_neg (of_decide_eq_true hb.symm)]at hr
  clear hb
  refine W ?_
  exact bH.two ⟨rfl,by rw[hr];exact h,f.of_no _⟩
 rw[if_pos (Decidable.not_not.1 (of_decide_eq_false hb.symm))]at hr
 clear hb
 refine W ?_
 refine sC (FN (bM L) A n cap d.os 53 w3 hD.sl (by have:=jO d.os;omega)) ?_
 intro w4 f4
 have h4:=h.none f4
 have hD4:=hD.none f4
 refine W ?_
 refine sC (gT d A cap n 54 false w4 hD4.hn (hD4.sl.sub fun b _ x=>x.elim) hwt) ?_
 intro w5 f5
 have h5:=h4.none f5
 have hD5:=hD4.none f5
 replace f:=(f.none f4).none f5
 clear h hD h4 hD4 f4 f5
 by_cases hq:((eF d.os 53).getD []).length=1∧(fT d.os 54 false).isSome=true
 rotate_left
 ·rw[E2 s d hq]at hr
  by_cases a1:((eF d.os 53).getD []).length=1
  ·have a2:(fT d.os 54 false).isSome=false:=by simpa[a1]using hq
   clear hq
   refine W ?_
   exact bH.two ⟨rfl,by rw[hr];exact h5,f.of_no _⟩
  ·clear hq
   refine W ?_
   exact bH.two ⟨rfl,by rw[hr];exact h5,f.of_no _⟩
 obtain⟨hlen,hsm⟩:=hq
 obtain⟨fm,hnu⟩:=Option.isSome_iff_exists.1 hsm
 have hfm:=nV _ _ _ _ hnu
 obtain⟨kd,hkd⟩:∃kd,eF d.os 53=some [kd]:=by
  cases ho:eF d.os 53 with
  |none=>rw[ho]at hlen;cases hlen
  |some l=>
   rw[ho]at hlen
   match l,hlen with
   |[x],_=>exact⟨x,rfl⟩
 have hl:s.leased d=(if kd=2 then if s.lease=1∧d.yours≠0 then({s with addr:=d.yours,server:=fm}:St).goes 2 else s
  else if kd=5 then if fm=s.server∨s.lease=6 then s.granted d fm else s
  else if kd=6 then if(fm=s.server∨s.lease=6)∧2≤s.lease∧s.lease≠3 then s.drop else s
  else s):=by unfold St.leased;rw[hkd,kG,hnu]
 rw[hl]at hr
 rw[hkd,hnu,Option.getD_some,Option.getD_some]
 clear hl hkd hnu hlen hsm hin
 have hi:∀h:0<(bs [kd]).size,(bs [kd])[0]'h=kd:=fun _=>rfl
 refine W ?_
 by_cases k2:kd=2
 ·have e2:kd.toNat=2:=by rw[k2];rfl
  rw[if_pos k2]at hr
  by_cases a1:s.lease=1
  by_cases a2:d.yours=0
  rotate_left
  ·rw[if_pos ⟨a1,a2⟩]at hr
   refine W ?_
   refine sB {s with addr:=d.yours} {h5.ok with addr:=hD5.yours} h5 ?_
   intro w6 h6 f6
   refine W ?_
   refine sB {s with addr:=d.yours,server:=fm} {h6.ok with server:=hfm} h6 ?_
   intro w7 h7 f7
   refine W ?_
   refine sC (yG L _ 2 w7 h7) ?_
   rintro w8 ⟨h8,f8⟩
   refine W ?_
   exact bH.two ⟨rfl,by rw[hr];exact h8,(((f.of_no _).trans f6).trans f7).trans f8⟩
  all_goals
   rw[if_neg (by omega)]at hr
   refine W ?_
   exact bH.two ⟨rfl,by rw[hr];exact h5,f.of_no _⟩
 rw[if_neg k2]at hr
 have n2:¬kd.toNat=2:=fun e=>k2 (UInt8.toNat_inj.1 e)
 by_cases k5:kd=5
 ·have e5:kd.toNat=5:=by rw[k5];rfl
  rw[if_pos k5]at hr
  clear n2 k2
  refine W ?_
  refine sC (CL L s d A cap n fm w5 h5 hD5.hn hD5.sl hwt hfm hD5.yours hD5.next) ?_
  rintro w6 ⟨h6,f6⟩
  refine W ?_
  exact bH.two ⟨rfl,by rw[hr];exact h6,(f.of_no _).trans f6⟩
 rw[if_neg k5]at hr
 have n5:¬kd.toNat=5:=fun e=>k5 (UInt8.toNat_inj.1 e)
 by_cases k6:kd=6
 ·have e6:kd.toNat=6:=by rw[k6];rfl
  rw[if_pos k6]at hr
  clear n2 k2 n5 k5
  by_cases a1:2≤s.lease
  by_cases a2:s.lease=3
  rotate_left
  by_cases a3:fm=s.server
  rotate_left
  by_cases a4:s.lease=6
  rotate_left
  iterate 3
   rw[if_neg (by omega)]at hr
   refine W ?_
   exact bH.two ⟨rfl,by rw[hr];exact h5,f.of_no _⟩
  all_goals
   rw[if_pos (by omega)]at hr
   refine W ?_
   refine sC (rE L s w5 h5) ?_
   intro w6 h6
   refine W ?_
   exact .comp (L1:=L) rfl (fun _=> .inl) (f.of_no _) ⟨rfl,by rw[hr];exact h6⟩
 rw[if_neg k6]at hr
 have n6:¬kd.toNat=6:=fun e=>k6 (UInt8.toNat_inj.1 e)
 refine W ?_
 exact bH.two ⟨rfl,by rw[hr];exact h5,f.of_no _⟩
end Go.Proofs.YtcbkaiakdhiloacGreatDoor
namespace Go.Proofs.YtcbkaiakdhiloacGreatDoor
open Go.RowKit Go.Proofs
attribute [local go_sem] aG aD aC aE
def xE (c:UInt8):Bool:=decide (48≤c.toNat)&&decide (c.toNat≤57)
def BN (l:List UInt8):Nat:=l.foldl (fun n c=>10*n+(c.toNat-48)) 0
theorem xT (l:List UInt8) (c:UInt8):BN (l++[c])=10*BN l+(c.toNat-48):=by unfold BN;rw[List.foldl_append];rfl
theorem AP:∀(n:Nat) (l:List UInt8),l.length=n→l.all xE=true→BN l<10^n
 |0,l,h,_=>by
  have:l=[]:=List.eq_nil_of_length_eq_zero h
  subst this;simp[BN]
 |n+1,l,h,ha=>by
  obtain⟨l',c,rfl⟩:∃l' c,l=l'++[c]:=⟨l.dropLast,l.getLast (by intro e;subst e;cases h),(List.dropLast_concat_getLast _).symm⟩
  rw[List.all_append,Bool.and_eq_true]at ha
  have hd:xE c=true:=by simpa using ha.2
  unfold xE at hd
  simp only[Bool.and_eq_true,decide_eq_true_eq]at hd
  have:=AP n l' (by simp at h;exact h) ha.1
  rw[xT,Nat.pow_succ];omega
theorem yK {l:List UInt8} (h:l.length<1∨7<l.length∨(1<l.length∧l[0]? =some 48)):vW l=none:=by unfold vW;rw[if_pos h]
theorem pT {l:List UInt8} {i:Nat} {c:UInt8} (hc:l[i]? =some c) (h:xE c=false):vW l=none:=by
 unfold vW
 split
 ·rfl
 ·rw[if_neg]
  intro ha
  rw[List.all_eq_true]at ha
  have:=ha c (List.mem_of_getElem? hc)
  unfold xE at h
  rw[this]at h;cases h
theorem zO {l:List UInt8} (h:¬(l.length<1∨7<l.length∨(1<l.length∧l[0]? =some 48))) (ha:l.all xE=true):vW l=some (BN l):=by
 unfold vW
 rw[if_neg h,if_pos (by unfold xE at ha;exact ha)];rfl
theorem Cl {l:List UInt8} {i:Nat} {c:UInt8} (h:l[i]? =some c) (ha:(l.take i).all xE=true) (hc:xE c=true):(l.take (i+1)).all xE=true∧BN (l.take (i+1))=10*BN (l.take i)+(c.toNat-48):=by
 have hi:i<l.length:=by
  rcases Nat.lt_or_ge i l.length with h1|h1
  ·exact h1
  ·rw[List.getElem?_eq_none h1]at h;cases h
 rw[List.getElem?_eq_getElem hi]at h
 injection h with h
 rw[List.take_succ_eq_append_getElem hi,h]
 exact⟨by rw[List.all_append,ha];simp[hc],xT _ _⟩
theorem iZ {l:List UInt8} (h:vW l=none):(.returned (.tuple #[.int .i64 0,.bool false]):Ending)= .returned (.tuple #[.int .i64 (((vW l).getD 0:Nat):Int),.bool (vW l).isSome]):=by rw[h];rfl
theorem Dz (l:List UInt8) (w:World) (hl:l.length≤4611686018427387904):
 Calls Tryz.prog 236 #[.string (bs l)] w fun e w'=>e= .returned (.tuple #[.int .i64 (((vW l).getD 0:Nat):Int),.bool (vW l).isSome])∧w'=w:=by
 by_cases h0:l=[]
 ·subst h0
  go_enter Tryz.func236,Tryz.ntmps236
  go_wp2_with fail
  go_ret2
  exact⟨rfl,rfl⟩
 have hl1:1≤l.length:=by rcases l with _|⟨a,l⟩;exact absurd rfl h0;simp
 have be:l.isEmpty=false:=by cases l;exact absurd rfl h0;rfl
 have H0:=Lib.hid h0
 clear h0
 by_cases h7:7<l.length
 ·have hn:=Lib.hid (iZ (yK (.inr (.inl h7))))
  have h7i:(7:Int)<(l.length:Int):=by omega
  go_enter Tryz.func236,Tryz.ntmps236
  go_wp2_with fail
  go_ret2
  exact⟨hn.out,rfl⟩
 have h7i:¬(7:Int)<(l.length:Int):=by omega
 obtain⟨c0,hc0⟩:∃c,l[0]? =some c:=⟨_,List.getElem?_eq_getElem (by omega)⟩
 have hg0:∀h:0<(bs l).size,(bs l)[0]'h=c0:=fun h=>by rw[jZ l 0 h];rw[List.getElem?_eq_getElem (by omega)]at hc0;injection hc0
 have hl0:(0:Int)<(l.length:Int):=by omega
 by_cases hz:1<l.length∧c0=48
 ·have hn:=Lib.hid (iZ (yK (.inr (.inr ⟨hz.1,by rw[hc0,hz.2]⟩))))
  have b0:((c0.toNat:Int)==48)=true:=by rw[hz.2];rfl
  have bn:(l==[48])=false:=by rw[beq_eq_false_iff_ne];rintro rfl;simp at hz
  have Hz:=Lib.hid (And.intro hz hc0)
  clear hz hc0
  go_enter Tryz.func236,Tryz.ntmps236
  go_wp2_with fail
  go_ret2
  exact⟨hn.out,rfl⟩
 ·have hnb0:¬(l.length<1∨7<l.length∨(1<l.length∧l[0]? =some 48)):=by
   rintro(x|x|⟨x,y⟩)
   ·omega
   ·exact h7 x
   ·rw[hc0]at y;exact hz ⟨x,by injection y⟩
  have HNB':=Lib.hid hnb0
  by_cases hc48:c0=48
  ·have bn:(l==[48])=true:=by
    have h1:l.length=1:=by
     rcases Nat.lt_or_ge 1 l.length with h|h
     ·exact absurd ⟨h,hc48⟩ hz
     ·omega
    match l,h1 with
    |[a],_=>simp at hc0;rw[hc0,hc48];rfl
   have b0:((c0.toNat:Int)==48)=true:=by rw[hc48];rfl
   have Hz:=Lib.hid (And.intro hz (And.intro hc0 (And.intro hc48 h7)))
   clear hz hc0 hc48 hnb0
   go_enter Tryz.func236,Tryz.ntmps236
   go_wp2_with fail
   go_loopw [24,4] (fun iv nv wr=>∃(i:Nat),i≤l.length∧iv= .int .i64 (i:Int)∧nv= .int .i64 (BN (l.take i):Int)∧(l.take i).all xE=true∧wr=w) (fun iv _ _=>l.length-(intOf iv).toNat)
   case atStart=>exact⟨0,by omega,rfl,rfl,rfl,rfl⟩
   case round=>
    obtain⟨i,hi,rfl,rfl,ha,hw⟩:=hrel
    subst hw
    have hnl:=AP i (l.take i) (by rw[List.length_take];omega) ha
    have hpw:(10:Nat)^i≤10^7:=Nat.pow_le_pow_right (by decide) (by omega)
    have hnb:BN (l.take i)≤10000000:=by omega
    obtain⟨n,hnn⟩:∃n,BN (l.take i)=n:=⟨_,rfl⟩
    rw[hnn]at hnb⊢
    have Hn:=Lib.hid hnn
    have Ha:=Lib.hid ha
    clear hnl hpw hnn ha
    by_cases hlt:i<l.length
    ·obtain⟨c,hc⟩:∃c,l[i]? =some c:=⟨_,List.getElem?_eq_getElem hlt⟩
     have hgi:∀h:i<(bs l).size,(bs l)[i]'h=c:=fun h=>by rw[jZ l i h];rw[List.getElem?_eq_getElem hlt]at hc;injection hc
     have hcl:=c.toNat_lt
     have Hc:=Lib.hid hc
     clear hc
     by_cases h1:c.toNat<48
     ·have hbad:=Lib.hid (iZ (pT Hc.out (by unfold xE;simp;omega)))
      have h1i:(c.toNat:Int)<48:=by omega
      go_wp2_with fail
      go_ret2
      exact⟨hbad.out,rfl⟩
     ·have h1i:¬(c.toNat:Int)<48:=by omega
      by_cases h2:57<c.toNat
      ·have hbad:=Lib.hid (iZ (pT Hc.out (by unfold xE;simp;omega)))
       have h2i:57<(c.toNat:Int):=by omega
       go_wp2_with fail
       go_ret2
       exact⟨hbad.out,rfl⟩
      ·have h2i:¬57<(c.toNat:Int):=by omega
       obtain⟨v,hv⟩:∃v,c.toNat-48=v:=⟨_,rfl⟩
       have e1:IntKind.u8.wrap ((c.toNat:Int)-48)=(v:Int):=by rw[IntKind.wrap_u8'];omega
       have e2:IntKind.i64.wrap (v:Int)=(v:Int):=IntWalk.i64_in _ (by omega)
       obtain⟨m,hm⟩:∃m,10*n=m:=⟨_,rfl⟩
       have e3:IntKind.i64.wrap (10*(n:Int))=(m:Int):=by rw[IntWalk.i64_in _ (by omega)];omega
       obtain⟨k,hk⟩:∃k,m+v=k:=⟨_,rfl⟩
       have e4:IntKind.i64.wrap ((m:Int)+(v:Int))=(k:Int):=by rw[IntWalk.i64_in _ (by omega)];omega
       have hd:=Cl Hc.out Ha.out (by unfold xE;simp;omega)
       have Hd:=Lib.hid hd
       have Hk:=Lib.hid (And.intro hv (And.intro hm hk))
       clear hd hv hm hk
       go_wp2_with fail
       exact⟨⟨i+1,by omega,by rw[Int.natCast_add];rfl,by rw[Hd.out.2,Hn.out,Hk.out.1,Hk.out.2.1,Hk.out.2.2],Hd.out.1,trivial⟩,by simp only[intOf];omega⟩
    ·obtain rfl:i=l.length:=by omega
     have hgood:vW l=some n:=by rw[←Hn.out,List.take_length];exact zO HNB'.out (by have:=Ha.out;rwa [List.take_length]at this)
     have Hg:=Lib.hid hgood
     clear hgood
     go_wp2_with fail
     go_ret2
     exact⟨by rw[Hg.out];rfl,rfl⟩
  ·have b0:((c0.toNat:Int)==48)=false:=by
    have h1:c0.toNat≠48:=fun e=>hc48 (UInt8.toNat_inj.1 e)
    simp;omega
   have Hz:=Lib.hid (And.intro hz (And.intro hc0 (And.intro hc48 h7)))
   clear hz hc0 hc48 hnb0
   go_enter Tryz.func236,Tryz.ntmps236
   go_wp2_with fail
   go_loopw [24,4] (fun iv nv wr=>∃(i:Nat),i≤l.length∧iv= .int .i64 (i:Int)∧nv= .int .i64 (BN (l.take i):Int)∧(l.take i).all xE=true∧wr=w) (fun iv _ _=>l.length-(intOf iv).toNat)
   case atStart=>exact⟨0,by omega,rfl,rfl,rfl,rfl⟩
   case round=>
    obtain⟨i,hi,rfl,rfl,ha,hw⟩:=hrel
    subst hw
    have hnl:=AP i (l.take i) (by rw[List.length_take];omega) ha
    have hpw:(10:Nat)^i≤10^7:=Nat.pow_le_pow_right (by decide) (by omega)
    have hnb:BN (l.take i)≤10000000:=by omega
    obtain⟨n,hnn⟩:∃n,BN (l.take i)=n:=⟨_,rfl⟩
    rw[hnn]at hnb⊢
    have Hn:=Lib.hid hnn
    have Ha:=Lib.hid ha
    clear hnl hpw hnn ha
    by_cases hlt:i<l.length
    ·obtain⟨c,hc⟩:∃c,l[i]? =some c:=⟨_,List.getElem?_eq_getElem hlt⟩
     have hgi:∀h:i<(bs l).size,(bs l)[i]'h=c:=fun h=>by rw[jZ l i h];rw[List.getElem?_eq_getElem hlt]at hc;injection hc
     have hcl:=c.toNat_lt
     have Hc:=Lib.hid hc
     clear hc
     by_cases h1:c.toNat<48
     ·have hbad:=Lib.hid (iZ (pT Hc.out (by unfold xE;simp;omega)))
      have h1i:(c.toNat:Int)<48:=by omega
      go_wp2_with fail
      go_ret2
      exact⟨hbad.out,rfl⟩
     ·have h1i:¬(c.toNat:Int)<48:=by omega
      by_cases h2:57<c.toNat
      ·have hbad:=Lib.hid (iZ (pT Hc.out (by unfold xE;simp;omega)))
       have h2i:57<(c.toNat:Int):=by omega
       go_wp2_with fail
       go_ret2
       exact⟨hbad.out,rfl⟩
      ·have h2i:¬57<(c.toNat:Int):=by omega
       obtain⟨v,hv⟩:∃v,c.toNat-48=v:=⟨_,rfl⟩
       have e1:IntKind.u8.wrap ((c.toNat:Int)-48)=(v:Int):=by rw[IntKind.wrap_u8'];omega
       have e2:IntKind.i64.wrap (v:Int)=(v:Int):=IntWalk.i64_in _ (by omega)
       obtain⟨m,hm⟩:∃m,10*n=m:=⟨_,rfl⟩
       have e3:IntKind.i64.wrap (10*(n:Int))=(m:Int):=by rw[IntWalk.i64_in _ (by omega)];omega
       obtain⟨k,hk⟩:∃k,m+v=k:=⟨_,rfl⟩
       have e4:IntKind.i64.wrap ((m:Int)+(v:Int))=(k:Int):=by rw[IntWalk.i64_in _ (by omega)];omega
       have hd:=Cl Hc.out Ha.out (by unfold xE;simp;omega)
       have Hd:=Lib.hid hd
       have Hk:=Lib.hid (And.intro hv (And.intro hm hk))
       clear hd hv hm hk
       go_wp2_with fail
       exact⟨⟨i+1,by omega,by rw[Int.natCast_add];rfl,by rw[Hd.out.2,Hn.out,Hk.out.1,Hk.out.2.1,Hk.out.2.2],Hd.out.1,trivial⟩,by simp only[intOf];omega⟩
    ·obtain rfl:i=l.length:=by omega
     have hgood:vW l=some n:=by rw[←Hn.out,List.take_length];exact zO HNB'.out (by have:=Ha.out;rwa [List.take_length]at this)
     have Hg:=Lib.hid hgood
     clear hgood
     go_wp2_with fail
     go_ret2
     exact⟨by rw[Hg.out];rfl,rfl⟩
end Go.Proofs.YtcbkaiakdhiloacGreatDoor
namespace Go.Proofs.YtcbkaiakdhiloacGreatDoor
open Go.RowKit Go.Proofs
attribute [local go_sem] aG aD aC aE
theorem CV (port:Nat) (f:eH) (r:List eH) (s:St):St.agree port (f::r) s=(match vW f.value with
 |none=>(s.wrong port 8 St.eOpt).fail
 |some n=>
  if f.name=St.bNm∧8≤n∧n≤s.c.block then St.agree port r {s with block:=n}
  else if f.name=St.wNm∧1≤n∧n≤s.c.window then St.agree port r {s with wind:=n}
  else if f.name=St.tNm then if n≤s.c.cap then St.agree port r s else(s.wrong port 3 St.eSize).fail
  else(s.wrong port 8 St.eOpt).fail):=rfl
theorem Dx (L:Lay) (s:St) (port:Nat) (fs:List eH) (A:Option Addr) (cap n:Nat) (w:World) (h:aA w L s) (hport:port<65536) (hn:fs.length=n) (hA:SlR w (bM L) 2 A n (gJ fs)) (hwt:wtF fs≤1048576):
 Calls Tryz.prog 192 #[.pointer (some ⟨L.p,0,none⟩),.int .u16 (port:Int),.slice A n cap] w (bC L (St.agree port fs s) (.tuple #[]) w):=by
 have hnl:n≤1048576:=by have:=oD fs;omega
 go_enter Tryz.func192,Tryz.ntmps192
 go_wp2_with fail
 go_loopw [12] (fun iv wr=>∃(i:Nat) (s1:St),i≤n∧iv= .int .i64 (i:Int)∧aA wr L s1∧Fr (bM L) w wr∧St.agree port (fs.drop i) s1=St.agree port fs s) (fun iv _=>n-(intOf iv).toNat)
 case atStart=>exact⟨0,s,by omega,rfl,h,Fr.refl _ _,rfl⟩
 case round=>
  obtain⟨i,s1,hi,rfl,hM1,hF1,heq⟩:=hrel
  by_cases hlt:i<n
  ·have hil:i<fs.length:=by omega
   obtain⟨o,ho⟩:∃o,fs[i]? =some o:=⟨_,List.getElem?_eq_getElem hil⟩
   have hdr:fs.drop i=o::fs.drop (i+1):=by
    rw[List.drop_eq_getElem_cons hil];rw[List.getElem?_eq_getElem hil]at ho;injection ho with ho;rw[ho]
   rw[hdr,CV]at heq
   obtain⟨ad,rfl,a1,a2⟩:=(hA.keep hF1).fldAt ho
   have hov:=BB fs i o ho
   have Heq:=Lib.hid heq
   have Ho:=Lib.hid (And.intro ho (And.intro hdr hil))
   have hovl:o.value.length≤4611686018427387904:=by omega
   have hF2:Fr noB wr (wr.alloc (.cells #[.string (bs o.name),.string (bs o.value)] 196)):=(Fr.refl noB wr).alloc _
   have hM3:=hM1.none hF2
   have hF3:=hF1.trans (hF2.of_no (bM L))
   clear heq ho hdr hil hov
   go_wp2_with fail
   refine(Dz o.value _ hovl).mono ?_
   rintro e w4 ⟨rfl,h4⟩
   replace h4:=h4.symm
   subst h4
   clear a1 a2
   have c7:=hM3.g7
   have c9:=hM3.g9
   have c10:=hM3.g10
   cases hnt:vW o.value with
   |none=>
    simp only[Option.getD_none,Option.isSome_none]
    have Hnt:=Lib.hid hnt
    clear hnt
    by_cases hB:o.name=St.bNm
    ·have bB:(o.name==[98,108,107,115,105,122,101])=true:=by rw[hB];rfl
     have bW:(o.name==[119,105,110,100,111,119,115,105,122,101])=false:=by rw[hB];rfl
     have bT:(o.name==[116,115,105,122,101])=false:=by rw[hB];rfl
     have Hnm:=Lib.hid hB
     clear hB
     go_wp2_with fail
     refine(cN L s1 port 8 [111,112,116,105,111,110] _ hM3 hport (by decide) (by decide)).mono ?_
     rintro e w5 ⟨rfl,hM5,f5⟩
     go_wp2_with fail
     refine(bX L _ _ hM5).mono ?_
     intro e w6 hp
     obtain⟨rfl,hp⟩:=hp
     go_wp2_with fail
     refine bodyPost_end (results_none rfl _ _ _) rfl ?_
     rw[←Heq.out,Hnt.out]
     dsimp only
     skip
     exact bC.comp (L1:=L) rfl (fun b hb=> .inl hb) (hF3.trans f5) ⟨rfl,hp⟩
    by_cases hW:o.name=St.wNm
    ·have bB:(o.name==[98,108,107,115,105,122,101])=false:=by rw[hW];rfl
     have bW:(o.name==[119,105,110,100,111,119,115,105,122,101])=true:=by rw[hW];rfl
     have bT:(o.name==[116,115,105,122,101])=false:=by rw[hW];rfl
     have Hnm:=Lib.hid hW
     clear hW
     go_wp2_with fail
     refine(cN L s1 port 8 [111,112,116,105,111,110] _ hM3 hport (by decide) (by decide)).mono ?_
     rintro e w5 ⟨rfl,hM5,f5⟩
     go_wp2_with fail
     refine(bX L _ _ hM5).mono ?_
     intro e w6 hp
     obtain⟨rfl,hp⟩:=hp
     go_wp2_with fail
     refine bodyPost_end (results_none rfl _ _ _) rfl ?_
     rw[←Heq.out,Hnt.out]
     dsimp only
     skip
     exact bC.comp (L1:=L) rfl (fun b hb=> .inl hb) (hF3.trans f5) ⟨rfl,hp⟩
    by_cases hT:o.name=St.tNm
    ·have bB:(o.name==[98,108,107,115,105,122,101])=false:=by rw[hT];rfl
     have bW:(o.name==[119,105,110,100,111,119,115,105,122,101])=false:=by rw[hT];rfl
     have bT:(o.name==[116,115,105,122,101])=true:=by rw[hT];rfl
     have Hnm:=Lib.hid hT
     clear hT
     go_wp2_with fail
     refine(cN L s1 port 8 [111,112,116,105,111,110] _ hM3 hport (by decide) (by decide)).mono ?_
     rintro e w5 ⟨rfl,hM5,f5⟩
     go_wp2_with fail
     refine(bX L _ _ hM5).mono ?_
     intro e w6 hp
     obtain⟨rfl,hp⟩:=hp
     go_wp2_with fail
     refine bodyPost_end (results_none rfl _ _ _) rfl ?_
     rw[←Heq.out,Hnt.out]
     dsimp only
     skip
     exact bC.comp (L1:=L) rfl (fun b hb=> .inl hb) (hF3.trans f5) ⟨rfl,hp⟩
    have bB:(o.name==[98,108,107,115,105,122,101])=false:=by rw[beq_eq_false_iff_ne];exact hB
    have bW:(o.name==[119,105,110,100,111,119,115,105,122,101])=false:=by rw[beq_eq_false_iff_ne];exact hW
    have bT:(o.name==[116,115,105,122,101])=false:=by rw[beq_eq_false_iff_ne];exact hT
    have HB:=Lib.hid hB
    have HW:=Lib.hid hW
    have HT:=Lib.hid hT
    clear hB hW hT
    go_wp2_with fail
    refine(cN L s1 port 8 [111,112,116,105,111,110] _ hM3 hport (by decide) (by decide)).mono ?_
    rintro e w5 ⟨rfl,hM5,f5⟩
    go_wp2_with fail
    refine(bX L _ _ hM5).mono ?_
    intro e w6 hp
    obtain⟨rfl,hp⟩:=hp
    go_wp2_with fail
    refine bodyPost_end (results_none rfl _ _ _) rfl ?_
    rw[←Heq.out,Hnt.out]
    dsimp only
    skip
    exact bC.comp (L1:=L) rfl (fun b hb=> .inl hb) (hF3.trans f5) ⟨rfl,hp⟩
   |some m=>
    simp only[Option.getD_some,Option.isSome_some]
    have Hnt:=Lib.hid hnt
    clear hnt
    by_cases hB:o.name=St.bNm
    ·have bB:(o.name==[98,108,107,115,105,122,101])=true:=by rw[hB];rfl
     have bW:(o.name==[119,105,110,100,111,119,115,105,122,101])=false:=by rw[hB];rfl
     have bT:(o.name==[116,115,105,122,101])=false:=by rw[hB];rfl
     have Hnm:=Lib.hid hB
     clear hB
     by_cases h1:8≤m
     ·by_cases h2:m≤s1.c.block
      ·have hmb:m≤1024:=Nat.le_trans h2 hM3.ok.block
       have h1i:(8:Int)≤(m:Int):=by omega
       have h2i:(m:Int)≤(s1.c.block:Int):=by omega
       have hnext:St.agree port (fs.drop (i+1)) {s1 with block:=m}=St.agree port fs s:=by
        rw[←Heq.out,Hnt.out]
        dsimp only
        rw[if_pos ⟨Hnm.out,h1,h2⟩]
       clear h1 h2
       have hM4:=hM3.set1 37 (.int .i64 (m:Int)) {s1 with block:=m} rfl rfl rfl rfl rfl rfl {hM3.ok with blk:=hmb}
       have d37:=hM3.g37
       have hfz:=hM3.fr
       go_wp2_with fail
       exact⟨⟨i+1,_,by omega,by rw[Int.natCast_add];rfl,hM4,hF3.trans (bV L _ 37 _),hnext⟩,by simp only[intOf];omega⟩
      ·have h2i:¬(m:Int)≤(s1.c.block:Int):=by omega
       have h1i:(8:Int)≤(m:Int):=by omega
       have Hc:=Lib.hid h2
       clear h2
       go_wp2_with fail
       refine(cN L s1 port 8 [111,112,116,105,111,110] _ hM3 hport (by decide) (by decide)).mono ?_
       rintro e w5 ⟨rfl,hM5,f5⟩
       go_wp2_with fail
       refine(bX L _ _ hM5).mono ?_
       intro e w6 hp
       obtain⟨rfl,hp⟩:=hp
       go_wp2_with fail
       refine bodyPost_end (results_none rfl _ _ _) rfl ?_
       rw[←Heq.out,Hnt.out]
       dsimp only
       rw[if_neg (fun x=>Hc.out x.2.2),if_neg (fun x=>absurd (Hnm.out.symm.trans x.1) (by decide)),if_neg (fun x=>absurd (Hnm.out.symm.trans x) (by decide))]
       exact bC.comp (L1:=L) rfl (fun b hb=> .inl hb) (hF3.trans f5) ⟨rfl,hp⟩
     ·have h1i:¬(8:Int)≤(m:Int):=by omega
      have Hc:=Lib.hid h1
      clear h1
      go_wp2_with fail
      refine(cN L s1 port 8 [111,112,116,105,111,110] _ hM3 hport (by decide) (by decide)).mono ?_
      rintro e w5 ⟨rfl,hM5,f5⟩
      go_wp2_with fail
      refine(bX L _ _ hM5).mono ?_
      intro e w6 hp
      obtain⟨rfl,hp⟩:=hp
      go_wp2_with fail
      refine bodyPost_end (results_none rfl _ _ _) rfl ?_
      rw[←Heq.out,Hnt.out]
      dsimp only
      rw[if_neg (fun x=>Hc.out x.2.1),if_neg (fun x=>absurd (Hnm.out.symm.trans x.1) (by decide)),if_neg (fun x=>absurd (Hnm.out.symm.trans x) (by decide))]
      exact bC.comp (L1:=L) rfl (fun b hb=> .inl hb) (hF3.trans f5) ⟨rfl,hp⟩
    by_cases hW:o.name=St.wNm
    ·have bB:(o.name==[98,108,107,115,105,122,101])=false:=by rw[hW];rfl
     have bW:(o.name==[119,105,110,100,111,119,115,105,122,101])=true:=by rw[hW];rfl
     have bT:(o.name==[116,115,105,122,101])=false:=by rw[hW];rfl
     have Hnm:=Lib.hid hW
     clear hW
     by_cases h1:1≤m
     ·by_cases h2:m≤s1.c.window
      ·have hmb:m≤8:=Nat.le_trans h2 hM3.ok.window
       have h1i:(1:Int)≤(m:Int):=by omega
       have h2i:(m:Int)≤(s1.c.window:Int):=by omega
       have hnext:St.agree port (fs.drop (i+1)) {s1 with wind:=m}=St.agree port fs s:=by
        rw[←Heq.out,Hnt.out]
        dsimp only
        rw[if_neg (fun x=>absurd (Hnm.out.symm.trans x.1) (by decide)),if_pos ⟨Hnm.out,h1,h2⟩]
       clear h1 h2
       have hM4:=hM3.set1 38 (.int .i64 (m:Int)) {s1 with wind:=m} rfl rfl rfl rfl rfl rfl {hM3.ok with wind:=hmb}
       have d38:=hM3.g38
       have hfz:=hM3.fr
       go_wp2_with fail
       exact⟨⟨i+1,_,by omega,by rw[Int.natCast_add];rfl,hM4,hF3.trans (bV L _ 38 _),hnext⟩,by simp only[intOf];omega⟩
      ·have h2i:¬(m:Int)≤(s1.c.window:Int):=by omega
       have h1i:(1:Int)≤(m:Int):=by omega
       have Hc:=Lib.hid h2
       clear h2
       go_wp2_with fail
       refine(cN L s1 port 8 [111,112,116,105,111,110] _ hM3 hport (by decide) (by decide)).mono ?_
       rintro e w5 ⟨rfl,hM5,f5⟩
       go_wp2_with fail
       refine(bX L _ _ hM5).mono ?_
       intro e w6 hp
       obtain⟨rfl,hp⟩:=hp
       go_wp2_with fail
       refine bodyPost_end (results_none rfl _ _ _) rfl ?_
       rw[←Heq.out,Hnt.out]
       dsimp only
       rw[if_neg (fun x=>absurd (Hnm.out.symm.trans x.1) (by decide)),if_neg (fun x=>Hc.out x.2.2),if_neg (fun x=>absurd (Hnm.out.symm.trans x) (by decide))]
       exact bC.comp (L1:=L) rfl (fun b hb=> .inl hb) (hF3.trans f5) ⟨rfl,hp⟩
     ·have h1i:¬(1:Int)≤(m:Int):=by omega
      have Hc:=Lib.hid h1
      clear h1
      go_wp2_with fail
      refine(cN L s1 port 8 [111,112,116,105,111,110] _ hM3 hport (by decide) (by decide)).mono ?_
      rintro e w5 ⟨rfl,hM5,f5⟩
      go_wp2_with fail
      refine(bX L _ _ hM5).mono ?_
      intro e w6 hp
      obtain⟨rfl,hp⟩:=hp
      go_wp2_with fail
      refine bodyPost_end (results_none rfl _ _ _) rfl ?_
      rw[←Heq.out,Hnt.out]
      dsimp only
      rw[if_neg (fun x=>absurd (Hnm.out.symm.trans x.1) (by decide)),if_neg (fun x=>Hc.out x.2.1),if_neg (fun x=>absurd (Hnm.out.symm.trans x) (by decide))]
      exact bC.comp (L1:=L) rfl (fun b hb=> .inl hb) (hF3.trans f5) ⟨rfl,hp⟩
    by_cases hT:o.name=St.tNm
    ·have bB:(o.name==[98,108,107,115,105,122,101])=false:=by rw[hT];rfl
     have bW:(o.name==[119,105,110,100,111,119,115,105,122,101])=false:=by rw[hT];rfl
     have bT:(o.name==[116,115,105,122,101])=true:=by rw[hT];rfl
     have Hnm:=Lib.hid hT
     clear hT
     by_cases h2:m≤s1.c.cap
     ·have h2i:(m:Int)≤(s1.c.cap:Int):=by omega
      have hnext:St.agree port (fs.drop (i+1)) s1=St.agree port fs s:=by
       rw[←Heq.out,Hnt.out]
       dsimp only
       rw[if_neg (fun x=>absurd (Hnm.out.symm.trans x.1) (by decide)),if_neg (fun x=>absurd (Hnm.out.symm.trans x.1) (by decide)),if_pos Hnm.out,if_pos h2]
      clear h2
      go_wp2_with fail
      exact⟨⟨i+1,_,by omega,by rw[Int.natCast_add];rfl,hM3,hF3,hnext⟩,by simp only[intOf];omega⟩
     ·have h2i:¬(m:Int)≤(s1.c.cap:Int):=by omega
      have Hc:=Lib.hid h2
      clear h2
      go_wp2_with fail
      refine(cN L s1 port 3 [115,105,122,101] _ hM3 hport (by decide) (by decide)).mono ?_
      rintro e w5 ⟨rfl,hM5,f5⟩
      go_wp2_with fail
      refine(bX L _ _ hM5).mono ?_
      intro e w6 hp
      obtain⟨rfl,hp⟩:=hp
      go_wp2_with fail
      refine bodyPost_end (results_none rfl _ _ _) rfl ?_
      rw[←Heq.out,Hnt.out]
      dsimp only
      rw[if_neg (fun x=>absurd (Hnm.out.symm.trans x.1) (by decide)),if_neg (fun x=>absurd (Hnm.out.symm.trans x.1) (by decide)),if_pos Hnm.out,if_neg Hc.out]
      exact bC.comp (L1:=L) rfl (fun b hb=> .inl hb) (hF3.trans f5) ⟨rfl,hp⟩
    have bB:(o.name==[98,108,107,115,105,122,101])=false:=by rw[beq_eq_false_iff_ne];exact hB
    have bW:(o.name==[119,105,110,100,111,119,115,105,122,101])=false:=by rw[beq_eq_false_iff_ne];exact hW
    have bT:(o.name==[116,115,105,122,101])=false:=by rw[beq_eq_false_iff_ne];exact hT
    have HB:=Lib.hid hB
    have HW:=Lib.hid hW
    have HT:=Lib.hid hT
    clear hB hW hT
    go_wp2_with fail
    refine(cN L s1 port 8 [111,112,116,105,111,110] _ hM3 hport (by decide) (by decide)).mono ?_
    rintro e w5 ⟨rfl,hM5,f5⟩
    go_wp2_with fail
    refine(bX L _ _ hM5).mono ?_
    intro e w6 hp
    obtain⟨rfl,hp⟩:=hp
    go_wp2_with fail
    refine bodyPost_end (results_none rfl _ _ _) rfl ?_
    rw[←Heq.out,Hnt.out]
    dsimp only
    rw[if_neg (fun x=>HB.out x.1),if_neg (fun x=>HW.out x.1),if_neg HT.out]
    exact bC.comp (L1:=L) rfl (fun b hb=> .inl hb) (hF3.trans f5) ⟨rfl,hp⟩
  ·obtain rfl:i=n:=by omega
   have hend:St.agree port fs s=({s1 with phase:=2,peer:=port}:St).got:=by
    rw[←heq,List.drop_eq_nil_of_le (by omega)];rfl
   have Hend:=Lib.hid hend
   clear heq hend
   have hM4:=(hM1.set1 33 (.int .i64 2) {s1 with phase:=2} rfl rfl rfl rfl rfl rfl {hM1.ok with}).set1 35 (.int .u16 (port:Int)) {s1 with phase:=2,peer:=port} rfl rfl rfl rfl rfl rfl {hM1.ok with peer:=hport}
   have d33:=hM1.g33
   have d35:=hM1.g35
   have hfz:=hM1.fr
   go_wp2_with fail
   refine(pV L _ _ hM4).mono ?_
   rintro e w5 ⟨rfl,hM5,f5⟩
   go_wp2_with fail
   refine bodyPost_end (results_none rfl _ _ _) rfl ?_
   rw[Hend.out]
   exact bH.two ⟨rfl,hM5,((hF1.trans (bV L _ 33 _)).trans (bV L _ 35 _)).trans f5⟩
end Go.Proofs.YtcbkaiakdhiloacGreatDoor
namespace Go.Proofs.YtcbkaiakdhiloacGreatDoor
open Go.RowKit Go.Proofs
theorem Jd (a b:List UInt8):u8s (a++b)=u8s a++u8s b:=oG a b
theorem aA.grow {w w':World} {L:Lay} {s:St} {A':Option Addr} {cap' m:Nat} {d:List UInt8} (h:aA w L s) (hm:d.length=m) (ha:Apd w w' 0 5 1 L.img A' cap' (s.image.length+m) (u8s s.image++u8s d)) (ok:({s with image:=s.image++d}:St).Ok):
 aA (w'.setCell ⟨L.p,44,Option.none⟩ (.slice A' (s.image.length+m) cap')) {L with img:=A',icap:=cap'} {s with image:=s.image++d}∧
 (∀b,bM {L with img:=A',icap:=cap'} b→bM L b∨w.heap.size≤b)∧Fr (bM L) w (w'.setCell ⟨L.p,44,Option.none⟩ (.slice A' (s.image.length+m) cap')):=by
 have hn:=h.ne
 simp only[Lay.blocks,List.nodup_cons,List.mem_cons,List.not_mem_nil,or_false,not_or]at hn
 obtain⟨⟨n1,n2,n3,n4,n5⟩,_⟩:=hn
 have hni:∀b,b∈L.blocks→¬(∃a,L.img=some a∧a.block=b):=fun b hb ⟨a,e,e2⟩=>h.ni a e (e2▸hb)
 have hpi:=hni L.p (by simp[Lay.blocks])
 have hbk':Bk w' L.p 106 (dM s L):=h.bk.keep ha.fr hpi
 have hfr:Fr (fun k=>(∃a,L.img=some a∧a.block=k)∨k=L.p) w (w'.setCell ⟨L.p,44,Option.none⟩ (.slice A' (s.image.length+m) cap')):=
  (ha.fr.mono fun b _ x=> .inl x).setCell (p:=⟨L.p,44,Option.none⟩) (fun _=> .inr rfl) _
 have hS:∀b,b∈L.blocks→b≠L.p→¬((∃a,L.img=some a∧a.block=b)∨b=L.p):=fun b hb hne x=>by
  rcases x with x|x
  ·exact hni b hb x
  ·exact hne x
 have hgl:=zG h.gb
 have hlen:(s.image++d).length=s.image.length+m:=by rw[List.length_append,hm]
 have hown:∀b,bM {L with img:=A',icap:=cap'} b→bM L b∨w.heap.size≤b:=by
  rintro b (hb|⟨a,e,rfl⟩)
  ·exact .inl (.inl hb)
  ·rcases ha.at_ a e with x|⟨a2,e2,x⟩
   ·exact .inr x
   ·exact .inl (.inr ⟨a2,e2,x⟩)
 have hLb:∀b,b∈L.blocks→b<w.heap.size:=fun b hb=>h.lt b (.inl hb)
 refine⟨?_,hown,hfr.mono fun b _ x=> ?_⟩
 ·have hb:Bk (w'.setCell ⟨L.p,44,Option.none⟩ (.slice A' (s.image.length+m) cap')) L.p 106 (dM {s with image:=s.image++d} {L with img:=A',icap:=cap'}):=by
   have:=hbk'.set 44 (.slice A' (s.image.length+m) cap')
   rw[show dM {s with image:=s.image++d} {L with img:=A',icap:=cap'}=(dM s L).setIfInBounds 44 (.slice A' (s.image.length+m) cap') by
    unfold dM
    simp only[List.setIfInBounds_toArray,List.set_cons_zero,List.set_cons_succ,hlen]]
   exact this
  refine⟨hb,?_,?_,?_,?_,h.ne,?_,ok,?_,?_⟩
  ·exact h.rx.keep hfr (hS _ (by simp[Lay.blocks]) (fun x=>n1 x.symm)) (hS _ (by simp[Lay.blocks]) (fun x=>n2 x.symm))
  ·exact h.tx.keep hfr (hS _ (by simp[Lay.blocks]) (fun x=>n3 x.symm)) (hS _ (by simp[Lay.blocks]) (fun x=>n4 x.symm))
  ·exact h.mp.keep hfr (hS _ (by simp[Lay.blocks]) (fun x=>n5 x.symm))
  ·show World.ownsRow _ 0 5 1 (.slice A' (s.image++d).length cap') (s.image++d).length (u8s (s.image++d))
   rw[hlen,Jd]
   exact qU ha.own (p:=⟨L.p,44,Option.none⟩) hbk' (by decide) _
  ·intro a e hb
   rcases ha.at_ a e with x|⟨a2,e2,x⟩
   ·have:=hLb _ hb;omega
   ·exact h.ni a2 e2 (x▸hb)
  ·refine h.gb.keep hfr fun b hb x=> ?_
   rcases x with⟨a,e,x⟩|x
   ·exact h.gd b (.inr ⟨a,e,x⟩) hb
   ·exact h.gd b (x▸nH L) hb
  ·intro b hb hg
   rcases hown b hb with x|x
   ·exact h.gd b x hg
   ·have:=hgl b hg;omega
 ·rcases x with x|x
  ·exact .inr x
  ·exact x▸nH L
end Go.Proofs.YtcbkaiakdhiloacGreatDoor
namespace Go.Proofs.YtcbkaiakdhiloacGreatDoor
open Go.RowKit Go.Proofs
structure ByB (w:World) (g:Nat) (l:List UInt8):Prop where
 lt:g<w.heap.size
 cell:∀j (b:UInt8),l[j]? =some b→w.cell? ⟨g,j,none⟩=some (.int .u8 (b.toNat:Int))
 free:∀j,j<l.length→w.frozen? ⟨g,j,none⟩=false
section
variable {S:Nat→Prop} {w w':World} {g:Nat} {l:List UInt8}
theorem ByB.new (w:World) (e:TypeId) (l:List UInt8):ByB (Go.Lib.bytesWorld w e (bs l)) w.heap.size l:=by
 refine⟨by rw[Go.Lib.bytesWorld_size];omega,fun j b hb=> ?_,fun j hj=> ?_⟩
 ·have hj:j<l.length:=by
   rcases Nat.lt_or_ge j l.length with h|h
   ·exact h
   ·rw[List.getElem?_eq_none h]at hb;cases hb
  have h:=Go.Lib.bytesWorld_cell w e (bs l) j (by rw[aG];exact hj)
  rw[oO]at h
  rw[h]
  simp[List.getD,hb]
 ·have h:=Go.Lib.bytesWorld_at_new w e (bs l)
  have hs:l.length≤(Go.Lib.bytesCells w e (bs l)).size:=by
   unfold Go.Lib.bytesCells
   simp[bs]
  simp[World.frozen?,h]
  omega
theorem ByB.fr (w:World) (e:TypeId) (l:List UInt8):Fr noB w (Go.Lib.bytesWorld w e (bs l)):=
 ⟨rfl,rfl,rfl,by rw[Go.Lib.bytesWorld_size];omega,fun k hk _=>Go.Lib.bytesWorld_at_old w _ _ k hk⟩
theorem ByB.slr (h:ByB w g l) (hg:¬S g):SlR w S 1 (some ⟨g,0,none⟩) l.length (u8s l):=by
 refine⟨by simp[bJ],fun _=>⟨_,rfl,h.lt,hg,fun j u hu=> ?_⟩⟩
 rw[gA,Nat.zero_add]
 simp only[u8s,List.getElem?_map,Option.map_eq_some_iff]at hu
 obtain⟨b,hb,rfl⟩:=hu
 exact h.cell j b hb
end
end Go.Proofs.YtcbkaiakdhiloacGreatDoor
namespace Go.Proofs.YtcbkaiakdhiloacGreatDoor
open Go.RowKit Go.Proofs
attribute [local go_sem] aG aD aC
theorem Fo (l:List UInt8) (hl:l.length≤100000000000) (gp c:Nat) (w:World) (hcell:w.cell? ⟨gp,0,none⟩=some (.string (bs l))) (hgp:gp<w.heap.size)
 (hRk:RU w 5 rD) (hRb:RU w 3 h0.list):
 Calls Tryz.prog 69 #[.slice (some ⟨gp,0,none⟩) 1 c] w
  (fun e w'=>e= .returned (.agg (u8s (sha l)).toArray)∧Fr noB w w'):=by
 have c0:=hRb.2 0 _ rfl
 have c1:=hRb.2 1 _ rfl
 have c2:=hRb.2 2 _ rfl
 have c3:=hRb.2 3 _ rfl
 have c4:=hRb.2 4 _ rfl
 have c5:=hRb.2 5 _ rfl
 have c6:=hRb.2 6 _ rfl
 have c7:=hRb.2 7 _ rfl
 have hkl:=hRk.1
 have hbl:=hRb.1
 clear hRb
 have hR0:YB ((w.alloc (.cells (u8s (List.replicate 32 0)).toArray 143)).alloc (.cells (kD h0.list++[Value.slice none 0 0,Value.int .u64 0]).toArray 204)) w.heap.size 143 (List.replicate 32 0):=(Bk.new w _ _).alloc _
 have hf0:Fr noB w ((w.alloc (.cells (u8s (List.replicate 32 0)).toArray 143)).alloc (.cells (kD h0.list++[Value.slice none 0 0,Value.int .u64 0]).toArray 204)):=((Fr.refl _ _).alloc _).alloc _
 have hSt0:StB ((w.alloc (.cells (u8s (List.replicate 32 0)).toArray 143)).alloc (.cells (kD h0.list++[Value.slice none 0 0,Value.int .u64 0]).toArray 204)) (w.heap.size+1) h0.list (.slice none 0 0) (.int .u64 0):=by
  have h:=Bk.new (w.alloc (.cells (u8s (List.replicate 32 0)).toArray 143)) 204 (kD h0.list++[Value.slice none 0 0,Value.int .u64 0]).toArray
  rw[pH]at h;exact h
 obtain⟨X,hX⟩:∃X:Nat→Prop,∀q,X q↔w.heap.size+2≤q:=⟨_,fun _=>Iff.rfl⟩
 obtain⟨p,hp⟩:∃p,p=w.heap.size+1:=⟨_,rfl⟩
 obtain⟨gr,hgr⟩:∃p,p=w.heap.size:=⟨_,rfl⟩
 have hXp:¬X p:=fun h=>by have:=(hX p).1 h;omega
 have hXk:¬X 5:=fun h=>by have:=(hX _).1 h;omega
 have hXr:¬X gr:=fun h=>by have:=(hX gr).1 h;omega
 have hkp:5≠p:=by omega
 have hgrp:gr≠p:=by omega
 have hown:∀b,b<w.heap.size→oS p X b→noB b:=fun b hb h=>h.elim (fun h=>by omega) fun h=>by have:=(hX b).1 h;omega
 rw[←hp]at hSt0
 rw[←hgr]at hR0
 have hS0:HSt _ p X []:=⟨hXp,_,hSt0,RO.nil _ _⟩
 have hsz0:((w.alloc (.cells (u8s (List.replicate 32 0)).toArray 143)).alloc (.cells (kD h0.list++[Value.slice none 0 0,Value.int .u64 0]).toArray 204)).heap.size=w.heap.size+2:=by
  rw[pH,pH]
 have HS0:=Lib.hid hS0
 have HR0:=Lib.hid hR0
 have Hf0:=Lib.hid hf0
 have Hsz:=Lib.hid hsz0
 clear hS0 hR0 hf0 hSt0 hsz0
 have Hown:=Lib.hid hown
 clear hown
 go_enter Tryz.func69,Tryz.ntmps69
 go_wp2_with fail
 rw[←hp,←hgr]
 have Hp:=Lib.hid hp
 have Hgr:=Lib.hid hgr
 clear hp hgr
 go_loopw [11] (fun iv wr=>∃(k:Nat),k≤1∧iv= .int .i64 (k:Int)∧HSt wr p X (if k=0 then []else l)∧YB wr gr 143 (List.replicate 32 0)∧Fr noB w wr∧w.heap.size+2≤wr.heap.size) (fun iv _=>1-(intOf iv).toNat)
 case atStart=>exact⟨0,by omega,rfl,HS0.out,HR0.out,Hf0.out,by have:=Hsz.out;exact Nat.le_of_eq this.symm⟩
 case round=>
  obtain⟨k,hk,rfl,hS,hR,hf,hsz⟩:=hrel
  have hRk1:=hRk.keep hf id
  have hcell1:=(hf.cell (a:=⟨gp,0,none⟩) hgp id).trans hcell
  by_cases hk0:k=0
  ·subst hk0
   rw[if_pos rfl]at hS
   have hcv:=Go.Lib.run_convert_string_bytes (P:=Tryz.prog) wr 9 102 5 (bs l) Tryz.underlying9 Tryz.underlying102 Tryz.underlying5
   have hby:=ByB.new wr 5 l
   have hfb:=ByB.fr wr 5 l
   rw[aG]at hcv
   generalize Go.Lib.bytesWorld wr 5 (bs l)=wb at*
   generalize Go.grownCap wr l.length 0 5=cb at*
   have hpne:wr.heap.size≠p:=by have:=Hp.out;omega
   have hcall:=mP [] l p l.length cb X (some ⟨wr.heap.size,0,none⟩) wb (hS.keep hfb id fun _ _ h=>h) (hby.slr hpne) (fun q hq=>(hX q).2 (by have:=hfb.size;omega)) (by simp;omega) (hRk1.keep hfb id) hXk hkp
   rw[List.nil_append]at hcall
   have hfwb:Fr noB w wb:=hf.trans hfb
   have hRb:=hR.keep hfb id
   have hszb:=hfb.size
   have HR:=Lib.hid hRb
   clear hS hR hby hf hfb hRk1 hRb
   go_wp2_with (go_at_call 126;refine hcall.mono ?_;rintro e w9 ⟨rfl,hS9,hf9⟩)
   have hszz:=hf9.size
   exact⟨⟨1,by omega,rfl,hS9,HR.out.keep hf9 (kK hgrp hXr),hfwb.trans' hf9 Hown.out,by omega⟩,by simp only[intOf];omega⟩
  ·obtain rfl:k=1:=by omega
   rw[if_neg hk0]at hS
   have hcall:=GR l hl p X wr hS (fun q hq=>(hX q).2 (by omega)) hRk1 hXk hkp
   have hsz32:(Tryz.prog.info? 143).map (·.size)=some 32:=by kernel_rfl
   have hl32:(sha l).length=32:=rfl
   have h32:((u8s (sha l)).toArray).size=32:=by simp[u8s,hl32]
   have hone:((u8s (sha l)).toArray).all (·.oneCell')=true:=by rw[Array.all_eq_true];intro k hk;exact jE (sha l) _ (by simp)
   have HR:=Lib.hid hR
   obtain⟨cb,hcb⟩:∃z,z=(u8s (sha l)).toArray:=⟨_,rfl⟩
   rw[←hcb]at hcall h32 hone
   have HCB:=Lib.hid hcb
   clear hcb
   clear hS hR hRk1
   go_wp2_with (first
    |(go_at_call 127;refine hcall.mono ?_;rintro e w9 ⟨rfl,hf9⟩)
    |(refine aN rfl 143 (.tmp 2) (.tmp 21) rfl gr _ _ cb rfl rfl (HR.out.keep hf9 (kK hgrp hXr)) (by rw[h32];rfl) (by rw[hsz32,h32]) hone ?_;intro w10 hx10 hf10))
   refine bodyPost_ret (results_cell_row Tryz.results69 _ w10 gr _ _ _ _ rfl hx10 Tryz.underlying143 rfl (by rw[hsz32,h32])) rfl ?_
   exact⟨by rw[HCB.out],(hf.trans' hf9 Hown.out).trans' hf10 fun b hb h=>by unfold aI at h;have:=Hgr.out;omega⟩
end Go.Proofs.YtcbkaiakdhiloacGreatDoor
namespace Go.Proofs.YtcbkaiakdhiloacGreatDoor
open Go.RowKit Go.Proofs
attribute [local simp] dM ibq ibn eqN ltN leN eqL ltL gtL leL geL
attribute [local go_sem] aG aD aC aE
theorem Aq {P:Program} (w:World) (base:Nat) (t u ty e:TypeId) (i:TypeInfo) (ht:P.underlying t=some (.slice e)) (hu:P.underlying u=some .string) (hi:P.info? e=some i) (hz:i.zero=some (.int .u8 0))
 (hsize:i.size=1) (hby:i.bytes=1) (A0:Option Addr) (n cap:Nat) (xs:List Value) (hown:w.ownsRow base e 1 (.slice A0 n cap) n xs) (s:List UInt8)
 (h63:n+s.length≤maxLen) (hbytes:n+s.length≤140737488355328) (hbase:base≤w.heap.size):
 ∃A' cap' w',(Builtin.append_ #[t,u] ty #[.slice A0 n cap,.string (bs s)]).run P w= .ok (.slice A' (n+s.length) cap') w'∧Apd w w' base e 1 A0 A' cap' (n+s.length) (xs++u8s s):=by
 obtain⟨v',w',hrun,h2,h3,h4⟩:=qB (P:=P) w base t u ty e i ht hu hi hz hsize hby _ n xs hown (bs s) (by rw[aG];exact h63) (by rw[aG];exact hbytes) hbase
 rw[qJ,aG]at h2
 obtain⟨A',cap',rfl,hA'⟩:=eS h2
 have hA0:∀g,(Value.slice A0 n cap).ownBlock=some g→∃a,A0=some a∧a.block=g:=by
  intro g hg;cases A0 with
  |none=>cases hg
  |some a=>exact⟨a,rfl,by simpa[Value.ownBlock]using hg⟩
 refine⟨A',cap',w',hrun,h2,(Fr.refl _ _).grown h3 fun g hg _=>hA0 g hg,?_⟩
 rintro a' rfl
 rcases h4 with h4|h4
 ·exact .inr (hA0 _ h4.symm)
 ·simp[Value.ownBlock]at h4;exact .inl (by omega)
theorem F5:(Tryz.prog.info? 5).map (fun i=>(i.zero,i.size,i.bytes))=some (some (.int .u8 0),1,1):=by kernel_rfl
theorem oB (s:St) (m:Mac) (k:Nat) (l:List UInt8):(s.send m k l).image=s.image∧(s.send m k l).c=s.c:=by
 unfold St.send;split<;>exact⟨rfl,rfl⟩
theorem Fs (s:St) (a b c:Nat) (l:List UInt8):(s.udp a b c l).image=s.image∧(s.udp a b c l).c=s.c:=by
 unfold St.udp
 simp only[St.ask,St.arp]
 repeat' split
 all_goals first|exact⟨rfl,rfl⟩|exact oB _ _ _ _|exact⟨(oB _ _ _ _).1,(oB _ _ _ _).2⟩
theorem Ep (s:St):s.got.image=s.image∧s.got.c=s.c:=by
 unfold St.got St.tell
 exact Fs _ _ _ _ _
theorem xQ (L:Lay) (s:St) (op bk:Nat) (tx dt:List UInt8) (fs:List eH) (A:Option Addr) (cap n:Nat) (w:World) (h:aA w L s) (hbk:bk<65536) (hdt:dt.length≤1024) (hnx1:s.next≤s.image.length+1):
 Calls Tryz.prog 193 #[.pointer (some ⟨L.p,0,none⟩),.agg #[.int .u16 (op:Int),.int .u16 (bk:Int),.string (bs tx),.string (bs dt),.slice A n cap]] w (bC L (s.data ⟨op,bk,tx,dt,fs⟩) (.tuple #[]) w):=by
 obtain⟨r,hr⟩:∃r,r=s.data ⟨op,bk,tx,dt,fs⟩:=⟨_,rfl⟩
 rw[←hr]
 unfold St.data at hr
 dsimp only at hr
 have Hn:=Lib.hid (And.intro hnx1 (And.intro h.ok.image h.ok.cap))
 refine en Tryz.func193 Tryz.ntmps193 ?_
 refine W ?_
 refine sA ?_
 intro w1 hG f1
 have Hgn:=Lib.hid (show ¬bM L w.heap.size from fun hx=>Nat.lt_irrefl _ (h.lt _ hx))
 replace h:=h.none f1
 generalize w.heap.size=gx at hG Hgn⊢
 refine W ?_
 refine dI (An h (An hG f1)) [] (up 9 0) (h:= ?_)
 clear h hG f1 hnx1
 intro w2 h2 _
 by_cases t1:s.block<dt.length
 ·rw[if_pos t1]at hr
  refine D ?_
  refine W ?_
  exact bH.two ⟨rfl,by rw[hr];exact h2.1,h2.2.2.of_no _⟩
 rw[if_neg t1]at hr
 refine D ?_
 have Ht1:=Lib.hid t1
 clear t1
 refine W ?_
 refine dI h2 [] (up 8 0) (h:= ?_)
 clear h2
 intro w3 h3 _
 obtain⟨b2,hb2⟩:∃b,b=decide (bk=s.next%65536):=⟨_,rfl⟩
 have g2:decide ((bk:Int)=(s.next:Int)%65536)=b2:=by rw[hb2];apply Bool.eq_iff_iff.2;simp only[decide_eq_true_eq];omega
 cases b2
 ·rw[if_pos (of_decide_eq_false hb2.symm)]at hr
  clear hb2
  refine D ?_
  refine W ?_
  refine sC (pV L s w3 h3.1) ?_
  rintro w4 ⟨h4,f4⟩
  refine W ?_
  exact bH.two ⟨rfl,by rw[hr];exact h4,(h3.2.2.of_no _).trans f4⟩
 have H2:=Lib.hid (of_decide_eq_true hb2.symm)
 rw[if_neg (fun x=>x H2.out)]at hr
 clear hb2
 refine D ?_
 clear g2
 refine W ?_
 refine dI h3 [] (up 16 0) (h:= ?_)
 clear h3
 intro w4 h4 _
 obtain⟨tl,htl⟩:∃tl,tl=s.image.length+dt.length:=⟨_,rfl⟩
 have q3:IntKind.i64.wrap ((s.image.length:Int)+(dt.length:Int))=(tl:Int):=by have:=Hn.out;rw[htl,IntWalk.i64_in _ (by omega)];omega
 rw[←htl]at hr
 have Htl:=Lib.hid htl
 clear htl
 by_cases t3:s.c.cap<tl
 ·rw[if_pos t3]at hr
  refine D ?_
  clear q3
  have hB:=h4.1
  refine W ?_
  refine sC (cN L s s.peer 3 [115,105,122,101] w4 h4.1 h4.1.ok.peer (by decide) (by decide)) ?_
  rintro w5 ⟨h5,f5⟩
  clear hB
  refine W ?_
  refine sC (bX L _ w5 h5) ?_
  intro w6 h6
  refine W ?_
  exact bC.comp (L1:=L) rfl (fun b hb=> .inl hb) ((h4.2.2.of_no _).trans f5) ⟨rfl,by rw[hr];exact h6⟩
 rw[if_neg t3]at hr
 refine D ?_
 clear q3
 have Ht3:=Lib.hid t3
 clear t3
 refine W ?_
 refine dI h4 [7,10] [0,1,2,3,5,4,6,7,8,9,10] (h:= ?_)
 clear h4
 intro w5 h5 _
 refine D ?_
 obtain⟨i0,hi0,hz0,hz1,hz2⟩:=info_parts F5
 obtain⟨A',cap',w7,hrun,hap⟩:=Aq (P:=Tryz.prog) w5 0 102 9 102 5 i0 Tryz.underlying102 Tryz.underlying9 hi0 hz0 hz1 hz2 L.img s.image.length L.icap (u8s s.image) h5.1.im dt (by have:=Hn.out;unfold maxLen;omega) (by have:=Hn.out;omega) (Nat.zero_le _)
 clear hi0 hz0 hz1 hz2
 refine dR hrun ?_
 clear hrun
 have hpi:¬∃a,L.img=some a∧a.block=L.p:=fun⟨a,e,e2⟩=>h5.1.ni a e (by rw[e2];simp[Lay.blocks])
 have hb7:=h5.1.bk.keep hap.fr hpi
 have d44:w7.cell? ⟨L.p,44,none⟩=some (.slice L.img s.image.length L.icap):=hb7.cell 44
 have hfz7:w7.frozen? ⟨L.p,44,none⟩=false:=hb7.free 44
 obtain⟨hG1,hG2,hG3⟩:=h5.1.grow rfl hap {h5.1.ok with image:=by have:=Ht3.out;have:=Htl.out;show(s.image++dt).length≤s.c.cap;rw[List.length_append];omega,next:=by have:=Hn.out;show s.next≤(s.image++dt).length+2;rw[List.length_append];omega}
 have hGx:=h5.2.1.keep ((hap.fr.mono fun b _ x=> .inl x).setCell (p:=⟨L.p,44,none⟩) (S:=fun k=>(∃a,L.img=some a∧a.block=k)∨k=L.p) (fun _=> .inr rfl) (.slice A' (s.image.length+dt.length) cap')) (by rintro(⟨a,e,x⟩|x);exact Hgn.out (.inr ⟨a,e,x⟩);exact Hgn.out (x▸nH L))
 have hgo:∀b,bM {L with img:=A',icap:=cap'} b→bM L b∨w.heap.size≤b:=fun b hb=>(hG2 b hb).imp id (fun x=>Nat.le_trans h5.2.2.size x)
 have fin:∀w' s',bC {L with img:=A',icap:=cap'} s' (.tuple #[]) (w7.setCell ⟨L.p,44,none⟩ (.slice A' (s.image.length+dt.length) cap')) (.returned (.tuple #[])) w'→bC L s' (.tuple #[]) w (.returned (.tuple #[])) w':=fun w' s' hp=>bC.comp (L1:={L with img:=A',icap:=cap'}) rfl hgo ((h5.2.2.of_no _).trans hG3) hp
 have hgM:¬bM {L with img:=A',icap:=cap'} gx:=fun hx=>(hG2 _ hx).elim Hgn.out (fun y=>by have:=h5.2.1.lt;omega)
 clear hb7 hap hG2 hG3 hgo h5
 refine D ?_
 refine dS (h:= ?_)
 clear d44 hfz7 hpi
 have Fin:=Lib.hid fin
 have HgM:=Lib.hid hgM
 obtain⟨u,hu⟩:∃u:St,u={s with image:=s.image++dt,next:=s.next+1,came:=wrap64 (s.came+1)}:=⟨_,rfl⟩
 replace hr:r=if dt.length=s.block then if u.came=u.wind then u.got else u.waits ⟨4,bk,[],[],[]⟩else if sha u.image=s.c.digest then {u.got with phase:=3}else u.got.fail:=by rw[hu];exact hr
 have Hr:=Lib.hid hr
 have Hu:=Lib.hid hu
 clear fin hgM hr hu
 generalize w7.setCell ⟨L.p,44,none⟩ (.slice A' (s.image.length+dt.length) cap')=w8 at*
 rw[show L.p=({L with img:=A',icap:=cap'}:Lay).p from rfl]
 generalize({L with img:=A',icap:=cap'}:Lay)=M at*
 refine D ?_
 refine W ?_
 rw[show IntKind.u16.wrap ((s.next:Int)%65536+1)=(((s.next+1)%65536:Nat):Int) by rw[IntKind.wrap_u16];omega]
 refine sB {s with image:=s.image++dt,next:=s.next+1} {hG1.ok with next:=by have:=Hn.out;show s.next+1≤(s.image++dt).length+2;rw[List.length_append];omega} hG1 ?_
 intro w9 h9 f9
 clear hG1
 refine W ?_
 rw[mM]
 refine sB {s with image:=s.image++dt,next:=s.next+1,came:=wrap64 (s.came+1)} {h9.ok with} h9 ?_
 intro w10 h10 f10
 replace hGx:=(hGx.keep f9 HgM.out).keep f10 HgM.out
 obtain⟨y,fin,f0⟩:∃y,(∀w' s',bC M s' (.tuple #[]) y (.returned (.tuple #[])) w'→bC L s' (.tuple #[]) w (.returned (.tuple #[])) w')∧Fr noB y w10:=⟨w10,fun w' s' hp=>Fin.out w' s' (bC.comp (L1:=M) rfl (fun _ hb=> .inl hb) (f9.trans f10) hp),Fr.refl _ _⟩
 replace Fin:=Lib.hid fin
 replace h10:aA w10 M u:=by rw[Hu.out];exact h10
 have hub:u.block=s.block:=by rw[Hu.out]
 have huc:u.c=s.c:=by rw[Hu.out]
 clear fin h9 f9 f10
 refine W ?_
 refine dI (An h10 (An hGx f0)) [] (up 9 0) (h:= ?_)
 clear h10 hGx f0
 intro w11 h11 _
 by_cases t4:dt.length=s.block
 ·have l4:¬dt.length<u.block:=by omega
  refine D ?_
  refine W ?_
  refine dI h11 [] (up 12 0) (h:= ?_)
  clear h11
  intro w12 h12 _
  by_cases t5:u.came=(u.wind:Int)
  ·have hr:r=u.got:=by rw[Hr.out,if_pos t4,if_pos t5]
   have t5':decide (u.came=(u.wind:Int))=true:=decide_eq_true t5
   clear t4 t5 hub
   refine D ?_
   refine W ?_
   refine sC (pV M u w12 h12.1) ?_
   rintro w13 ⟨h13,f13⟩
   refine W ?_
   exact Fin.out _ _ (bH.two ⟨rfl,by rw[hr];exact h13,(h12.2.2.of_no _).trans f13⟩)
  ·have hr:r=u.waits ⟨4,bk,[],[],[]⟩:=by rw[Hr.out,if_pos t4,if_neg t5]
   have t5':decide (u.came=(u.wind:Int))=false:=decide_eq_false t5
   clear t4 t5 hub
   refine D ?_
   have hG:=h12.2.1
   refine W ?_
   refine sC (oM M u 4 bk [] [] [] none 0 0 w12 h12.1 (by decide) hbk rfl SlR.nil (Nat.le_refl 0) (by decide) (by decide) (by decide)) ?_
   rintro w13 ⟨h13,f13⟩
   refine W ?_
   exact Fin.out _ _ (bH.two ⟨rfl,by rw[hr];exact h13,(h12.2.2.of_no _).trans f13⟩)
 have l4:dt.length<u.block:=by have:=Ht1.out;omega
 replace Hr:=Lib.hid (Hr.out.trans (if_neg t4))
 clear t4 hub
 refine D ?_
 refine W ?_
 refine dI h11 [] (up 12 0) (h:= ?_)
 clear h11
 intro w12 h12 _
 refine D ?_
 clear l4
 refine W ?_
 refine sC (pV M u w12 h12.1) ?_
 rintro w13 ⟨h13,f13⟩
 obtain⟨k1,k2⟩:=Ep u
 obtain⟨v,hv⟩:∃v,v=u.got:=⟨_,rfl⟩
 rw[←hv]at h13 k1 k2
 have hvl:v.image.length≤600000:=Nat.le_trans h13.ok.image h13.ok.cap
 replace Hr:=Lib.hid (show r=if sha v.image=v.c.digest then {v with phase:=3}else v.fail by have h:=Hr.out;rw[←hv,←k1,←huc,←k2]at h;exact h)
 replace f13:=(h12.2.2.of_no (bM M)).trans f13
 have hcv:=JB M v w13 h13
 clear h12 hv k1 k2 huc
 refine W ?_
 clear hcv
 refine sA ?_
 intro w14 hB f14
 refine W ?_
 refine sC (Fo v.image (by omega) w13.heap.size 1 w14 (hB.cell 0) hB.lt (h13.gb.rounds.keep f14 id) (h13.gb.begin.keep f14 id)) ?_
 intro w15 f15
 replace f15:=f14.none f15
 clear hB f14
 obtain⟨o,ho⟩:∃o,o=sha v.image:=⟨_,rfl⟩
 rw[←ho]at Hr⊢
 have hol:o.length=32:=by rw[ho];rfl
 have h32:((u8s o).toArray).size=32:=by simp[u8s,hol]
 have hone:((u8s o).toArray).all (·.oneCell')=true:=by rw[Array.all_eq_true];intro k hk;exact jE o _ (by simp)
 obtain⟨cb,hcb⟩:∃z,z=(u8s o).toArray:=⟨_,rfl⟩
 rw[←hcb]at h32 hone⊢
 have Hcb:=Lib.hid (And.intro hcb (And.intro h32 hone))
 clear ho hol h32 hone hcb
 refine W ?_
 refine sA ?_
 intro w16 hD f16
 refine W ?_
 refine sT (cells:=cb) (hs:=by rw[Hcb.out.2.1];rfl) (hi:=by rw[Hcb.out.2.1];kernel_rfl) (h1:=Hcb.out.2.2) ?_
 intro w17 hD f17
 have f18:=bP (f15.none f16) f15.size f17
 replace h13:=h13.none f18
 replace f13:=f13.trans (f18.of_no _)
 clear f15 f16 f17 f18
 generalize w15.heap.size=gd at*
 refine W ?_
 refine dI (An h13 hD) [] [0,2,3,4,5,1001,6,7] (h:= ?_)
 clear h13 hD
 intro w18 h18 f18
 replace f13:=f13.trans (f18.of_no _)
 refine D ?_
 refine dQ (v:= .string (bs o)) ?_ ?_
 ·intro w' hS
  have hcv:=jA (P:=Tryz.prog) w' 102 9 5 Tryz.underlying102 Tryz.underlying5 Tryz.underlying9 noB (some ⟨gd,0,none⟩) 32 32 o (by have h:=SlR.of_bk (S:=noB) (n:=32) (size:=1) hS.2 id Hcb.out.2.1;rw[Hcb.out.1]at h;exact h) (.inr ⟨_,_,rfl⟩)
  go_simp
 obtain⟨h18,_⟩:=h18
 by_cases t6:o=v.c.digest
 ·have beq:(o==v.c.digest)=true:=beq_iff_eq.2 t6
  have hr:r={v with phase:=3}:=by rw[Hr.out,if_pos t6]
  clear t6
  refine D ?_
  refine W ?_
  refine sB {v with phase:=3} {h18.ok with} h18 ?_
  intro w19 h19 f19
  refine W ?_
  exact Fin.out _ _ (bH.two ⟨rfl,by rw[hr];exact h19,f13.trans f19⟩)
 ·have beq:(o==v.c.digest)=false:=beq_eq_false_iff_ne.2 t6
  have hr:r=v.fail:=by rw[Hr.out,if_neg t6]
  clear t6
  refine D ?_
  refine W ?_
  refine sC (bX M v w18 h18) ?_
  intro w19 h19
  refine W ?_
  exact Fin.out _ _ (bC.comp (L1:=M) rfl (fun _ h=> .inl h) f13 ⟨rfl,by rw[hr];exact h19⟩)
end Go.Proofs.YtcbkaiakdhiloacGreatDoor
namespace Go.Proofs.YtcbkaiakdhiloacGreatDoor
open Go.RowKit Go.Proofs
attribute [local go_sem] aG aD aC
def Mk (p:Nat) (l:List UInt8) (w:World) (e:Ending) (w':World):Prop:=
 (∃a r,eQ l=some (a,r)∧e= .returned (.string (bs a))∧Rd w' p r∧Fr (aI p) w w')∨(eQ l=none∧e= .panicked (cE 2)∧Fr (aI p) w w')
theorem E5 (p:Nat) (l:List UInt8) (w:World) (hR:Rd w p l) (hl:l.length≤4611686018427387904):
 Calls Tryz.prog 166 #[.pointer (some ⟨p,0,none⟩)] w (Mk p l w):=by
 have hc0:=Bk.cells hR
 have hz0:=Bk.frees hR
 go_enter Tryz.func166,Tryz.ntmps166
 go_wp2_with fail
 go_loopw [10] (fun iv wr=>∃(i:Nat),i≤l.length∧iv= .int .i64 (i:Int)∧(∀j,j<i→l[j]?≠some 0)∧wr=w) (fun iv _=>l.length-(intOf iv).toNat)
 case atStart=>exact⟨0,by omega,rfl,fun j h=>absurd h (by omega),rfl⟩
 case round=>
  obtain⟨i,hi,rfl,ha,hw⟩:=hrel
  subst hw
  by_cases hlt:i<l.length
  ·obtain⟨c,hc⟩:∃c,l[i]? =some c:=⟨_,List.getElem?_eq_getElem hlt⟩
   have hgi:∀h:i<(bs l).size,(bs l)[i]'h=c:=fun h=>by rw[jZ l i h];rw[List.getElem?_eq_getElem hlt]at hc;injection hc
   by_cases h0:c=0
   ·subst h0
    have H:=Lib.hid (yQ l i hc ha)
    clear hc ha
    go_wp2_with fail
    go_ret
    refine .inl ⟨l.take i,l.drop (i+1),H.out,rfl,?_,(Fr.refl (aI p) wr).setCell (p:=⟨p,0,none⟩) (fun _=>rfl) _⟩
    have h:=Bk.set hR 0 (.string (bs (l.drop (i+1))))
    simpa[Rd]using h
   ·have h0i:((c.toNat:Int)==0)=false:=by rw[beq_eq_false_iff_ne];intro e;exact h0 (UInt8.toNat.inj (by simpa using e))
    have h0j:¬c.toNat=0:=fun e=>h0 (UInt8.toNat.inj (by simpa using e))
    have Ha:Hid (∀j,j<i+1→l[j]?≠some 0):=Lib.hid (by
     intro j hj e
     rcases Nat.lt_or_ge j i with h3|h3
     ·exact ha j h3 e
     ·obtain rfl:j=i:=by omega
      rw[hc]at e;cases e;exact h0 rfl)
    clear hc ha h0
    go_wp2_with fail
    exact⟨⟨i+1,by omega,by rw[Int.natCast_add];rfl,Ha.out,trivial⟩,by simp only[intOf];omega⟩
  ·obtain rfl:i=l.length:=by omega
   have H:=Lib.hid (rH l ha)
   clear ha
   go_wp2_with fail
   refine(wT 2 _).mono ?_
   rintro x w1 ⟨rfl,rfl⟩
   exact⟨rfl,.inr ⟨H.out,rfl,Fr.refl _ _⟩⟩
end Go.Proofs.YtcbkaiakdhiloacGreatDoor
