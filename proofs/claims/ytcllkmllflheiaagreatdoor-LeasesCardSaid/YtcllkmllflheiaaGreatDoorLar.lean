/- Parts of the walk; written by programs, merged. -/
import Derived.Test.YtcllkmllflheiaaGreatDoorLaq
set_option linter.unusedSimpArgs false
set_option linter.unusedVariables false
set_option maxRecDepth 20000
set_option maxHeartbeats 8000000
namespace Go.Proofs.YtcllkmllflheiaaGreatDoor
open Go.RowKit Go.Proofs
attribute [local go_sem] aG aD aE
def Jp (B:Nat) (os:List aX) (l:List UInt8) (w:World) (e:Ending) (w':World):Prop:=
 (∃os' A cap,bT os l=some os'∧e= .returned (.tuple #[.slice A os'.length cap,.bool true])∧SlR w' (fun k=>k<B) 2 A os'.length (eA os')∧wtO os'≤wtO os+l.length∧Fr noB w w')∨
 (bT os l=none∧e= .returned (.tuple #[.slice none 0 0,.bool false])∧Fr noB w w')
theorem mA (B:Nat) (A0:Option Addr) (cap0:Nat) (os:List aX) (l:List UInt8) (w:World) (hA:SlR w (fun k=>k<B) 2 A0 os.length (eA os)) (hB:B≤w.heap.size) (hwt:wtO os+l.length≤1099511627000):
 Calls Tryz.prog 119 #[.slice A0 os.length cap0,.string (bs l)] w (Jp B os l w):=by
 go_enter Tryz.func119,Tryz.ntmps119
 go_wp2_with fail
 go_loopw [0,6] (fun lv iv wr=>∃(os1:List aX) (A:Option Addr) (cap i:Nat),lv= .slice A os1.length cap∧iv= .int .i64 (i:Int)∧i≤l.length∧bT os l=bT os1 (l.drop i)∧SlR wr (fun k=>k<B) 2 A os1.length (eA os1)∧
  wtO os1+(l.length-i)≤wtO os+l.length∧Fr noB w wr) (fun _ iv _=>l.length-(intOf iv).toNat)
 case atStart=>exact⟨os,A0,cap0,0,rfl,rfl,by omega,rfl,hA,by omega,Fr.refl _ _⟩
 case round=>
  obtain⟨os1,A,cap,i,rfl,rfl,hi,e1,hA1,hw1,hf1⟩:=hrel
  have E1:=Lib.hid e1
  clear e1
  by_cases hlt:i<l.length
  ·obtain⟨c,hc⟩:∃c,l[i]? =some c:=⟨_,List.getElem?_eq_getElem hlt⟩
   have hgi:∀h:i<(bs l).size,(bs l)[i]'h=c:=fun h=>by rw[gW l i h];rw[List.getElem?_eq_getElem hlt]at hc;injection hc
   have hd:Hid (l.drop i=c::l.drop (i+1)):=Lib.hid (by rw[List.drop_eq_getElem_cons hlt];rw[List.getElem?_eq_getElem hlt]at hc;cases hc;rfl)
   have hcl:=c.toNat_lt
   clear hc
   by_cases h5:c=255
   ·subst h5
    have H1:Hid (bT os l=some os1):=Lib.hid (by rw[E1.out,hd.out,vV])
    go_wp2_with fail
    go_ret2
    exact .inl ⟨os1,A,cap,H1.out,rfl,hA1,by omega,hf1⟩
   ·have h5i:¬(c.toNat:Int)=255:=fun e=>h5 (UInt8.toNat.inj (show c.toNat=255 by omega))
    by_cases h0:c=0
    ·subst h0
     have H1:Hid (bT os l=bT os1 (l.drop (i+1))):=Lib.hid (by rw[E1.out,hd.out,wR])
     go_wp2_with fail
     exact⟨⟨os1,A,cap,i+1,rfl,by rw[Int.natCast_add];rfl,by omega,H1.out,hA1,by omega,hf1⟩,by simp only[intOf];omega⟩
    ·have h0i:¬(c.toNat:Int)=0:=fun e=>h0 (UInt8.toNat.inj (by simpa using e))
     have H0:=Lib.hid h0
     have H5:=Lib.hid h5
     clear h0 h5
     by_cases h1:i+1<l.length
     ·obtain⟨k,hk⟩:∃k,l[i+1]? =some k:=⟨_,List.getElem?_eq_getElem h1⟩
      have hgk:∀h:i+1<(bs l).size,(bs l)[i+1]'h=k:=fun h=>by rw[gW l (i+1) h];rw[List.getElem?_eq_getElem h1]at hk;injection hk
      have hd2:Hid (l.drop (i+1)=k::l.drop (i+2)):=Lib.hid (by rw[List.drop_eq_getElem_cons h1];rw[List.getElem?_eq_getElem h1]at hk;cases hk;rfl)
      have hkl:=k.toNat_lt
      clear hk
      by_cases h2:l.length<i+2+k.toNat
      ·have H1:Hid (bT os l=none):=Lib.hid (by rw[E1.out,hd.out,hd2.out];exact oM _ _ _ _ H5.out H0.out (by rw[List.length_drop];omega))
       have h2i:(l.length:Int)<(i:Int)+2+(k.toNat:Int):=by omega
       go_wp2_with fail
       go_ret2
       exact .inr ⟨H1.out,rfl,hf1⟩
      ·have h2i:¬(l.length:Int)<(i:Int)+2+(k.toNat:Int):=by omega
       go_wp2_with fail
       have hA2:=hA1.keep ((Fr.refl (fun k=>k<B) wr).drew)
       have hf2:=hf1.drew
       have hto3:IntKind.i64.wrap ((i:Int)+2)=(i:Int)+2:=IntWalk.i64_in _ (by omega)
       have hto4:(0:Int)≤(i:Int)+2+(k.toNat:Int):=by omega
       have hto0:(0:Int)≤(i:Int)+2:=by omega
       have hto1:(i:Int)+2≤(i:Int)+2+(k.toNat:Int):=by omega
       have hto2:(i:Int)+2+(k.toNat:Int)≤(l.length:Int):=by omega
       refine wp_region_still_tail 9 (by kernel_rfl) (by kernel_rfl) ?_
       simp only[List.take_succ_cons,List.take_zero,List.drop_succ_cons,List.drop_zero]
       generalize hw2:({wr with drawn:=wr.drawn+1}:World)=w3
       rw[show wr.drew=w3 from hw2]at hA2 hf2
       clear hw2
       repeat still_step
       refine wpStill_nil ?_
       go_wp2_with fail
       have hdl:Hid ((l.take (i+2+k.toNat)).drop (i+2)=(l.drop (i+2)).take k.toNat):=Lib.hid (by rw[List.drop_take];congr 1;omega)
       have hll:((l.drop (i+2)).take k.toNat).length=k.toNat:=by rw[List.length_take,List.length_drop];omega
       rw[hdl.out]
       refine(FO A cap os1 c ((l.drop (i+2)).take k.toNat) w3 (hA2.sub (fun _ _ x=>x.elim)) (by omega)).mono ?_
       rintro e w4 ⟨A2,cap2,rfl,hA3',hf3⟩
       have hA3:=hA3'.sub (T:=fun k=>k<B) (fun b _ h=>by have:=hf2.size;omega)
       clear hA3'
       have hwa:=sI os1 c ((l.drop (i+2)).take k.toNat)
       have hf4:=hf2.none hf3
       have H1:Hid (bT os l=bT (eS os1 c ((l.drop (i+2)).take k.toNat)) (l.drop (i+2+k.toNat))):=Lib.hid (by
        rw[E1.out,hd.out,hd2.out,uE _ _ _ _ H5.out H0.out (by rw[List.length_drop];omega),List.drop_drop])
       go_wp2_with fail
       exact⟨⟨_,A2,cap2,i+2+k.toNat,rfl,by rw[Int.natCast_add,Int.natCast_add];rfl,by omega,H1.out,hA3,by omega,hf4⟩,by simp only[intOf];omega⟩
     ·have H1:Hid (bT os l=none):=Lib.hid (by
       rw[E1.out,hd.out,List.drop_of_length_le (by omega:l.length≤i+1)];exact tW _ _ H5.out H0.out)
      have h1i:(l.length:Int)≤(i:Int)+1:=by omega
      go_wp2_with fail
      go_ret2
      exact .inr ⟨H1.out,rfl,hf1⟩
  ·obtain rfl:i=l.length:=by omega
   have H1:Hid (bT os l=none):=Lib.hid (by rw[E1.out,List.drop_length];rfl)
   go_wp2_with fail
   go_ret2
   exact .inr ⟨H1.out,rfl,hf1⟩
end Go.Proofs.YtcllkmllflheiaaGreatDoor
namespace Go.Proofs.YtcllkmllflheiaaGreatDoor
open Go.RowKit Go.Proofs
attribute [local go_sem] aG aD cV aF
attribute [local simp] pK xQ ibq ibn eqN ltN leN eqL ltL gtL leL geL
theorem FK {l:List UInt8} {i:Nat} {c:UInt8} (h:i<l.length) (hc:∀h:i<(bs l).size,(bs l)[i]'h=c):sub l i (i+1)=[c]:=by
 have e:l[i]=c:=(gW l i h).symm.trans (hc (by rw[aG];exact h))
 unfold sub
 rw[List.take_succ_eq_append_getElem h,List.drop_append_of_le_length (by simp;omega),e]
 simp[List.drop_eq_nil_of_le]
theorem xV (l:List UInt8) (w:World) (hl:l.length≤1099511000000):
 Calls Tryz.prog 76 #[.string (bs l)] w (yL l w):=by
 obtain⟨z,hz⟩:∃z,aT l=z:=⟨_,rfl⟩
 unfold yL
 rw[hz]
 unfold aT at hz
 refine en Tryz.func76 Tryz.ntmps76 ?_
 refine W ?_
 refine sA ?_
 intro w1 hB f1
 have hg0:=hB.lt
 split at hz<;>rename_i h0
 rotate_left
 obtain⟨c0,hc0,s0,hb0⟩:=nK l 0 (by omega)
 have u0:=FK (by omega) hc0
 rw[u0]at hz
 have l0:0<l.length:=by omega
 have l3:3≤l.length:=by omega
 have l240:240≤l.length:=by omega
 have l1:1≤l.length:=by omega
 have l4:4≤l.length:=by omega
 have l8:8≤l.length:=by omega
 have l12:12≤l.length:=by omega
 have l16:16≤l.length:=by omega
 have l20:20≤l.length:=by omega
 have l24:24≤l.length:=by omega
 have l28:28≤l.length:=by omega
 have l44:44≤l.length:=by omega
 have l108:108≤l.length:=by omega
 have l236:236≤l.length:=by omega
 have hb':(([c0]:List UInt8)=[1]∨[c0]=[2])↔(c0.toNat=1∨c0.toNat=2):=by
  have e:∀k:UInt8,([c0]:List UInt8)=[k]↔c0.toNat=k.toNat:=fun k=>⟨fun h=>congrArg _ (List.cons.inj h).1,fun h=>by rw[UInt8.toNat.inj h]⟩
  rw[e,e];rfl
 have hr0:(([c0]:List UInt8)==[2])=decide (c0.toNat=2):=by
  by_cases h:c0.toNat=2
  ·rw[UInt8.toNat.inj (show c0.toNat=(2:UInt8).toNat from h)];rfl
  ·rw[decide_eq_false h,beq_eq_false_iff_ne]
   exact fun e=>h (congrArg UInt8.toNat (List.cons.inj e).1)
 simp only[hb',hr0]at hz
 obtain⟨b,hb⟩:∃b,decide ((c0.toNat=1∨c0.toNat=2)∧sub l 1 3=[1,6]∧sub l 236 240=[99,130,83,99])=b:=⟨_,rfl⟩
 refine V ?_
 refine cZ ?_
 refine W ?_
 refine uZ ?_
 refine cS (cS ?_)
 refine cM [0,2] [(35,.bool (!b))] (fun w'=>w'=w1) ?_ ?_
 ·clear hz hb' hr0
  have key:∀q,(sub l 1 3==[1,6])=q→∀r,(sub l 236 240==[99,130,83,99])=r→(c0.toNat=1∨c0.toNat=2)→b=(q&&r):=by
   rintro q rfl r rfl h
   rw[←hb]
   by_cases h1:sub l 1 3=[1,6]<;>by_cases h2:sub l 236 240=[99,130,83,99]<;>simp[h,h1,h2]
  obtain⟨q,hq⟩:∃q,(sub l 1 3==[1,6])=q:=⟨_,rfl⟩
  obtain⟨r,hr⟩:∃r,(sub l 236 240==[99,130,83,99])=r:=⟨_,rfl⟩
  have k:=key q hq r hr
  by_cases h1:c0.toNat=1
  ·obtain rfl:=k (.inl h1)
   clear k key hb
   cases q<;>cases r<;>(refine W ?_;exact mt rfl)
  by_cases h2:c0.toNat=2
  ·obtain rfl:=k (.inr h2)
   clear k key hb
   cases q<;>cases r<;>(refine W ?_;exact mt rfl)
  ·obtain rfl:b=false:=by rw[←hb];exact decide_eq_false fun h=>h.1.elim h1 h2
   clear k key hb
   refine W ?_
   exact mt rfl
 rintro u w2 rfl
 split at hz<;>rename_i h1
 obtain rfl:b=false:=by rw[←hb];exact decide_eq_false h1
 rotate_left
 obtain rfl:b=true:=by rw[←hb];exact decide_eq_true (Decidable.not_not.1 h1)
 clear hb h1 hb' hr0
 have n0:num (sub l 4 8)<4294967296:=kW ..
 have e0:IntKind.u32.wrap (num (sub l 4 8):Int)=num (sub l 4 8):=IntWalk.u32_in _ ⟨by omega,by omega⟩
 have q0:=fun w=>nB (sub l 4 8) w (by rw[bSz];omega)
 have q1:=fun w=>iZ (sub l 12 16) w (by rw[bSz];omega)
 have q2:=fun w=>iZ (sub l 16 20) w (by rw[bSz];omega)
 have q3:=fun w=>iZ (sub l 20 24) w (by rw[bSz];omega)
 have q4:=fun w=>kP (sub l 28 l.length) w (by rw[bSz];omega) (by rw[bSz];omega)
 have em:fX (l.drop 28)=fX (sub l 28 l.length):=by rw[iF]
 simp only[em]at hz
 clear em
 obtain⟨d,hd⟩:∃d:kF,⟨decide (c0.toNat=2),num (sub l 4 8),num (sub l 12 16),num (sub l 16 20),num (sub l 20 24),fX (sub l 28 l.length),[]⟩=d:=⟨_,rfl⟩
 have hdz:∀a,(⟨decide (c0.toNat=2),num (sub l 4 8),num (sub l 12 16),num (sub l 16 20),num (sub l 20 24),fX (sub l 28 l.length),a⟩:kF)={d with os:=a}:=fun a=>by rw[←hd]
 simp only[hdz]at hz
 clear hdz
 refine W ?_
 refine cY (fun g=>[(0,.string (bs l)),(2,.pointer (some ⟨w.heap.size,0,none⟩)),(4,.pointer (some ⟨g,0,none⟩))]) (fun g w'=>Bk w' g 139 (pK d none 0)∧(Bk w' w.heap.size 139 (pK ES none 0)∧Fr noB w w')∧w.heap.size<g) ?_ ?_
 ·clear hz
  refine dI (An hB f1) [21] [0,1,2,3,4,7,8,10,11,13,14,16,17,2000,5,6,2000,9,2000,12,2000,15,2000,18,19,20,21,3000,20,18,19,21,3000,20,15,18,19,21,3000,20,12,15,18,19,21,3000,20,9,12,15,18,19,21,3000,20,5,6,9,12,15,18,19,21] (h:= ?_)
  rintro w3 hS _
  clear hB f1
  refine D2 ?_
  repeat' (first
   |refine dF2 ?_ ?_
   |(refine dQe (q0 _) hS ?_;refine D2 ?_)
   |(refine dQe (q1 _) hS ?_;refine D2 ?_)
   |(refine dQe (q2 _) hS ?_;refine D2 ?_)
   |(refine dQe (q3 _) hS ?_;refine D2 ?_)
   |(refine dQc (q4 _) hS ?_;intro _ f hS;(try replace hG:=hG.keep f id);refine D2 ?_)
   |(have hgl:=hS.1.lt;refine dA2 (by infer_instance) hS ?_;intro _ hS hG _;refine D2 ?_))
  all_goals
   refine dZ ?_
   intro _ hG f2
   refine D2 ?_
   refine tN ?_
   subst hd
   exact⟨_,mt ⟨hG,⟨hS.1.keep f2 fun e=>by have e':w.heap.size=_:=e;omega,bA hS.2 (Nat.le_of_lt hgl) f2⟩,hgl⟩⟩
 clear hB f1 q0 q1 q2 q3 q4 n0 e0 hd
 rintro g u w3 ⟨hG,⟨hB,f1⟩,hgl⟩
 have hgg:=hG.lt
 refine W ?_
 refine sX (mA (g+1) none 0 [] (sub l 240 l.length) w3 SlR.nil hgg (by rw[bSz];simp[wtO];omega)) ?_
 rw[iF]
 rintro e w4 (⟨os,A,cap,ho,rfl,hA,hwt,f2⟩|⟨ho,rfl,f2⟩)
 rotate_left
 refine⟨_,rfl,?_⟩
 rw[ho]at hz
 replace hB:=hB.keep f2 id
 replace f1:=f1.none f2
 rotate_right
 refine⟨_,rfl,?_⟩
 rw[ho]at hz
 dsimp only at hz
 replace hB:=hB.keep f2 id
 replace hG:=hG.keep f2 id
 replace f1:=f1.none f2
 clear f2 ho
 have hol:=dO os
 have hwl:wtO os≤1099511000000:=by simp[wtO]at hwt;omega
 clear hwt
 refine W ?_
 refine sC (jJ _ A os.length cap os 52 w4 hA (by omega)) ?_
 intro w5 f2
 replace hB:=hB.keep f2 id
 replace hG:=hG.keep f2 id
 replace hA:=hA.keep (f2.of_no _)
 replace f1:=f1.none f2
 clear f2
 rcases ho:bF os 52 with _|y
 ·have e:gB os (sub l 44 108) (sub l 108 236)=(os,0):=by unfold gB;rw[ho]
  rw[e]at hz
  dsimp only at hz
  subst hz
  refine W ?_
  refine sK (pK {d with os:=os} A cap) hG ?_
  intro w6 hG f2
  replace hB:=hB.keep f2 (by intro e;have e':w.heap.size=g:=e;omega)
  refine W ?_
  refine sT ?_
  intro w7 hB f3
  refine W ?_
  refine zQ hB Tryz.underlying139 ?_
  have f23:Fr (fun b=>w.heap.size≤b∧b<g+1) w5 w7:=(f2.mono fun b _ e=>⟨by have e':b=g:=e;omega,by have e':b=g:=e;omega⟩).trans (f3.mono fun b _ e=>⟨by have e':b=w.heap.size:=e;omega,by have e':b=w.heap.size:=e;omega⟩)
  exact⟨⟨A,cap,rfl,(hA.keep (f23.mono fun b _ h=>h.2)).sub fun b hb h=>by omega⟩,f1.trans' f23 fun b hb h=>by omega⟩
 by_cases hy:y.length=1
 rotate_left
 rw[vK os (sub l 44 108) (sub l 108 236) y ho hy]at hz
 dsimp only at hz
 rotate_right
 obtain⟨q,rfl⟩:∃q,y=[q]:=by
  match y,hy with
  |[q],_=>exact⟨q,rfl⟩
 rw[qD os (sub l 44 108) (sub l 108 236) q ho]at hz
 have hq:∀h:0<(bs [q]).size,(bs [q])[0]'h=q:=fun h=>by rw[gW];rfl
 by_cases q1:q.toNat<1
 rw[if_pos (.inl q1)]at hz
 dsimp only at hz
 rotate_left
 by_cases q3:3<q.toNat
 rw[if_pos (.inr q3)]at hz
 dsimp only at hz
 rotate_left
 rw[if_neg (by omega)]at hz
 clear ho hy
 obtain⟨n,hn⟩:∃n,os.length=n:=⟨_,rfl⟩
 have HN:=Lib.hid hn
 rw[hn]at hA hol⊢
 clear hn
 refine W ?_
 refine cL (fun i=>n-i.1) (fun(i:Nat×Option Addr×Nat)=>[(0,.string (bs l)),(2,.pointer (some ⟨w.heap.size,0,none⟩)),(4,.pointer (some ⟨g,0,none⟩)),(6,.bool true),(7,.string (bs [q])),(90,.slice A n cap),(91,.int .i64 (n:Int)),(92,.int .i64 (i.1:Int)),(9,.slice i.2.1 ((os.take i.1).filter jO).length i.2.2)])
  (fun i w'=>i.1≤n∧w'.ownsRow w5.heap.size 157 2 (.slice i.2.1 ((os.take i.1).filter jO).length i.2.2) ((os.take i.1).filter jO).length (eA ((os.take i.1).filter jO))∧Fr noB w5 w')
  (0,none,0) (mt (p:=True) trivial).1 ⟨Nat.zero_le _,⟨rfl,.inl ⟨rfl,rfl⟩⟩,Fr.refl _ _⟩ ?_
 rintro⟨i,A',cap'⟩ u w6 ⟨hi,hO,hw⟩
 dsimp only at hi hO hw⊢
 by_cases hlt:i<n
 ·clear hz
  have hlen:((os.take i).filter jO).length≤i:=Nat.le_trans (List.length_filter_le _ _) (List.length_take_le i os)
  obtain⟨o,ho⟩:∃o,os[i]? =some o:=⟨_,List.getElem?_eq_getElem (by have:=HN.out;omega)⟩
  obtain⟨ad,rfl,c1,c2⟩:=((hA.sub (T:=noB) fun _ _ x=>x.elim).keep hw).optAt ho
  have hft:=oU ho
  have i1:IntKind.i64.wrap ((i:Int)+1)=((i+1:Nat):Int):=(IntWalk.i64_in _ (by omega)).trans (by omega)
  have hbz:w5.heap.size≤w6.heap.size:=hw.size
  refine W ?_
  refine sA ?_
  intro w7 hE f7
  refine W ?_
  refine sT ?_
  intro w8 hE f8
  replace f7:=bA f7 (Nat.le_refl _) f8
  replace hO:=dJ hO f7 fun _ _ x=>x
  replace hw:=hw.none f7
  clear f7 f8 c1 c2
  by_cases he:o.code=52
  ·have hei:o.code.toNat=52:=by rw[he];rfl
   rw[if_neg (by unfold jO;rw[he];decide),List.append_nil]at hft
   refine W ?_
   exact⟨(i+1,A',cap'),by rw[hft];exact(mt (p:=True) trivial).1,⟨hlt,by rw[hft];exact hO,hw⟩,by dsimp only;omega⟩
  ·have hei:¬o.code.toNat=52:=fun e=>he (UInt8.toNat.inj (show o.code.toNat=52 by omega))
   rw[if_pos (by unfold jO;simpa using he)]at hft
   refine W ?_
   refine sA ?_
   intro w9 hE2 f9
   replace hO:=dJ hO f9 fun _ _ x=>x
   replace hw:=hw.none f9
   refine W ?_
   refine sP (hi:=jS) hO (SlR.of_bk (S:=noB) hE2 id rfl) (by simp[Value.oneCell']) Tryz.underlying137 (by unfold maxLen;omega) (by omega) hw.size ?_
   intro A4 cap4 w10 ha
   refine W ?_
   refine⟨(i+1,A4,cap4),by rw[hft,List.length_append];exact(mt (p:=True) trivial).1,⟨hlt,by rw[hft,List.length_append,eK];exact ha.own,hw.trans' ha.fr ?_⟩,by dsimp only;omega⟩
   rintro b hb ⟨a,e,rfl⟩
   have:=jD hO a e
   omega
 obtain rfl:i=n:=by omega
 rw[List.take_of_length_le (by have:=HN.out;omega)]at hO⊢
 have hgg5:=hG.lt
 replace hA:=kR (S:=fun k=>k<g+1) hO fun a e h=>by have:=jD hO a e;omega
 replace hB:=hB.keep hw id
 replace hG:=hG.keep hw id
 replace f1:=f1.none hw
 have hw0:=gU os
 clear hO hw hgg5 HN hi hlt hol
 generalize os.filter jO=a0 at*
 refine W ?_
 refine cY (fun(r:Option (List aX)×Option Addr×Nat)=>[(0,.string (bs l)),(2,.pointer (some ⟨w.heap.size,0,none⟩)),(4,.pointer (some ⟨g,0,none⟩)),(6,.bool r.1.isSome),(7,.string (bs [q])),(9,.slice r.2.1 (r.1.getD []).length r.2.2)])
  (fun r w'=>r.1=lS q (sub l 44 108) (sub l 108 236) a0 1∧SlR w' (fun k=>k<g+1) 2 r.2.1 (r.1.getD []).length (eA (r.1.getD []))∧wtO (r.1.getD [])≤wtO a0+128∧Fr noB w6 w') ?_ ?_
 ·clear hz
  have e1:(q.toNat:Int).tmod 2=((q.toNat%2:Nat):Int):=by rw[Int.tmod_eq_emod_of_nonneg (by omega)];rfl
  by_cases p:q.toNat%2=1
  ·rw[p]at e1
   refine W ?_
   refine sX (mA (g+1) A' cap' a0 (sub l 108 236) w6 hA hG.lt (by rw[bSz];omega)) ?_
   rintro e w7 (⟨os2,A2,cap2,h1,rfl,hA2,hw2,f2⟩|⟨h1,rfl,f2⟩)<;>refine⟨_,rfl,?_⟩<;>refine W ?_
   ·rw[bSz]at hw2
    exact⟨(some os2,A2,cap2),mt ⟨by rw[lS,lS,Option.bind_some,iN,if_pos p,h1],hA2,by dsimp only[Option.getD];omega,f2⟩⟩
   ·exact⟨(none,none,0),mt ⟨by rw[lS,lS,Option.bind_some,iN,if_pos p,h1],SlR.nil,Nat.zero_le _,f2⟩⟩
  ·have e2:¬(q.toNat:Int).tmod 2=1:=by rw[e1];omega
   clear e1
   refine W ?_
   exact⟨(some a0,A',cap'),mt ⟨by rw[lS,lS,Option.bind_some,iN,if_neg p],hA,Nat.le_add_right _ _,Fr.refl _ _⟩⟩
 rintro⟨r,A2,cap2⟩ u w7 ⟨h1,hA2,hw2,f2⟩
 dsimp only at h1 hA2 hw2⊢
 have H1:=Lib.hid h1
 clear h1
 clear hA
 replace hB:=hB.keep f2 id
 replace hG:=hG.keep f2 id
 replace f1:=f1.none f2
 have hgg7:=hG.lt
 clear f2
 refine cS ?_
 refine cY (fun(r:Option (List aX)×Option Addr×Nat)=>[(0,.string (bs l)),(2,.pointer (some ⟨w.heap.size,0,none⟩)),(4,.pointer (some ⟨g,0,none⟩)),(6,.bool r.1.isSome),(9,.slice r.2.1 (r.1.getD []).length r.2.2)])
  (fun r w'=>r.1=lS q (sub l 44 108) (sub l 108 236) a0 2∧SlR w' (fun k=>k<g+1) 2 r.2.1 (r.1.getD []).length (eA (r.1.getD []))∧wtO (r.1.getD [])≤wtO a0+192∧Fr noB w7 w') ?_ ?_
 ·clear hz
  rcases r with _|a1<;>dsimp only[Option.isSome,Option.getD]at hA2 hw2⊢
  ·refine W ?_
   exact⟨(none,A2,cap2),mt ⟨by rw[lS,←H1.out];rfl,hA2,Nat.zero_le _,Fr.refl _ _⟩⟩
  by_cases p:2≤q.toNat
  ·have p':(2:Int)≤(q.toNat:Int):=by omega
   refine W ?_
   refine sX (mA (g+1) A2 cap2 a1 (sub l 44 108) w7 hA2 hG.lt (by rw[bSz];omega)) ?_
   rintro e w8 (⟨os2,A3,cap3,h2,rfl,hA3,hw3,f2⟩|⟨h2,rfl,f2⟩)<;>refine⟨_,rfl,?_⟩<;>refine W ?_
   ·rw[bSz]at hw3
    exact⟨(some os2,A3,cap3),mt ⟨(by rw[lS,←H1.out,Option.bind_some,iN,if_pos p,h2];rintro h;cases h),hA3,by dsimp only[Option.getD];omega,f2⟩⟩
   ·exact⟨(none,none,0),mt ⟨(by rw[lS,←H1.out,Option.bind_some,iN,if_pos p,h2];rintro h;cases h),SlR.nil,Nat.zero_le _,f2⟩⟩
  ·have p':¬(2:Int)≤(q.toNat:Int):=by omega
   refine W ?_
   exact⟨(some a1,A2,cap2),mt ⟨(by rw[lS,←H1.out,Option.bind_some,iN,if_neg p];rintro h;cases h),hA2,by dsimp only[Option.getD];omega,Fr.refl _ _⟩⟩
 clear H1 hA2 hw2 hq
 rintro⟨r,A3,cap3⟩ u w8 ⟨h1,hA3,hw3,f2⟩
 dsimp only at h1 hA3 hw3⊢
 replace hB:=hB.keep f2 id
 replace hG:=hG.keep f2 id
 replace f1:=f1.none f2
 clear f2
 rw[←h1]at hz
 clear h1
 rcases r with _|os3<;>dsimp only[Option.isSome,Option.getD]at hz hA3 hw3⊢
 rotate_left
 have hl3:=dO os3
 refine W ?_
 refine sC (jJ _ A3 os3.length cap3 os3 52 w8 hA3 (by omega)) ?_
 intro w9 f2
 replace hB:=hB.keep f2 id
 replace hG:=hG.keep f2 id
 replace hA3:=hA3.keep (f2.of_no _)
 replace f1:=f1.none f2
 clear f2
 rcases ho:bF os3 52 with _|y<;>rw[ho]at hz<;>dsimp only[Option.isSome,reduceIte,Bool.false_eq_true,if_false,if_true]at hz
 ·subst hz
  refine W ?_
  refine sK (pK {d with os:=os3} A3 cap3) hG ?_
  intro w6 hG f2
  replace hB:=hB.keep f2 (by intro e;have e':w.heap.size=g:=e;omega)
  refine W ?_
  refine sT ?_
  intro w7 hB f3
  refine W ?_
  refine zQ hB Tryz.underlying139 ?_
  have f23:Fr (fun b=>w.heap.size≤b∧b<g+1) w9 w7:=(f2.mono fun b _ e=>⟨by have e':b=g:=e;omega,by have e':b=g:=e;omega⟩).trans (f3.mono fun b _ e=>⟨by have e':b=w.heap.size:=e;omega,by have e':b=w.heap.size:=e;omega⟩)
  exact⟨⟨A3,cap3,rfl,(hA3.keep (f23.mono fun b _ h=>h.2)).sub fun b hb h=>by omega⟩,f1.trans' f23 fun b hb h=>by omega⟩
 all_goals
  subst hz
  refine W ?_
  refine sT ?_
  intro w3 hB f2
  refine W ?_
  refine zQ hB Tryz.underlying139 ?_
  exact⟨⟨none,0,rfl,SlR.nil⟩,f1.trans' f2 fun b hb e=>by have e':b=w.heap.size:=e;omega⟩
end Go.Proofs.YtcllkmllflheiaaGreatDoor
namespace Go.Proofs.YtcllkmllflheiaaGreatDoor
open Go.RowKit Go.Proofs
attribute [local simp] lF Ar xY oX ipC AW ibq ibn eqN ltN leN eqL ltL gtL leL geL eqR
theorem BP (s:St) (f:List UInt8):s.frame f=s.frameP f:=rfl
attribute [-go_sem] run_eql_struct run_neq_struct run_equalIn_agg in
theorem xS (p T:Nat) (M:bQ) (s:St) (ld:List UInt8) (w:World) (h:aA w p T M s) (hld:ld.length≤900000) (hb0:s.busy=false)
 (cA:∀(x:Ae) (w:World),aA w p T M s→x.op<65536→x.fi<4294967296→x.ti<4294967296→Calls Tryz.prog 73 #[.pointer (some ⟨p,0,none⟩),.agg (oX x)] w fun e w'=>e= .returned (.tuple #[])∧bE p T M w (s.arped x) w')
 (cD:∀(d:kF) (A:Option Addr) (cap n:Nat) (w:World),aA w p T M s→FW w p M d A n→Calls Tryz.prog 77 #[.pointer (some ⟨p,0,none⟩),.agg (Ar d A n cap)] w fun e w'=>e= .returned (.tuple #[])∧bE p T M w (s.leased d) w'):
 Calls Tryz.prog 49 #[.pointer (some ⟨p,0,none⟩),.string (bs ld)] w fun e w'=>e= .returned (.tuple #[])∧bE p T M w (s.frame ld) w':=by
 have hin:=mR ld
 obtain⟨r,hr⟩:∃r,r=s.frame ld:=⟨_,rfl⟩
 rw[←hr]
 rw[BP]at hr
 unfold St.frameP at hr
 refine en Tryz.func49 Tryz.ntmps49 ?_
 refine W ?_
 refine sC (wN ld w (by omega)) ?_
 intro w1 f1
 generalize aO ld=q at*
 obtain⟨x,k⟩:=q
 dsimp only at hin hr⊢
 refine W ?_
 refine sA ?_
 intro w2 hG f2
 refine W ?_
 refine sT ?_
 intro w3 hG f3
 have f:=f1.none (bA f2 (Nat.le_refl _) f3)
 have hg:¬bX p M w1.heap.size:=fun hx=>absurd (h.lt _ hx) (by have:=f1.size;omega)
 have hlt:=h.lt
 replace h:=h.none f
 generalize w1.heap.size=g at*
 clear f1 f2 f3
 refine W ?_
 obtain⟨b,hb⟩:∃b,b=decide (k≠0∨(x.«to»≠s.c.card∧x.«to»≠Bp)):=⟨_,rfl⟩
 refine cM [0,4] [(37,.bool b)] (fun w'=>aA w' p T M s∧Bk w' g 118 (xY x)∧Fr noB w w') ?_ ?_
 ·have hE:=kI x.«to» s.c.card
  have hE2:=kI x.«to» Bp
  have hGd:=eP
  rw[show wT Bp= #[.int .u8 255,.int .u8 255,.int .u8 255,.int .u8 255,.int .u8 255,.int .u8 255]from rfl]at hE2
  unfold wT at hE hE2
  obtain⟨c1,hc1⟩:∃c,c=decide (x.«to»≠s.c.card):=⟨_,rfl⟩
  obtain⟨c2,hc2⟩:∃c,c=decide (x.«to»≠Bp):=⟨_,rfl⟩
  replace hb:b=decide (k≠0∨(c1=true∧c2=true)):=by rw[hb,hc1,hc2];simp only[decide_eq_true_eq]
  rw[←hc1]at hE
  rw[←hc2]at hE2
  clear hc1 hc2 hr hin cA cD
  refine dI (An h (An hG f)) [] (up 18 0) (h:= ?_)
  clear h hG f
  intro w5 h5 _
  by_cases a1:k=0
  cases c1
  rotate_left
  ·refine D ?_
   refine dQ (v:= .agg #[.int .u8 255,.int .u8 255,.int .u8 255,.int .u8 255,.int .u8 255,.int .u8 255]) ?_ ?_
   ·intro w' hS
    have o0:=hS.1.all.2 0 _ rfl;have o1:=hS.1.all.2 1 _ rfl;have o2:=hS.1.all.2 2 _ rfl;have o3:=hS.1.all.2 3 _ rfl;have o4:=hS.1.all.2 4 _ rfl;have o5:=hS.1.all.2 5 _ rfl
    go_simp
   cases c2<;>refine D ?_<;>refine tN ?_<;>exact mt h5
  all_goals
   refine D ?_
   refine tN ?_
   exact mt h5
 clear h hG f
 rintro u w3 ⟨h,hG,f⟩
 cases b
 rotate_left
 ·rw[if_pos (of_decide_eq_true hb.symm)]at hr
  clear hb
  refine W ?_
  exact⟨rfl,by rw[hr];exact .of h (f.of_no _)⟩
 rw[if_neg (of_decide_eq_false hb.symm)]at hr
 clear hb
 by_cases a1:x.ty=2054
 ·rw[if_pos a1]at hr
  unfold St.arpP at hr
  have hin2:=pY x.by'
  refine W ?_
  refine sC (Av x.by' w3 (by omega)) ?_
  intro w4 f4
  generalize bJ x.by'=q at*
  obtain⟨y,k⟩:=q
  dsimp only at hin2 hr⊢
  have hG4:=hG.keep f4 id
  refine W ?_
  refine sA ?_
  intro w5 hY f5
  refine W ?_
  refine sT ?_
  intro w6 hY f6
  have f6:=bA f5 (Nat.le_refl _) f6
  replace h:=(h.none f4).none f6
  replace hG:=hG4.keep f6 id
  replace f:=(f.none f4).none f6
  generalize w4.heap.size=gy at*
  clear f4 f5 f6 hG4
  by_cases a2:k=0
  rotate_left
  ·rw[if_neg a2]at hr
   refine W ?_
   exact⟨rfl,by rw[hr];exact .of h (f.of_no _)⟩
  rw[if_pos a2]at hr
  refine W ?_
  refine sC (cA y w6 h hin2.1 hin2.2.1 hin2.2.2) ?_
  intro w7 h7
  obtain⟨M1,o1,b1,f1⟩:=h7
  have hG7:=hG.keep f1 hg
  refine W ?_
  exact⟨rfl,by rw[hr];exact .pre f ⟨M1,o1,b1,f1⟩⟩
 rw[if_neg a1]at hr
 by_cases a2:x.ty=2048
 rotate_left
 ·rw[if_neg a2]at hr
  refine W ?_
  exact⟨rfl,by rw[hr];exact .of h (f.of_no _)⟩
 rw[if_pos a2]at hr
 unfold St.dgramP at hr
 clear cA
 have hin2:=uP x.by'
 refine W ?_
 refine sC (Cb x.by' w3 (by omega)) ?_
 intro w4 f4
 generalize aV x.by'=q at*
 obtain⟨y,k⟩:=q
 dsimp only at hin2 hr⊢
 have hbl:=hin.2.2
 clear a1 a2 hin hG
 refine W ?_
 refine sA ?_
 intro w5 hY f5
 refine W ?_
 refine sT ?_
 intro w6 hY f6
 have f6:=bA f5 (Nat.le_refl _) f6
 replace h:=(h.none f4).none f6
 replace f:=(f.none f4).none f6
 generalize w4.heap.size=gy at*
 clear f4 f5 f6
 by_cases hx:k≠0∨y.pr≠17
 ·rw[if_pos hx]at hr
  by_cases a1:k=0
  ·have a2:¬y.pr=17:=by omega
   clear hx
   refine W ?_
   exact⟨rfl,by rw[hr];exact .of h (f.of_no _)⟩
  ·clear hx
   refine W ?_
   exact⟨rfl,by rw[hr];exact .of h (f.of_no _)⟩
 rw[if_neg hx]at hr
 obtain⟨rfl,a2⟩:k=0∧y.pr=17:=by omega
 clear hx
 refine W ?_
 refine sC (Bj y.by' y.fm y.«to» w6 hin2.1 hin2.2.1 (by omega)) ?_
 intro w7 f7
 have hin3:=qR y.by' y.fm y.«to»
 generalize bB y.by' y.fm y.«to»=q at*
 obtain⟨z,k⟩:=q
 dsimp only at hin3 hr⊢
 replace hY:=hY.keep f7 id
 refine W ?_
 refine sA ?_
 intro w8 hU f8
 refine W ?_
 refine sT ?_
 intro w9 hU f9
 have f9:=bA f8 (Nat.le_refl _) f9
 replace h:=(h.none f7).none f9
 replace f:=(f.none f7).none f9
 replace hY:=hY.keep f9 id
 generalize w7.heap.size=gu at*
 clear f7 f8 f9
 by_cases a3:k=0
 rotate_left
 ·rw[if_pos a3]at hr
  refine W ?_
  exact⟨rfl,by rw[hr];exact .of h (f.of_no _)⟩
 subst a3
 rw[if_neg (fun e=>e rfl)]at hr
 by_cases a4:z.tp=68
 rotate_left
 ·rw[if_neg a4,if_neg (fun e=>by have:=e.1;rw[hb0]at this;cases this)]at hr
  have hp1:¬s.phase=1:=by intro e;unfold St.busy at hb0;rw[e]at hb0;cases hb0
  have hp2:¬s.phase=2:=by intro e;unfold St.busy at hb0;rw[e]at hb0;cases hb0
  clear hb0 cD
  refine W ?_
  refine dI (An h f) [] (up 32 0) (h:= ?_)
  intro w10 h10 _
  refine D ?_
  refine W ?_
  exact⟨rfl,by rw[hr];exact .of h10.1 (h10.2.of_no _)⟩
 rw[if_pos a4]at hr
 unfold St.leasedP at hr
 have hin4:=oS z.ld
 clear hY
 refine W ?_
 refine sX (xV z.ld w9 (by omega)) ?_
 rintro e w10 ⟨⟨A,cap,rfl,hS⟩,f10⟩
 refine⟨_,rfl,?_⟩
 generalize aT z.ld=q at*
 obtain⟨d,k⟩:=q
 unfold pK
 dsimp only at hin4 hr hS⊢
 refine W ?_
 refine sA ?_
 intro w11 hD f11
 refine W ?_
 refine sT ?_
 intro w12 hD f12
 have f12:=bA f11 (Nat.le_refl _) f12
 have hO:FW w12 p M d A d.os.length:=⟨rfl,(hS.sub (T:=bX p M) (fun b _ hb=>by have:=hlt b hb;have:=f.size;omega)).keep (f12.of_no _),by omega,hin4.1,hin4.2.1⟩
 replace f:=(f.none f10).none f12
 replace h:=(h.none f10).none f12
 generalize w10.heap.size=gd at*
 obtain⟨n,hn⟩:∃n,d.os.length=n:=⟨_,rfl⟩
 rw[hn]at hO hD⊢
 clear f10 f11 f12 hS hlt hU
 refine W ?_
 obtain⟨b,hb⟩:∃b,b=decide (k=0∧d.reply=true∧d.xid=s.xid∧d.mac=s.c.card):=⟨_,rfl⟩
 refine cM [0,10] [(113,.bool b)] (fun w'=>aA w' p T M s∧Bk w' gd 139 (Ar d A n cap)∧FW w' p M d A n∧Fr noB w w') ?_ ?_
 ·have hE:=tI d.mac s.c.card
  have hGd:=eP
  unfold wT at hE
  obtain⟨c,hc⟩:∃c,c=decide (d.mac=s.c.card):=⟨_,rfl⟩
  replace hb:b=decide (k=0∧d.reply=true∧d.xid=s.xid∧c=true):=by rw[hb,hc];simp
  rw[←hc]at hE
  clear hc hr hin3 hin4 cD
  replace hD:Bk w12 gd 139 (Ar d A n cap):=hD
  refine dI (An h (An hD (An hO f))) [] (up 25 0) (h:= ?_)
  clear h hD f hO
  intro w5 h5 _
  by_cases a1:k=0
  cases a2:d.reply
  rotate_left
  by_cases a3:d.xid=s.xid
  cases c
  all_goals
   refine D ?_
   refine tN ?_
   exact mt h5
 clear h hD f hO
 rintro u w13 ⟨h,hD,hO,f⟩
 cases b
 ·rw[if_neg (of_decide_eq_false hb.symm)]at hr
  clear hb
  refine W ?_
  exact⟨rfl,by rw[hr];exact .of h (f.of_no _)⟩
 rw[if_pos (of_decide_eq_true hb.symm)]at hr
 clear hb
 refine W ?_
 refine sC (cD d A cap n w13 h hO) ?_
 intro w14 h14
 refine W ?_
 exact⟨rfl,by rw[hr];exact .pre f h14⟩
end Go.Proofs.YtcllkmllflheiaaGreatDoor
namespace Go.Proofs.YtcllkmllflheiaaGreatDoor
open Go.RowKit Go.Proofs
attribute [local simp] lF ibq ibn eqN ltN leN eqL ltL gtL leL geL
theorem Bz {w:World} {g:Nat} {x y:List UInt8} (hb:Bk w g 157 #[.int .u8 50,.string (bs x),.int .u8 54,.string (bs y)]):jZ w (some ⟨g,0,none⟩) [⟨50,x⟩,⟨54,y⟩]:=by
 intro k o ho
 refine⟨_,rfl,?_,?_⟩
 ·match k,ho with
  |0,ho=>cases ho;exact hb.cell 0
  |1,ho=>cases ho;exact hb.cell 2
 ·match k,ho with
  |0,ho=>cases ho;exact hb.cell 1
  |1,ho=>cases ho;exact hb.cell 3
end Go.Proofs.YtcllkmllflheiaaGreatDoor
namespace Go.Proofs.YtcllkmllflheiaaGreatDoor
open Go.RowKit Go.Proofs
attribute [local simp] lF oX ibq ibn eqN ltN leN eqL ltL gtL leL geL
attribute [-go_sem] run_eql_struct run_neq_struct run_equalIn_agg in
theorem Cj (p T:Nat) (M:bQ) (s:St) (x:Ae) (w:World) (h:aA w p T M s) (hlow:s.lease≤3) (hc:s.cache=[]):Calls Tryz.prog 73 #[.pointer (some ⟨p,0,none⟩),.agg (oX x)] w fun e w'=>e= .returned (.tuple #[])∧bE p T M w (if s.lease=3∧x.fi=s.addr∧x.fm≠s.c.card then s.decline else s) w':=by
 obtain⟨r,hr⟩:∃r,r=if s.lease=3∧x.fi=s.addr∧x.fm≠s.c.card then s.decline else s:=⟨_,rfl⟩
 rw[←hr]
 have ha:s.address=0:=if_neg (by omega)
 have Hc:=Lib.hid (And.intro hc ha)
 clear hlow hc ha
 refine en Tryz.func73 Tryz.ntmps73 ?_
 refine W ?_
 refine sA ?_
 intro w1 hG f
 replace hG:Bk w1 w.heap.size 125 (oX x):=hG
 replace h:=h.none f
 generalize w.heap.size=g at*
 refine W ?_
 obtain⟨b,hb⟩:∃b,b=decide (s.lease=3∧x.fi=s.addr∧x.fm≠s.c.card):=⟨_,rfl⟩
 refine cM [0,3] [(33,.bool b)] (fun w'=>aA w' p T M s∧Bk w' g 125 (oX x)∧Fr noB w w') ?_ ?_
 ·have hE:=kI x.fm s.c.card
  have hGd:=eP
  unfold wT at hE
  obtain⟨c,hc⟩:∃c,c=decide (x.fm≠s.c.card):=⟨_,rfl⟩
  replace hb:b=decide (s.lease=3∧x.fi=s.addr∧c=true):=by rw[hb,hc];simp only[decide_eq_true_eq]
  rw[←hc]at hE
  clear hc hr
  refine dI (An h (An hG f)) [] (up 24 0) (h:= ?_)
  clear h hG f
  intro w5 h5 _
  cases c<;>by_cases a1:s.lease=3<;>by_cases a2:x.fi=s.addr<;>refine D ?_<;>refine tN ?_<;>exact mt h5
 clear h hG f
 rintro u w2 ⟨h,hG,f⟩
 cases b
 rotate_left
 ·rw[if_pos (of_decide_eq_true hb.symm)]at hr
  clear hb hG Hc
  have oa:=h.ok.addr
  have os_:=h.ok.server
  refine W ?_
  refine dI (An h f) [14] [0,1,2,3,7,8,9,4,10,5,6,11,12,13,14] (h:= ?_)
  intro w3 h3 _
  refine D ?_
  refine dQc (lI s.addr w3 (by omega)) h3 ?_
  intro w4 f4 h4
  refine D ?_
  refine dQc (lI s.server w4 (by omega)) h4 ?_
  intro w5 f5 h5
  refine D ?_
  refine dA2 (by infer_instance) h5 ?_
  intro w6 h6 hG f6
  refine D ?_
  refine dD (yC p T M s 4 s.both _ 2 w6 h6.1 (Bz hG) (rU _)) ?_
  intro w7 h7
  obtain⟨M7,h7,fin⟩:=(bE.pre h6.2 h7).fin
  refine D ?_
  refine W ?_
  refine sC (xL p T M7 _ w7 h7) ?_
  intro w8 h8
  refine W ?_
  exact⟨rfl,by rw[hr];exact fin _ _ h8⟩
 rw[if_neg (of_decide_eq_false hb.symm)]at hr
 clear hb
 subst hr
 refine W ?_
 refine cM [0,3] [(4,.bool false)] (fun w'=>aA w' p T M r∧Bk w' g 125 (oX x)∧Fr noB w w') ?_ ?_
 ·refine dI (An h (An hG f)) [] ([0,1,2,3,4,6,5]++up 9 7) (h:= ?_)
  clear h hG f
  intro w5 h5 _
  refine D ?_
  refine dQe ((fR p T M r w5 h5.1).mono fun e w' x=>⟨x.1,x.2.symm⟩) h5 ?_
  rw[Hc.out.2]
  refine D ?_
  refine tN ?_
  exact mt h5
 clear h hG f
 rintro u w3 ⟨h,hG,f⟩
 refine W ?_
 by_cases a1:x.fi=0
 ·refine dI (An h (An hG f)) [] ([0,1,2,3,4,6,5]++up 3 7) (h:= ?_)
  intro w4 h4 _
  refine D ?_
  refine W ?_
  exact⟨rfl,.of h4.1 (h4.2.2.of_no _)⟩
 refine dI (An h (An hG f)) [] ([0,1,2,3,4,6,5]++up 3 7) (h:= ?_)
 clear h hG f
 intro w4 h4 _
 refine D ?_
 refine dQe ((fR p T M r w4 h4.1).mono fun e w' x=>⟨x.1,x.2.symm⟩) h4 ?_
 rw[Hc.out.2]
 obtain⟨h,hG,f⟩:=h4
 refine D ?_
 refine W ?_
 refine sX (Ff p T M r x.fi w4 h) ?_
 rintro e w5 ⟨z,rfl,hF,f5⟩
 refine⟨_,rfl,?_⟩
 obtain rfl:z= -1:=by
  rcases hF with⟨rfl,_⟩|⟨k,e,_,hk,_⟩
  ·rfl
  ·rw[Hc.out.1]at hk;cases hk
 replace h:=h.none f5
 replace hG:=hG.keep f5 id
 replace f:=f.none f5
 clear hF f5
 refine W ?_
 refine dI (An h (An hG f)) [11] [0,2,4,5,6,1,3,7,8,9,10,11] (h:= ?_)
 clear h hG f
 intro w6 h6 _
 refine D ?_
 refine dA2 (by infer_instance) h6 ?_
 rintro w7 ⟨h,hG,f⟩ hE f7
 refine D ?_
 refine dZ ?_
 intro w8 hE f8
 replace f8:=bA f7 (Nat.le_refl _) f8
 refine D ?_
 refine W ?_
 exact⟨rfl,.of (h6.1.none f8) ((h6.2.2.none f8).of_no _)⟩
end Go.Proofs.YtcllkmllflheiaaGreatDoor
namespace Go.Proofs.YtcllkmllflheiaaGreatDoor
open Go.RowKit Go.Proofs
attribute [local simp] lF Ar ibq ibn eqN ltN leN eqL ltL gtL leL geL
attribute [local go_sem] aG aD aE aF
theorem B8 (os:List aX):(St.routerOf os).getD 0<4294967296:=by
 unfold St.routerOf
 split
 ·next d hd=>
  split
  ·next hl=>have h:=uN (d.take 4);rw[List.length_take]at h;rw[show min 4 d.length=4 by omega]at h;exact h
  ·decide
 ·decide
theorem nG (os:List aX) (c:UInt8) (z:Nat) (hz:z<4294967296):(St.number os c).getD z<4294967296:=by
 cases h:St.number os c with
 |none=>exact hz
 |some x=>exact wX h
theorem D6 (p T:Nat) (M:bQ) (s:St) (d:kF) (A:Option Addr) (cap n:Nat) (fm:Nat) (w:World) (h:aA w p T M s) (hO:FW w p M d A n) (hfm:fm<4294967296):Calls Tryz.prog 122 #[.pointer (some ⟨p,0,none⟩),.agg (Ar d A n cap),.int .u32 (fm:Int)] w fun e w'=>e= .returned (.tuple #[])∧bE p T M w (s.granted d fm) w':=by
 obtain⟨hn,hA,hwt,hy,hnx⟩:=hO
 obtain⟨r,hr⟩:∃r,r=s.granted d fm:=⟨_,rfl⟩
 rw[←hr]
 unfold St.granted at hr
 have Hgn:=Lib.hid (show ¬bX p M w.heap.size from fun hx=>Nat.lt_irrefl _ (h.lt _ hx))
 have nb:=fun(w':World) (f':Fr (bX p M) w w') (c:UInt8)=>BQ d A cap n c w' hn ((hA.keep f').sub (T:=noB) (fun _ _ x=>x.elim)) hwt
 have Nb:=Lib.hid nb
 refine en Tryz.func122 Tryz.ntmps122 ?_
 clear nb
 refine W ?_
 refine sA ?_
 intro w1 hG f1
 replace hG:Bk w1 w.heap.size 139 (Ar d A n cap):=hG
 replace h:=h.none f1
 replace Nb:=fun(w':World) (f':Fr (bX p M) w1 w') (c:UInt8)=>Nb.out w' ((f1.of_no _).trans f') c
 replace hA:=hA.keep (f1.of_no _)
 have Fin:∀w' s',Fr (bX p M) w1 w'→aA w' p T M s'→bE p T M w s' w':=fun w' s' f' h'=> .of h' ((f1.of_no _).trans f')
 have Fin2:∀w' w2 s',Fr (bX p M) w1 w2→bE p T M w2 s' w'→bE p T M w s' w':=fun w' w2 s' f' h'=> .comp (fun _=> .inl) ((f1.of_no _).trans f') h'
 replace Nb:=Lib.hid Nb
 replace Fin:=Lib.hid (And.intro Fin Fin2)
 clear Fin2
 generalize w.heap.size=g at hG Hgn⊢
 refine W ?_
 refine sC (Nb.out w1 (Fr.refl _ _) 51) ?_
 intro w2 f
 replace h:=h.none f
 have hG2:=hG.keep f id
 clear f1
 obtain⟨tm,htm⟩:∃tm,tm=(St.number d.os 51).getD 0:=⟨_,rfl⟩
 obtain⟨k,hk⟩:∃k,k=(St.number d.os 51).isSome:=⟨_,rfl⟩
 have htl:tm<4294967296:=by rw[htm];exact nG _ _ _ (by decide)
 obtain⟨b,hb⟩:∃b,b=decide (s.lease=2∨s.lease=5∨s.lease=6):=⟨_,rfl⟩
 obtain⟨c,hc⟩:∃c,c=decide (b=false∨k=false∨tm=0∨d.yours≠s.addr):=⟨_,rfl⟩
 replace hr:r=if c=true then s else
  let t:=({s with server:=fm,mask:=(St.number d.os 1).getD 4294967295,router:=(St.routerOf d.os).getD 0,source:=if d.next≠0 then d.next else fm}:St).times d tm
  if s.lease=2 then({t with lease:=3,lagain:=wrap64 (s.now+2)}:St).ask 0 s.addr else {t with lease:=4}:=by
  rw[hr,hc,hk,htm,hb]
  cases h5:St.number d.os 51 with
  |none=>simp
  |some x=>
   simp only[Option.getD_some,Option.isSome_some,decide_eq_true_eq,decide_eq_false_iff_not,Bool.true_eq_false,reduceCtorEq,false_or]
 rw[←htm,←hk]
 clear hk htm hy
 refine V ?_
 refine cS ?_
 refine cM [0,2,4,6,7] [(8,.bool b)] (fun w'=>w2=w') ?_ ?_
 ·clear hr hc
  by_cases a1:s.lease=2
  rotate_left
  by_cases a2:s.lease=5
  rotate_left
  by_cases a3:s.lease=6
  all_goals
   refine W ?_
   exact mt rfl
 rintro u _ rfl
 refine cS ?_
 refine cS ?_
 refine cM [0,2,4,6] [(59,.bool c)] (fun w'=>aA w' p T M s∧Bk w' g 139 (Ar d A n cap)∧Fr noB w1 w') ?_ ?_
 ·clear hr hb
  refine dI (An h (An hG2 f)) [] (up 19 0) (h:= ?_)
  clear h hG2 f
  intro w3 h3 _
  cases b
  rotate_left
  cases k
  rotate_left
  by_cases a1:tm=0
  rotate_left
  by_cases a2:d.yours=s.addr
  all_goals
   refine D ?_
   refine tN ?_
   exact mt h3
 clear h hG2 f
 rintro u w3 ⟨h,hG3,f⟩
 clear hb hc
 cases c
 rotate_left
 ·rw[if_pos rfl]at hr
  refine W ?_
  exact⟨rfl,by rw[hr];exact Fin.out.1 _ _ (f.of_no _) h⟩
 rw[if_neg (by decide)]at hr
 dsimp only at hr
 refine W ?_
 refine sMo {s with server:=fm} {h.ok with server:=hfm} h ?_
 intro w4 h4 f4
 refine W ?_
 refine sMo {s with server:=fm,source:=fm} {h4.ok with source:=hfm} h4 ?_
 intro w5 h5 f5
 replace f:=((f.of_no (bX p M)).trans f4).trans f5
 have hG5:=hG.keep f Hgn.out
 obtain⟨src,hsrc⟩:∃x,x=if d.next≠0 then d.next else fm:=⟨_,rfl⟩
 rw[←hsrc]at hr
 have hsl:src<4294967296:=by rw[hsrc];split<;>assumption
 have Hr:=Lib.hid hr
 clear h h4 hG3 f4 f5 hr
 refine V ?_
 refine cS ?_
 refine cM [0,4,6] [] (fun w'=>aA w' p T M {s with server:=fm,source:=src}∧Fr (bX p M) w1 w') ?_ ?_
 ·by_cases a1:d.next=0
  ·have e:src=fm:=by rw[hsrc,if_neg (by simpa using a1)]
   clear hsrc
   refine W ?_
   exact mt ⟨by rw[e];exact h5,f⟩
  ·have e:src=d.next:=by rw[hsrc,if_pos a1]
   clear hsrc
   refine W ?_
   refine sMo {s with server:=fm,source:=d.next} {h5.ok with source:=hnx} h5 ?_
   intro w6 h6 f6
   refine W ?_
   exact mt ⟨by rw[e];exact h6,f.trans f6⟩
 clear h5 hG5 f hsrc hnx
 rintro u w5 ⟨h,f⟩
 refine W ?_
 refine sMo {s with server:=fm,mask:=4294967295,source:=src} {h.ok with mask:=by show 4294967295<4294967296;decide} h ?_
 intro w6 h6 f6
 replace f:=f.trans f6
 have hG6:=hG.keep f Hgn.out
 clear h f6
 refine W ?_
 refine sC (Nb.out w6 f 1) ?_
 intro w7 f7
 replace h6:=h6.none f7
 replace f:=f.none f7
 clear hG6 f7
 have hml:=nG d.os 1 4294967295 (by decide)
 refine V ?_
 refine cM [0,4,6] [] (fun w'=>aA w' p T M {s with server:=fm,mask:=(St.number d.os 1).getD 4294967295,source:=src}∧Fr (bX p M) w1 w') ?_ ?_
 ·cases e1:St.number d.os 1 with
  |none=>
   refine W ?_
   exact mt ⟨h6,f⟩
  |some x=>
   have hx:=wX e1
   have qx:IntKind.u32.wrap (x:Int)=(x:Int):=by rw[IntKind.wrap_u32];omega
   refine W ?_
   refine sMo {s with server:=fm,mask:=x,source:=src} {h6.ok with mask:=hx} h6 ?_
   intro w8 h8 f8
   refine W ?_
   exact mt ⟨h8,f.trans f8⟩
 clear h6 f
 rintro u w6 ⟨h,f⟩
 refine W ?_
 refine sMo {s with server:=fm,mask:=(St.number d.os 1).getD 4294967295,router:=0,source:=src} {h.ok with router:=by show 0<4294967296;decide} h ?_
 intro w7 h7 f7
 replace f:=f.trans f7
 have hG7:=hG.keep f Hgn.out
 clear h f7
 refine W ?_
 refine sC (jJ (bX p M) A n cap d.os 3 w7 (hA.keep f) (by have:=dO d.os;omega)) ?_
 intro w8 f8
 replace h7:=h7.none f8
 replace f:=f.none f8
 clear hG7 f8
 have hrl:=B8 d.os
 refine V ?_
 refine cM [0,4,6] [] (fun w'=>aA w' p T M {s with server:=fm,mask:=(St.number d.os 1).getD 4294967295,router:=(St.routerOf d.os).getD 0,source:=src}∧Fr (bX p M) w1 w') ?_ ?_
 ·unfold St.routerOf at hrl⊢
  cases e1:bF d.os 3 with
  |none=>
   refine W ?_
   exact mt ⟨h7,f⟩
  |some x=>
   rw[e1]at hrl
   dsimp only at hrl⊢
   by_cases e2:4≤x.length
   ·rw[if_pos e2]at hrl⊢
    refine W ?_
    refine sCe (iZ (sub x 0 4) w8 (by rw[bSz];omega)) ?_
    have e3:sub x 0 4=x.take 4:=by unfold sub;simp
    have hrl:num (sub x 0 4)<4294967296:=by rw[e3];exact hrl
    refine W ?_
    refine sMo {s with server:=fm,mask:=(St.number d.os 1).getD 4294967295,router:=num (sub x 0 4),source:=src} {h7.ok with router:=hrl} h7 ?_
    intro w9 h9 f9
    refine W ?_
    exact mt ⟨by rw[←e3];exact h9,f.trans f9⟩
   ·rw[if_neg e2]
    refine W ?_
    exact mt ⟨h7,f⟩
 clear h7 f hrl
 rintro u w7 ⟨h,f⟩
 obtain⟨t,ht⟩:∃t:St,t={s with server:=fm,mask:=(St.number d.os 1).getD 4294967295,router:=(St.routerOf d.os).getD 0,source:=src}:=⟨_,rfl⟩
 have hr:=Hr.out
 replace hr:r=if t.lease=2 then({t.times d tm with lease:=3,lagain:=wrap64 (t.now+2)}:St).ask 0 t.addr else {t.times d tm with lease:=4}:=by rw[hr,ht]
 rw[←ht]at h
 have htl2:(t.times d tm).lease=t.lease∧(t.times d tm).now=t.now∧(t.times d tm).addr=t.addr:=by unfold St.times;split<;>exact⟨rfl,rfl,rfl⟩
 replace Hr:=Lib.hid (And.intro hr htl2)
 clear ht hr htl2
 refine W ?_
 refine sMo {t with t1:=0} {h.ok with} h ?_
 intro w8 h8 f8
 refine W ?_
 refine sMo {t with t1:=0,t2:=0} {h8.ok with} h8 ?_
 intro w9 h9 f9
 refine W ?_
 refine sMo {t with t1:=0,t2:=0,untl:=0} {h9.ok with} h9 ?_
 intro w10 h10 f10
 replace f:=((f.trans f8).trans f9).trans f10
 have hG10:=hG.keep f Hgn.out
 clear h h8 h9 f8 f9 f10
 refine V ?_
 refine cS ?_
 refine cM [0] [] (fun w'=>aA w' p T M (t.times d tm)∧Fr (bX p M) w1 w') ?_ ?_
 ·clear Hr
  obtain⟨r,hr⟩:∃r,r=t.times d tm:=⟨_,rfl⟩
  rw[←hr]
  unfold St.times at hr
  by_cases a1:tm=4294967295
  ·rw[if_pos a1]at hr
   refine W ?_
   exact mt ⟨by rw[hr];exact h10,f⟩
  rw[if_neg a1]at hr
  have HR:=Lib.hid hr
  have HO:=Lib.hid (And.intro (nG d.os 58 0 (by decide)) (nG d.os 59 0 (by decide)))
  clear hr
  obtain⟨u1,hu1⟩:∃u1,u1=tm/2:=⟨_,rfl⟩
  obtain⟨u8,hu8⟩:∃u8,u8=tm/8:=⟨_,rfl⟩
  obtain⟨u2,hu2⟩:∃u2,u2=u8*7:=⟨_,rfl⟩
  have qa:Int.tdiv (tm:Int) 2=(u1:Int):=by rw[Int.tdiv_eq_ediv_of_nonneg (by omega)];omega
  have qb:Int.tdiv (tm:Int) 8=(u8:Int):=by rw[Int.tdiv_eq_ediv_of_nonneg (by omega)];omega
  have qc:IntKind.i64.wrap ((u8:Int)*7)=(u2:Int):=by rw[IntWalk.i64_in _ (by omega)];omega
  have qa2:IntKind.i64.wrap (u1:Int)=(u1:Int):=IntWalk.i64_in _ (by omega)
  have qb2:IntKind.i64.wrap (u8:Int)=(u8:Int):=IntWalk.i64_in _ (by omega)
  have Hu:=Lib.hid (And.intro hu1 (And.intro hu8 hu2))
  clear hu1 hu8 hu2
  refine W ?_
  rw[iQ]
  refine sMo {t with t1:=wrap64 (t.now+(u1:Int)),t2:=0,untl:=0} {h10.ok with} h10 ?_
  intro w11 h11 f11
  refine W ?_
  rw[iQ]
  refine sMo {t with t1:=wrap64 (t.now+(u1:Int)),t2:=wrap64 (t.now+(u2:Int)),untl:=0} {h11.ok with} h11 ?_
  intro w12 h12 f12
  clear qa qb qc qa2 qb2
  replace f:=(f.trans f11).trans f12
  have hG12:=hG.keep f Hgn.out
  clear hG10 h10 h11 f11 f12
  refine W ?_
  refine sC (Nb.out w12 f 58) ?_
  intro w13 f13
  replace hG12:=hG12.keep f13 id
  refine W ?_
  refine sC (Nb.out w13 (f.none f13) 59) ?_
  intro w14 f14
  replace h12:=h12.none (f13.trans f14)
  replace f:=f.none (f13.trans f14)
  clear hG12 f13 f14
  obtain⟨p1,p2,b,hb,hp1,hp2⟩:∃p1 p2 b,b=decide (((St.number d.os 58).isSome=true∧(St.number d.os 59).isSome=true)∧(St.number d.os 58).getD 0<(St.number d.os 59).getD 0∧(St.number d.os 59).getD 0<tm)∧p1=(if b=true then(St.number d.os 58).getD 0 else u1)∧p2=(if b=true then(St.number d.os 59).getD 0 else u2):=⟨_,_,_,rfl,rfl,rfl⟩
  have hr:r={t with t1:=wrap64 (t.now+(p1:Int)),t2:=wrap64 (t.now+(p2:Int)),untl:=wrap64 (t.now+(tm:Int))}:=by
   rw[HR.out,hp1,hp2,hb,Hu.out.1,Hu.out.2.2,Hu.out.2.1]
   cases St.number d.os 58<;>cases St.number d.os 59<;>simp
   split<;>exact⟨rfl,rfl⟩
  have hx:=HO.out.1
  have hy:=HO.out.2
  clear HR HO Hu
  generalize(St.number d.os 58).getD 0=x at*
  generalize(St.number d.os 59).getD 0=y at*
  generalize(St.number d.os 58).isSome=k1 at*
  generalize(St.number d.os 59).isSome=k2 at*
  have Hr:=Lib.hid hr
  clear hr
  refine V ?_
  refine cS ?_
  refine cM [0,6] [] (fun w'=>aA w' p T M {t with t1:=wrap64 (t.now+(p1:Int)),t2:=wrap64 (t.now+(p2:Int)),untl:=0}∧Fr (bX p M) w1 w') ?_ ?_
  ·cases k1
   rotate_left
   cases k2
   rotate_left
   by_cases a1:x<y
   by_cases a2:y<tm
   ·have e1:p1=x:=by rw[hp1,if_pos (by rw[hb];simp[a1,a2])]
    have e2:p2=y:=by rw[hp2,if_pos (by rw[hb];simp[a1,a2])]
    clear hb hp1 hp2 Hr
    refine W ?_
    rw[iQ]
    refine sMo {t with t1:=wrap64 (t.now+(x:Int)),t2:=wrap64 (t.now+(u2:Int)),untl:=0} {h12.ok with} h12 ?_
    intro w15 h15 f15
    refine W ?_
    rw[iQ]
    refine sMo {t with t1:=wrap64 (t.now+(x:Int)),t2:=wrap64 (t.now+(y:Int)),untl:=0} {h15.ok with} h15 ?_
    intro w16 h16 f16
    refine W ?_
    rw[e1,e2]
    exact mt ⟨h16,(f.trans f15).trans f16⟩
   all_goals
    have hbf:¬b=true:=by rw[hb];simp[*]
    have e1:p1=u1:=by rw[hp1,if_neg hbf]
    have e2:p2=u2:=by rw[hp2,if_neg hbf]
    clear hb hp1 hp2 hbf Hr
    refine W ?_
    rw[e1,e2]
    exact mt ⟨h12,f⟩
  clear h12 f hb hp1 hp2
  rintro u w15 ⟨h,f⟩
  refine W ?_
  rw[iQ]
  refine sMo {t with t1:=wrap64 (t.now+(p1:Int)),t2:=wrap64 (t.now+(p2:Int)),untl:=wrap64 (t.now+(tm:Int))} {h.ok with} h ?_
  intro w16 h16 f16
  refine W ?_
  exact mt ⟨by rw[Hr.out];exact h16,f.trans f16⟩
 clear h10 hG10 f
 rintro u w10 ⟨h,f⟩
 obtain⟨hr,e1,e2,e3⟩:=Hr.out
 rw[←e1,←e2,←e3]at hr
 clear Hr e1 e2 e3
 generalize t.times d tm=z at*
 by_cases a1:z.lease=2
 ·rw[if_pos a1]at hr
  refine W ?_
  refine sMo {z with lease:=3} {h.ok with} h ?_
  intro w11 h11 f11
  clear a1
  refine W ?_
  rw[iQ]
  refine sMo {z with lease:=3,lagain:=wrap64 (z.now+2)} {h11.ok with} h11 ?_
  intro w12 h12 f12
  have had:=h12.ok.addr
  refine W ?_
  refine sC (GQ p T M _ 0 z.addr w12 h12 (by decide) had) ?_
  intro w13 h13
  refine W ?_
  exact⟨rfl,by rw[hr];exact Fin.out.2 _ _ _ ((f.trans f11).trans f12) h13⟩
 ·rw[if_neg a1]at hr
  refine W ?_
  refine sMo {z with lease:=4} {h.ok with} h ?_
  intro w11 h11 f11
  refine W ?_
  exact⟨rfl,by rw[hr];exact Fin.out.1 _ _ (f.trans f11) h11⟩
end Go.Proofs.YtcllkmllflheiaaGreatDoor
namespace Go.Proofs.YtcllkmllflheiaaGreatDoor
open Go.RowKit Go.Proofs
attribute [local simp] lF Ar ibq ibn eqN ltN leN eqL ltL gtL leL geL
attribute [local go_sem] aG aD aE aF
theorem FQ (s:St) (d:kF) (h:¬(((bF d.os 53).getD []).length=1∧(St.number d.os 54).isSome=true)):s.leased d=s:=by
 unfold St.leased
 split
 ·next k fm h1 h2=>exact absurd ⟨by rw[h1];rfl,by rw[h2];rfl⟩ h
 ·rfl
theorem DA (p T:Nat) (M:bQ) (s:St) (d:kF) (A:Option Addr) (cap n:Nat) (w:World) (h:aA w p T M s) (hO:FW w p M d A n):Calls Tryz.prog 77 #[.pointer (some ⟨p,0,none⟩),.agg (Ar d A n cap)] w fun e w'=>e= .returned (.tuple #[])∧bE p T M w (s.leased d) w':=by
 obtain⟨r,hr⟩:∃r,r=s.leased d:=⟨_,rfl⟩
 rw[←hr]
 have hO1:=hO
 obtain⟨hn,hA,hwt,hy,hnx⟩:=hO1
 have Hgn:=Lib.hid (show ¬bX p M w.heap.size from fun hx=>Nat.lt_irrefl _ (h.lt _ hx))
 refine en Tryz.func77 Tryz.ntmps77 ?_
 refine W ?_
 refine sA ?_
 intro w1 hG f1
 replace hG:Bk w1 w.heap.size 139 (Ar d A n cap):=hG
 generalize w.heap.size=g at hG Hgn⊢
 refine W ?_
 refine sC (jJ (bX p M) A n cap d.os 53 w1 (hA.keep (f1.of_no _)) (by have:=dO d.os;omega)) ?_
 intro w2 f2
 replace hG:=hG.keep f2 id
 replace f1:=f1.none f2
 refine W ?_
 refine sC (BQ d A cap n 54 w2 hn ((hA.keep (f1.of_no _)).sub (T:=noB) (fun _ _ x=>x.elim)) hwt) ?_
 intro w3 f3
 have f:=f1.none f3
 replace h:=h.none f
 replace hG:=hG.keep f3 id
 have HO:=Lib.hid (show FW w3 p M d A n from⟨hn,hA.keep (f.of_no _),hwt,hy,hnx⟩)
 clear f1 f2 f3 hO hA
 by_cases hq:((bF d.os 53).getD []).length=1∧(St.number d.os 54).isSome=true
 rotate_left
 ·rw[FQ s d hq]at hr
  by_cases a1:((bF d.os 53).getD []).length=1
  ·have a2:(St.number d.os 54).isSome=false:=by simpa[a1]using hq
   clear hq
   refine W ?_
   exact⟨rfl,by rw[hr];exact .of h (f.of_no _)⟩
  ·clear hq
   refine W ?_
   exact⟨rfl,by rw[hr];exact .of h (f.of_no _)⟩
 obtain⟨hlen,hsm⟩:=hq
 obtain⟨fm,hnu⟩:=Option.isSome_iff_exists.1 hsm
 have hfm:=wX hnu
 obtain⟨kd,hkd⟩:∃kd,bF d.os 53=some [kd]:=by
  cases ho:bF d.os 53 with
  |none=>rw[ho]at hlen;cases hlen
  |some l=>
   rw[ho]at hlen
   obtain⟨a,rfl⟩:=List.length_eq_one_iff.1 hlen
   exact⟨a,rfl⟩
 unfold St.leased at hr
 rw[hkd,hnu]at hr
 dsimp only at hr
 rw[hkd,hnu,Option.getD_some,Option.getD_some]
 have hi:∀h:0<(bs [kd]).size,(bs [kd])[0]'h=kd:=fun _=>rfl
 clear hlen hsm hkd hnu hwt hn
 have qf:IntKind.u32.wrap (fm:Int)=(fm:Int):=by rw[IntKind.wrap_u32];omega
 have ek:∀z:Nat,z<256→(kd=UInt8.ofNat z)=(kd.toNat=z):=fun z hz=>by
  apply propext
  constructor
  ·rintro rfl;simp;omega
  ·intro e;apply UInt8.toNat_inj.1;rw[e];simp;omega
 rw[show(2:UInt8)=UInt8.ofNat 2 from rfl,show(5:UInt8)=UInt8.ofNat 5 from rfl,show(6:UInt8)=UInt8.ofNat 6 from rfl]at hr
 simp only[ek 2 (by decide),ek 5 (by decide),ek 6 (by decide)]at hr
 have hkl:kd.toNat<256:=kd.toNat_lt
 clear ek
 obtain⟨b,hb⟩:∃b,b=decide (fm=s.server∨s.lease=6):=⟨_,rfl⟩
 refine V ?_
 refine cZ ?_
 refine W ?_
 refine uZ ?_
 refine cZ ?_
 refine W ?_
 refine uZ ?_
 refine cS ?_
 refine cM [0,3,4,8] [(9,.bool b)] (fun w'=>w3=w') ?_ ?_
 ·clear hr
  by_cases a1:fm=s.server
  rotate_left
  by_cases a2:s.lease=6
  all_goals
   refine W ?_
   exact mt rfl
 rintro u _ rfl
 clear qf
 by_cases k2:kd.toNat=2
 ·rw[if_pos k2]at hr
  by_cases a1:s.lease=1
  rotate_left
  ·refine W ?_
   exact⟨rfl,by rw[hr,if_neg (fun x=>a1 x.1)];exact .of h (f.of_no _)⟩
  by_cases a2:d.yours=0
  ·refine W ?_
   exact⟨rfl,by rw[hr,if_neg (fun x=>x.2 a2)];exact .of h (f.of_no _)⟩
  rw[if_pos ⟨a1,a2⟩]at hr
  refine W ?_
  refine sMo {s with addr:=d.yours} {h.ok with addr:=hy} h ?_
  intro w4 h4 f4
  clear a1 a2 hG
  refine W ?_
  refine sMo {s with addr:=d.yours,server:=fm} {h4.ok with server:=hfm} h4 ?_
  intro w5 h5 f5
  refine W ?_
  refine sC (BF p T M _ 2 w5 h5) ?_
  intro w6 h6
  refine W ?_
  exact⟨rfl,by rw[hr];exact .comp (fun _=> .inl) (((f.of_no _).trans f4).trans f5) h6⟩
 rw[if_neg k2]at hr
 by_cases k5:kd.toNat=5
 ·rw[if_pos k5]at hr
  cases b
  ·rw[if_neg (of_decide_eq_false hb.symm)]at hr
   clear hb
   refine W ?_
   exact⟨rfl,by rw[hr];exact .of h (f.of_no _)⟩
  rw[if_pos (of_decide_eq_true hb.symm)]at hr
  clear hb
  refine W ?_
  refine sC (D6 p T M s d A cap n fm w3 h HO.out hfm) ?_
  intro w4 h4
  refine W ?_
  exact⟨rfl,by rw[hr];exact .pre f h4⟩
 rw[if_neg k5]at hr
 by_cases k6:kd.toNat=6
 rotate_left
 ·rw[if_neg k6]at hr
  clear hb
  refine W ?_
  exact⟨rfl,by rw[hr];exact .of h (f.of_no _)⟩
 rw[if_pos k6]at hr
 cases b
 ·rw[if_neg (fun x=>of_decide_eq_false hb.symm x.1)]at hr
  clear hb
  refine W ?_
  exact⟨rfl,by rw[hr];exact .of h (f.of_no _)⟩
 have hb1:=of_decide_eq_true hb.symm
 clear hb
 by_cases a1:2≤s.lease
 rotate_left
 ·rw[if_neg (fun x=>a1 x.2.1)]at hr
  clear hb1
  refine W ?_
  exact⟨rfl,by rw[hr];exact .of h (f.of_no _)⟩
 by_cases a2:s.lease=3
 ·rw[if_neg (fun x=>x.2.2 a2)]at hr
  clear hb1
  refine W ?_
  exact⟨rfl,by rw[hr];exact .of h (f.of_no _)⟩
 rw[if_pos ⟨hb1,a1,a2⟩]at hr
 clear hb1
 refine W ?_
 refine sC (BX p T M s w3 h) ?_
 intro w4 h4
 refine W ?_
 exact⟨rfl,by rw[hr];exact .pre f h4⟩
end Go.Proofs.YtcllkmllflheiaaGreatDoor
