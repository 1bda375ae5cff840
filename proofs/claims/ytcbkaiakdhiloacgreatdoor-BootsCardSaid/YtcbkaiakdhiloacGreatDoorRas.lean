/- Parts of the walk; written by programs, merged. -/
import Derived.Test.YtcbkaiakdhiloacGreatDoorRar
set_option linter.unusedSimpArgs false
set_option linter.unusedVariables false
set_option maxRecDepth 20000
set_option maxHeartbeats 8000000
namespace Go.Proofs.YtcbkaiakdhiloacGreatDoor
open Go.RowKit Go.Proofs
attribute [local go_sem] aG aD aC aE
def Jk (p:Nat) (w:World):Nat:=match w.cell? ⟨p,0,none⟩with
 |some (.string s)=>s.size
 |_=>0
theorem Cg {p:Nat} {w:World} {l:List UInt8} (h:Rd w p l):Jk p w=l.length:=by
 unfold Jk
 rw[Bk.cell h 0]
 exact aG l
theorem E3 {l:List UInt8} (h:cP l=true):asc l:=by
 intro b hb
 unfold cP at h
 simp only[Bool.and_eq_true,List.all_eq_true]at h
 have:=h.1 b hb
 unfold eR at this
 simp at this;omega
theorem nP {w:World} {base:Nat} {e:TypeId} {size n cap:Nat} {A:Option Addr} {xs:List Value} (h:w.ownsRow base e size (.slice A n cap) n xs):∀a,A=some a→base≤a.block∧a.block<w.heap.size:=by
 rintro a rfl
 obtain⟨h1,⟨h2,_⟩|⟨g',cap',cur,hv,hb,hg,_⟩⟩:=h
 ·cases h2
 ·cases hv;exact⟨hb,Bk.lt hg⟩
theorem gU {w w':World} {S:Nat→Prop} {base:Nat} {e:TypeId} {size n cap:Nat} {A:Option Addr} {xs:List Value} (h:w.ownsRow base e size (.slice A n cap) n xs) (hf:Fr S w w') (hS:∀a,A=some a→¬S a.block):
 w'.ownsRow base e size (.slice A n cap) n xs:=by
 obtain⟨h1,h2|⟨g',cap',cur,hv,hb,hg,hn,hm,hc,ht⟩⟩:=h
 ·exact⟨h1,.inl h2⟩
 ·cases hv
  exact⟨h1,.inr ⟨g',cap,cur,rfl,hb,Bk.keep hg hf (hS _ rfl),hn,hm,hc,ht⟩⟩
theorem BD {w:World} {S:Nat→Prop} {base:Nat} {e:TypeId} {size n cap:Nat} {A:Option Addr} {xs:List Value} (h:w.ownsRow base e size (.slice A n cap) n xs) (hS:∀a,A=some a→¬S a.block):SlR w S size A n xs:=by
 refine⟨h.1,fun hn=> ?_⟩
 obtain⟨h1,⟨h2,h3⟩|⟨g,cap',cur,hv,hb,hg,hnn,hm,hc,ht⟩⟩:=id h
 ·omega
 ·cases hv
  refine⟨_,rfl,Bk.lt hg,hS _ rfl,fun j u hu=> ?_⟩
  rw[gA,Nat.zero_add,Bk.cell hg j]
  have hl:j<xs.length:=by
   rcases Nat.lt_or_ge j xs.length with h1|h1
   ·exact h1
   ·rw[List.getElem?_eq_none h1]at hu;cases hu
  rw[←ht,List.getElem?_take,if_pos (by omega)]at hu
  simpa using hu
def Kq (p:Nat) (l:List UInt8) (w:World) (e:Ending) (w':World):Prop:=
 (∃fs A cap,jF [] l=some fs∧e= .returned (.slice A fs.length cap)∧SlR w' (fun k=>k<w.heap.size) 2 A fs.length (gJ fs)∧Rd w' p []∧wtF fs≤l.length∧Fr (aI p) w w')∨
 (jF [] l=none∧e= .panicked (cE 2)∧Fr (aI p) w w')
theorem Aa (p:Nat) (l:List UInt8) (w:World) (hR:Rd w p l) (hT:lY w) (hp1:¬aI p 7) (hp2:¬aI p 8) (hl:l.length≤1099511627):
 Calls Tryz.prog 169 #[.pointer (some ⟨p,0,none⟩)] w (Kq p l w):=by
 have hpl:=Bk.lt hR
 obtain⟨i0,hi0,hz0,hz1,hz2⟩:=info_parts He
 go_enter Tryz.func169,Tryz.ntmps169
 go_wp2_with fail
 go_loopw [3] (fun ov wr=>∃(fs:List eH) (l1:List UInt8) (A:Option Addr) (cap:Nat),jF [] l=jF fs l1∧ov= .slice A fs.length cap∧wr.ownsRow w.heap.size 196 2 (.slice A fs.length cap) fs.length (gJ fs)∧
  Rd wr p l1∧wtF fs+l1.length≤l.length∧Fr (aI p) w wr∧lY wr) (fun _ wr=>Jk p wr)
 case atStart=>exact⟨[],l,none,0,rfl,rfl,⟨rfl,.inl ⟨rfl,rfl⟩⟩,hR,by simp[wtF],Fr.refl _ _,hT⟩
 case round=>
  obtain⟨fs,l1,A,cap,e1,rfl,hO,hR1,hw1,hf1,hT1⟩:=hrel
  have E1:=Lib.hid e1
  have hmu:=Cg hR1
  have hone:=hf1.size
  clear e1
  go_wp2_with fail
  refine(Kb p l1 _ hR1).mono ?_
  rintro e w2 ⟨rfl,rfl⟩
  by_cases hl1:l1=[]
  ·subst hl1
   have H1:Hid (jF [] l=some fs):=Lib.hid (by rw[E1.out,Fp])
   have hA:=BD (S:=fun k=>k<w.heap.size) hO (fun a e h=>by have:=(nP hO a e).1;omega)
   clear E1
   go_wp2_with fail
   go_ret
   exact .inl ⟨fs,A,cap,H1.out,rfl,hA,hR1,by simp only[List.length_nil]at hw1;omega,hf1⟩
  have hpos:(0:Int)<(l1.length:Int):=by have:=List.length_pos_iff.2 hl1;omega
  have Hne:=Lib.hid hl1
  clear hl1
  go_wp2_with fail
  refine(E5 p l1 _ hR1 (by omega)).mono ?_
  rintro e w3 (⟨a,r,h1,rfl,hR2,hf2⟩|⟨h1,rfl,hf2⟩)
  rotate_left
  ·exact⟨rfl,.inr ⟨by rw[E1.out,Bo fs l1 Hne.out h1],rfl,hf1.trans hf2⟩⟩
  have hlen1:=eX _ _ _ h1
  have Hl1:=Lib.hid h1
  have hF2:=hf1.trans hf2
  have hT2:=hT1.keep hf2 hp1 hp2
  have hO2:=gU hO hf2 (by rintro a e h;have:=(nP hO a e).1;unfold aI at h;omega)
  clear h1 hR1 hf1 hf2 hT1 hO
  go_wp2_with fail
  refine(E5 p r _ hR2 (by omega)).mono ?_
  rintro e w4 (⟨b,r2,h1,rfl,hR3,hf3⟩|⟨h1,rfl,hf3⟩)
  rotate_left
  ·exact⟨rfl,.inr ⟨by rw[E1.out,Bd fs l1 a r Hl1.out h1],rfl,hF2.trans hf3⟩⟩
  have hlen2:=eX _ _ _ h1
  have Hl2:=Lib.hid h1
  have hF3:=hF2.trans hf3
  have hT3:=hT2.keep hf3 hp1 hp2
  have hO3:=gU hO2 hf3 (by rintro a e h;have:=(nP hO2 a e).1;unfold aI at h;omega)
  clear h1 hR2 hF2 hf3 hT2 hO2
  have hbf:=Bk.new w4 196 #[.string (bs a),.string (bs b)]
  have hF4:=hF3.alloc (.cells #[.string (bs a),.string (bs b)] 196)
  have hT4:=hT3.none ((Fr.refl _ _).alloc (.cells #[.string (bs a),.string (bs b)] 196))
  have hR4:=Bk.alloc hR3 (.cells #[.string (bs a),.string (bs b)] 196)
  have hO4:=gU hO3 ((Fr.refl noB w4).alloc (.cells #[.string (bs a),.string (bs b)] 196)) (fun _ _ x=>x)
  have hgl:w.heap.size≤w4.heap.size:=hF3.size
  have hOb:=fun a e=>(nP hO3 a e).2
  have hbc:=hbf.cells
  go_wp2_with fail
  obtain⟨gf,hgf⟩:∃gf,w4.heap.size=gf:=⟨_,rfl⟩
  rw[hgf]at hbf hgl hOb hbc
  rw[hgf]
  clear hgf hF3 hT3 hR3 hO3
  generalize w4.alloc (.cells #[.string (bs a),.string (bs b)] 196)=w5 at*
  have hwb:(cP a&&cP b&& !(named fs (CP a)))=false→∀w',Fr (aI p) w w'→Kq p l w (.panicked (cE 2)) w':=by
   intro hb w' hf
   exact .inr ⟨by rw[E1.out,DN fs l1 a r b r2 Hl1.out Hl2.out hb],rfl,hf⟩
  have Hwb:=Lib.hid hwb
  clear hwb
  refine(eE a w5 (by omega)).mono ?_
  rintro e w6 ⟨rfl,rfl⟩
  cases ha:cP a with
  |false=>
   have Hno:=Lib.hid (Hwb.out (by rw[ha];rfl))
   clear Hwb ha
   go_wp2_with fail
   refine(dH 2 _).mono ?_
   rintro x w7 ⟨rfl,rfl⟩
   exact⟨rfl,Hno.out _ hF4⟩
  |true=>
  have Ha:=Lib.hid ha
  clear ha
  go_wp2_with fail
  refine(eE b _ (by omega)).mono ?_
  rintro e w7 ⟨rfl,rfl⟩
  cases hb:cP b with
  |false=>
   have Hno:=Lib.hid (Hwb.out (by rw[Ha.out,hb];rfl))
   clear Hwb hb
   go_wp2_with fail
   refine(dH 2 _).mono ?_
   rintro x w7 ⟨rfl,rfl⟩
   exact⟨rfl,Hno.out _ hF4⟩
  |true=>
  have Hb:=Lib.hid hb
  clear hb
  go_wp2_with fail
  refine(eU 2 _).mono ?_
  rintro x w8 ⟨rfl,rfl⟩
  go_wp2_with fail
  refine(mO a _ (by omega) hT4).mono ?_
  rintro e w9 ⟨rfl,hf5⟩
  rw[nB a (E3 Ha.out)]
  have hbf5:=hbf.keep hf5 (fun x=>x)
  have hc5:=hbf5.cells
  have hz5:=hbf5.frees
  have hF5:=hF4.none hf5
  have hT5:=hT4.none hf5
  have hR5:=Bk.keep hR4 hf5 (fun x=>x)
  have hO5:=gU hO4 hf5 (fun _ _ x=>x)
  have hpgf:p≠gf:=by omega
  clear hbf hf5 hF4 hT4 hR4 hO4 hbc
  obtain⟨la,hla⟩:∃la,CP a=la:=⟨_,rfl⟩
  have hlal:la.length=a.length:=by rw[←hla];simp[CP]
  rw[hla]at Hwb
  rw[hla]
  have Hla:=Lib.hid hla
  clear hla
  have hF6:Fr (aI p) w (w9.setCell ⟨gf,0,none⟩ (.string (bs la))):=hF5.setCell (p:=⟨gf,0,none⟩) (fun h=>absurd h (by simp;omega)) _
  have hT6:lY (w9.setCell ⟨gf,0,none⟩ (.string (bs la))):=hT5.keep (S:=aI gf) ((Fr.refl (aI gf) w9).setCell (p:=⟨gf,0,none⟩) (fun _=>rfl) _) (by have:=hT.lt;unfold aI;omega) (by have:=hT.lt;unfold aI;omega)
  have hR6:Rd (w9.setCell ⟨gf,0,none⟩ (.string (bs la))) p r2:=Bk.far hR5 (p:=⟨gf,0,none⟩) hpgf _
  have hO6:(w9.setCell ⟨gf,0,none⟩ (.string (bs la))).ownsRow w.heap.size 196 2 (.slice A fs.length cap) fs.length (gJ fs):=
   gU hO5 (S:=aI gf) ((Fr.refl (aI gf) w9).setCell (p:=⟨gf,0,none⟩) (fun _=>rfl) _) (by rintro ad e h;have:=hOb ad e;unfold aI at h;omega)
  have hbf6:Bk (w9.setCell ⟨gf,0,none⟩ (.string (bs la))) gf 196 #[.string (bs la),.string (bs b)]:=by simpa using hbf5.set 0 (.string (bs la))
  clear hF5 hT5 hR5 hO5
  go_wp2_with fail
  clear hbf5 hc5 hz5
  generalize w9.setCell ⟨gf,0,none⟩ (.string (bs la))=w10 at*
  have hA6:=BD (S:=noB) hO6 (fun _ _ x=>x)
  have hlf:=oD fs
  go_loopw [30] (fun iv wx=>∃(j:Nat),j≤fs.length∧iv= .int .i64 (j:Int)∧(∀k o,k<j→fs[k]? =some o→o.name≠la)∧Fr noB w10 wx) (fun iv _=>fs.length-(intOf iv).toNat)
  case atStart=>exact⟨0,by omega,rfl,fun k o h=>absurd h (by omega),Fr.refl _ _⟩
  case round=>
   obtain⟨j,hj,rfl,hnm,hwx⟩:=hrel
   have hc7:=(hbf6.keep hwx (fun x=>x)).cells
   by_cases hlt:j<fs.length
   ·obtain⟨o,ho⟩:∃o,fs[j]? =some o:=⟨_,List.getElem?_eq_getElem hlt⟩
    obtain⟨ad,rfl,c1,c2⟩:=(hA6.keep hwx).fldAt ho
    have hne:=hwx.alloc (.cells #[.string (bs o.name),.string (bs o.value)] 196)
    have hc8:=((hbf6.keep hwx (fun x=>x)).alloc (.cells #[.string (bs o.name),.string (bs o.value)] 196)).cells
    by_cases he:o.name=la
    ·have hbn:(o.name==la)=true:=by simpa using he
     have Hno:=Lib.hid (Hwb.out (by rw[BY ho he];simp))
     have hF7:=hF6.none hne
     clear Hwb he ho hnm
     go_wp2_with fail
     refine(dH 2 _).mono ?_
     rintro x w11 ⟨rfl,rfl⟩
     exact⟨rfl,Hno.out _ hF7⟩
    ·have hbn:(o.name==la)=false:=by simpa using he
     have Hnm:Hid (∀k o,k<j+1→fs[k]? =some o→o.name≠la):=Lib.hid (by
      intro k o' hk h2
      rcases Nat.lt_or_ge k j with h3|h3
      ·exact hnm k o' h3 h2
      ·obtain rfl:k=j:=by omega
       rw[ho]at h2;cases h2;exact he)
     clear he ho hnm
     go_wp2_with fail
     refine(eU 2 _).mono ?_
     rintro x w11 ⟨rfl,rfl⟩
     go_wp2_with fail
     exact⟨⟨j+1,by omega,by rw[Int.natCast_add];rfl,Hnm.out,hne⟩,by simp only[intOf];omega⟩
   ·obtain rfl:j=fs.length:=by omega
    have hnn:named fs la=false:=BV (fun k o h=>hnm k o h)
    have H1:Hid (jF [] l=jF (fs++[(⟨la,b⟩:eH)]) r2):=Lib.hid (by
     rw[E1.out,GD fs l1 a r b r2 Hl1.out Hl2.out (by rw[Ha.out,Hb.out,Hla.out,hnn];rfl),Hla.out])
    have hF7:=hF6.none hwx
    have hT7:=hT6.none hwx
    have hR7:=Bk.keep hR6 hwx (fun x=>x)
    have hO7:=gU hO6 hwx (fun _ _ x=>x)
    have hO8:=gU hO7 ((Fr.refl noB wr).alloc (.cells #[.string (bs la),.string (bs b)] 196)) (fun _ _ x=>x)
    have hsr:SlR (wr.alloc (.cells #[.string (bs la),.string (bs b)] 196)) noB 2 (some ⟨wr.heap.size,0,none⟩) 1 (gJ [⟨la,b⟩]):=
     SlR.of_bk (n:=1) (size:=2) (S:=noB) (Bk.new wr 196 #[.string (bs la),.string (bs b)]) (fun x=>x) rfl
    have hT8:=hT7.none ((Fr.refl _ _).alloc (.cells #[.string (bs la),.string (bs b)] 196))
    have hR8:=Bk.alloc hR7 (.cells #[.string (bs la),.string (bs b)] 196)
    have hF8:=hF7.alloc (.cells #[.string (bs la),.string (bs b)] 196)
    have hOw:=nP hO7
    have hsz7:=hF7.size
    have hTl:=hT.lt
    clear hnm hnn Hwb hF6 hT6 hR6 hO6 hA6 hwx hbf6
    go_wp2_with (at_builtin
                 go_must (refine gR rfl (.tmp 41) (.tmp 43) _ rfl w.heap.size 196 i0 _ 2 32 Tryz.underlying121 hi0 hz0 hz1 hz2 rfl (by omega) A _ _ _ rfl hO8 noB _ 1 1 _ rfl hsr FP (by unfold maxLen;omega) (by omega) (by simp;omega) ?_)
                 intro A4 cap4 w12 hap)
    have hrow:∀k,(∃a,A=some a∧a.block=k)→w.heap.size≤k:=by rintro k ⟨a,e,rfl⟩;exact(hOw a e).1
    have hFn:Fr (aI p) w w12:=hF8.trans' hap.fr (by rintro k hk h;have:=hrow k h;omega)
    have hTn:lY w12:=hT8.keep hap.fr (fun h=>by have:=hrow _ h;omega) (fun h=>by have:=hrow _ h;omega)
    have hRn:Rd w12 p r2:=Bk.keep hR8 hap.fr (fun h=>by have:=hrow _ h;omega)
    have hmu2:=Cg hRn
    have hown:w12.ownsRow w.heap.size 196 2 (.slice A4 (fs++[(⟨la,b⟩:eH)]).length cap4) (fs++[(⟨la,b⟩:eH)]).length (gJ (fs++[(⟨la,b⟩:eH)])):=by
     rw[List.length_append,rW];exact hap.own
    refine⟨⟨fs++[(⟨la,b⟩:eH)],r2,A4,cap4,H1.out,by rw[List.length_append];rfl,hown,hRn,?_,hFn,hTn⟩,?_⟩
    ·rw[uS];simp only[wtF];omega
    ·omega
end Go.Proofs.YtcbkaiakdhiloacGreatDoor
namespace Go.Proofs.YtcbkaiakdhiloacGreatDoor
open Go.RowKit Go.Proofs
attribute [local go_sem] aG aD aC aE
def G0 (B:Nat) (l:List UInt8) (x:Value) (w:World):Prop:=
 ∃d A cap,x= .agg (tL d A cap)∧aM l=(d,0)∧SlR w (fun k=>k<B) 2 A d.fs.length (gJ d.fs)∧wtF d.fs≤l.length
def BG (l:List UInt8) (er:Int):Prop:=∃k:Nat,er=((k+1:Nat):Int)∧aM l=(zW,k+1)
theorem yA:asc CC:=by unfold asc CC;decide
theorem RA.re {p n:Nat} {l r:List UInt8} {w0 w w':World} {B:List (Nat×TypeId×Array Value)} (h:RA p l n w0 B w) (hr:Rd w' p r) (f:Fr (aI p) w w'):RA p r 0 w0 B w':=
 ⟨by rw[List.drop_zero];exact hr,h.fr.trans f,fun x hx=>⟨(h.bk x hx).1,(h.bk x hx).2.keep f (h.bk x hx).1⟩⟩
attribute [local simp] tL ibq ibn eqN ltN leN eqL ltL gtL leL geL
theorem MO (B:Nat) (l:List UInt8) (hl:l.length≤1099511627) (p:Nat) (w:World) (hR:Rd w p l) (hT:lY w) (hp1:¬aI p 7) (hp2:¬aI p 8) (hB:B≤w.heap.size):
 Calls Tryz.prog 165 #[.pointer (some ⟨p,0,none⟩)] w (mD noB (G0 B l) (BG l) p w):=by
 obtain⟨z,hz⟩:∃z,aM l=z:=⟨_,rfl⟩
 have bad:∀k:Nat,z=(zW,k+1)→∀w',Fr (aI p) w w'→mD noB (G0 B l) (BG l) p w (.panicked (cE ((k+1:Nat):Int))) w':=fun k h w' hf=>⟨.inr ⟨_,⟨k,rfl,hz.trans h⟩,rfl⟩,hf.mono fun _ _ e=> .inl e⟩
 have hA:RA p l 0 w [] w:=⟨by rw[List.drop_zero];exact hR,Fr.refl _ _,List.forall_mem_nil _⟩
 have hl63:l.length≤9223372036854775807:=by omega
 have hy:=hz
 unfold aM at hz
 clear hR
 refine en Tryz.func165 Tryz.ntmps165 ?_
 refine W ?_
 refine sA ?_
 intro w1 hX f
 replace hA:=hA.new hX f
 clear hX f
 refine W ?_
 refine sR 2 (B7 hA (Nat.zero_le _) hl63) ?_ (hb:= ?_)
 rotate_left
 ·intro w' h f
  exact⟨rfl,bad 0 (hz.symm.trans (if_pos h)) _ f⟩
 intro h2 w2 hA
 rw[if_neg (by omega)]at hz
 generalize num (sub l 0 2)=k at*
 refine W ?_
 refine sA ?_
 intro w3 hG f
 refine W ?_
 refine sT ?_
 intro w4 hG f2
 have hg0:w.heap.size<w2.heap.size:=(hA.at_ 0).lt
 have hne:∀x∈[(w.heap.size,123,rdZ 5)],x.1≠w2.heap.size:=fun x hx=>Nat.ne_of_lt (hA.bk x hx).2.lt
 replace hA:=hA.new hG (bP f (Nat.le_refl _) f2)
 clear hG f f2
 generalize w2.heap.size=g at*
 refine V ?_
 refine cS ?_
 refine cY (fun _=>[(2,.pointer (some ⟨w.heap.size,0,none⟩)),(3,.pointer (some ⟨g,0,none⟩))]) (fun(x:tK×Option Addr×Nat) w'=>z=(x.1,0)∧wtF x.1.fs≤l.length∧SlR w' (fun k=>k≤g) 2 x.2.1 x.1.fs.length (gJ x.1.fs)∧RA p [] 0 w [(g,123,tL x.1 x.2.1 x.2.2),(w.heap.size,123,rdZ 5)] w') ?_ ?_
 rotate_left
 ·rintro⟨d,A,cap⟩ u w5 ⟨hz,hwt,hS,hA⟩
  have hm:=hA.at_ 0
  have hx:=hA.at_ 1
  refine W ?_
  refine sT ?_
  intro w6 hX f
  refine W ?_
  refine zC hX Tryz.underlying123 ?_
  exact⟨.inl ⟨_,⟨d,A,cap,rfl,hy.trans hz,(hS.keep (f.mono fun k _ e=>by have e':k=w.heap.size:=e;omega)).sub (fun b _ h=>by omega),hwt⟩,rfl⟩,(hA.fr.trans' f fun b hb e=>by have e':b=w.heap.size:=e;omega).mono fun b _ e=> .inl e⟩
 have hG:=hA.at_ 0
 refine W ?_
 have hld:(l.drop 2).length=l.length-2:=List.length_drop ..
 by_cases k1:k=1
 ·subst k1
  rw[if_pos rfl]at hz
  clear hG
  refine W ?_
  refine sZ (E5 p _ _ hA.rd (by omega)) ?_
  rintro e w5 (⟨a,r,h1,rfl,hr5,f5⟩|⟨h1,rfl,f5⟩)
  rotate_left
  ·simp only[h1]at hz
   exact⟨rfl,bad 1 hz.symm _ (hA.fr.trans f5)⟩
  simp only[h1]at hz
  replace hA:=hA.re hr5 f5
  have hla:=eX _ _ _ h1
  refine W ?_
  refine sK (tL ⟨1,0,a,[],[]⟩ none 0) (hA.at_ 0) ?_
  intro w6 hG f
  replace hA:=hA.put hG f (Nat.le_of_lt hg0) hne
  refine W ?_
  refine sC (eE a _ (by omega)) ?_
  rintro w7 rfl
  by_cases hw:cP a=false
  ·rw[if_pos hw]at hz
   refine W ?_
   refine sMn (dH _ _) ?_
   exact⟨rfl,bad 1 hz.symm _ hA.fr⟩
  rw[if_neg hw]at hz
  replace hw:cP a=true:=by simpa using hw
  refine W ?_
  refine sZ (E5 p r _ (by have:=hA.rd;rwa [List.drop_zero]at this) (by omega)) ?_
  rintro e w8 (⟨b,r2,h2,rfl,hr8,f8⟩|⟨h2,rfl,f8⟩)
  rotate_left
  ·simp only[h2]at hz
   exact⟨rfl,bad 1 hz.symm _ (hA.fr.trans f8)⟩
  simp only[h2]at hz
  replace hA:=hA.re hr8 f8
  have hlb:=eX _ _ _ h2
  refine W ?_
  refine sC (mO b _ (by omega) (hT.keep hA.fr hp1 hp2)) ?_
  intro w9 f9
  replace hA:=hA.none f9
  by_cases ho:CP b=CC
  rotate_left
  ·rw[if_neg ho]at hz
   have hob:(tU b==[111,99,116,101,116])=false:=beq_eq_false_iff_ne.2 fun h=>ho ((BX b CC yA).1 h)
   refine W ?_
   refine sMn (dH _ _) ?_
   exact⟨rfl,bad 1 hz.symm _ hA.fr⟩
  rw[if_pos ho]at hz
  have hob:(tU b==[111,99,116,101,116])=true:=beq_iff_eq.2 ((BX b CC yA).2 ho)
  refine W ?_
  refine sC (eU _ _) ?_
  rintro _ rfl
  have hr0:=hA.rd
  rw[List.drop_zero]at hr0
  refine W ?_
  refine sZ (Aa p _ _ hr0 (hT.keep hA.fr hp1 hp2) hp1 hp2 (by omega)) ?_
  rintro e w10 (⟨fs,A,cap,h3,rfl,hS,hr,hwf,f⟩|⟨h3,rfl,f⟩)
  rotate_left
  ·simp only[h3]at hz
   exact⟨rfl,bad 1 hz.symm _ (hA.fr.trans f)⟩
  simp only[h3]at hz
  have hgl:=(hA.at_ 0).lt
  replace hA:=hA.re hr f
  refine W ?_
  refine sK (tL ⟨1,0,a,[],fs⟩ A cap) (hA.at_ 0) ?_
  intro w11 hG f6
  replace hA:=hA.put hG f6 (Nat.le_of_lt hg0) hne
  refine W ?_
  exact⟨(⟨1,0,a,[],fs⟩,A,cap),(mt (p:=True) trivial).1,hz.symm,by dsimp only;omega,(hS.keep (f6.mono fun k _ e=>by have e':k=g:=e;omega)).sub (fun k _ h=>by omega),hA⟩
 by_cases k6:k=6
 ·subst k6
  rw[if_neg (by decide),if_pos rfl]at hz
  refine W ?_
  refine sZ (Aa p _ _ hA.rd (hT.keep hA.fr hp1 hp2) hp1 hp2 (by omega)) ?_
  rintro e w5 (⟨fs,A,cap,h1,rfl,hS,hr,hwf,f⟩|⟨h1,rfl,f⟩)
  rotate_left
  ·simp only[h1]at hz
   exact⟨rfl,bad 1 hz.symm _ (hA.fr.trans f)⟩
  simp only[h1]at hz
  have hgl:=(hA.at_ 0).lt
  replace hA:=hA.re hr f
  refine W ?_
  refine sK (tL ⟨6,0,[],[],fs⟩ A cap) (hA.at_ 0) ?_
  intro w6 hG f6
  replace hA:=hA.put hG f6 (Nat.le_of_lt hg0) hne
  refine W ?_
  exact⟨(⟨6,0,[],[],fs⟩,A,cap),(mt (p:=True) trivial).1,hz.symm,by dsimp only;omega,(hS.keep (f6.mono fun k _ e=>by have e':k=g:=e;omega)).sub (fun k _ h=>by omega),hA⟩
 have hA4:l.length<4→∀w',Fr (aI p) w w'→(k=3∨k=4∨k=5)→mD noB (G0 B l) (BG l) p w (.panicked (cE 1)) w':=fun h w' f hk=>bad 0 (by
  rcases hk with rfl|rfl|rfl<;>simp[h]at hz<;>exact hz.symm) w' f
 by_cases k3:k=3
 ·subst k3
  refine W ?_
  refine sR 4 (B7 hA h2 hl63) ?_ (hb:=fun w' h f=>⟨rfl,hA4 h _ f (.inl rfl)⟩)
  intro h4 w5 hA
  rw[if_neg (by decide),if_neg (by decide),if_pos rfl,if_neg (by omega)]at hz
  generalize num (sub l 2 4)=bk at*
  refine W ?_
  refine sK (tL ⟨3,bk,[],[],[]⟩ none 0) (hA.at_ 0) ?_
  intro w6 hG f6
  replace hA:=hA.put hG f6 (Nat.le_of_lt hg0) hne
  have hld4:(l.drop 4).length=l.length-4:=List.length_drop ..
  have hr0:=hA.rd
  replace hA:=hA.re hr0 (Fr.refl _ _)
  generalize l.drop 4=ld at*
  refine W ?_
  refine sC (Kb p _ _ hr0) ?_
  rintro _ rfl
  refine W ?_
  refine sM (eA _ _ _) (fun h=> ?_) fun h7=> ?_
  ·exact⟨rfl,bad 6 (hz.symm.trans (if_pos (by omega))) _ hA.fr⟩
  rw[if_neg (by omega)]at hz
  refine W ?_
  refine sC (Kj p _ _ hr0 (by omega)) ?_
  rintro w7 ⟨hr,f⟩
  replace hA:=hA.re hr f
  refine W ?_
  refine sK (tL ⟨3,bk,[],ld,[]⟩ none 0) (hA.at_ 0) ?_
  intro w8 hG f8
  replace hA:=hA.put hG f8 (Nat.le_of_lt hg0) hne
  refine W ?_
  exact⟨(⟨3,bk,[],ld,[]⟩,none,0),(mt (p:=True) trivial).1,hz.symm,Nat.zero_le _,SlR.nil,hA⟩
 by_cases k4:k=4
 ·subst k4
  refine W ?_
  refine sR 4 (B7 hA h2 hl63) ?_ (hb:=fun w' h f=>⟨rfl,hA4 h _ f (.inr (.inl rfl))⟩)
  intro h4 w5 hA
  rw[if_neg (by decide),if_neg (by decide),if_neg (by decide),if_pos rfl,if_neg (by omega)]at hz
  generalize num (sub l 2 4)=bk at*
  refine W ?_
  refine sK (tL ⟨4,bk,[],[],[]⟩ none 0) (hA.at_ 0) ?_
  intro w6 hG f6
  replace hA:=hA.put hG f6 (Nat.le_of_lt hg0) hne
  have hr0:=hA.rd
  replace hA:=hA.re hr0 (Fr.refl _ _)
  generalize l.drop 4=ld at*
  refine W ?_
  refine sC (Kb p _ _ hr0) ?_
  rintro _ rfl
  refine W ?_
  refine sM (eA _ _ _) (fun h=> ?_) fun h7=> ?_
  ·exact⟨rfl,bad 1 (hz.symm.trans (if_pos fun e=>h (by rw[e]))) _ hA.fr⟩
  replace h7:ld=[]:=by simpa using h7
  subst h7
  rw[if_neg (fun h=>h rfl)]at hz
  refine W ?_
  exact⟨(⟨4,bk,[],[],[]⟩,none,0),(mt (p:=True) trivial).1,hz.symm,Nat.zero_le _,SlR.nil,hA⟩
 by_cases k5:k=5
 ·subst k5
  refine W ?_
  refine sR 4 (B7 hA h2 hl63) ?_ (hb:=fun w' h f=>⟨rfl,hA4 h _ f (.inr (.inr rfl))⟩)
  intro h4 w5 hA
  rw[if_neg (by decide),if_neg (by decide),if_neg (by decide),if_neg (by decide),if_pos rfl,if_neg (by omega)]at hz
  generalize num (sub l 2 4)=bk at*
  refine W ?_
  refine sK (tL ⟨5,bk,[],[],[]⟩ none 0) (hA.at_ 0) ?_
  intro w6 hG f6
  replace hA:=hA.put hG f6 (Nat.le_of_lt hg0) hne
  refine W ?_
  refine sZ (E5 p _ _ hA.rd (by rw[List.length_drop];omega)) ?_
  rintro e w7 (⟨a,r,h1,rfl,hr5,f5⟩|⟨h1,rfl,f5⟩)
  rotate_left
  ·simp only[h1]at hz
   exact⟨rfl,bad 1 hz.symm _ (hA.fr.trans f5)⟩
  simp only[h1]at hz
  replace hA:=hA.re hr5 f5
  refine W ?_
  refine sK (tL ⟨5,bk,a,[],[]⟩ none 0) (hA.at_ 0) ?_
  intro w8 hG f
  replace hA:=hA.put hG f (Nat.le_of_lt hg0) hne
  have hr0:=hA.rd
  rw[List.drop_zero]at hr0
  refine W ?_
  refine sC (Kb p _ _ hr0) ?_
  rintro _ rfl
  refine W ?_
  refine sM (eA _ _ _) (fun h=> ?_) fun h7=> ?_
  ·cases r with
   |nil=>exact absurd rfl h
   |cons c r=>exact⟨rfl,bad 1 hz.symm _ hA.fr⟩
  replace h7:r=[]:=by simpa using h7
  subst h7
  refine W ?_
  exact⟨(⟨5,bk,a,[],[]⟩,none,0),(mt (p:=True) trivial).1,hz.symm,Nat.zero_le _,SlR.nil,hA⟩
 rw[if_neg k1,if_neg k6,if_neg k3,if_neg k4,if_neg k5]at hz
 refine W ?_
 refine sZ (wT 2 _) ?_
 rintro e w5 ⟨rfl,rfl⟩
 exact⟨rfl,bad 1 hz.symm _ hA.fr⟩
end Go.Proofs.YtcbkaiakdhiloacGreatDoor
namespace Go.Proofs.YtcbkaiakdhiloacGreatDoor
open Go.RowKit Go.Proofs
attribute [local go_sem] aG aD aC aE
theorem Cz (l:List UInt8) (w:World) (hl:l.length≤1099511627) (hT:lY w):
 Calls Tryz.prog 109 #[.string (bs l)] w fun e w'=>Eg l w e w'∧wtF (aM l).1.fs≤l.length:=by
 have hTl:=hT.lt
 go_enter Tryz.func109,Tryz.ntmps109
 have hmf:∀(fn:Fn) (first cap:Array Value) (w:World),(Instr.makeFunc fn first cap).run Tryz.prog w= .ok (.func fn first cap) w:=fun _ _ _ _=>rfl
 go_wp2_with fail
 have hx0:=Bk.new w 123 (rdZ 5)
 have hf0:Fr noB w (w.alloc (.cells (rdZ 5) 123)):=(Fr.refl _ _).alloc _
 have hsz:(w.alloc (.cells (rdZ 5) 123)).heap.size=w.heap.size+1:=by simp
 have hT1:=hT.none hf0
 simp only[rdZ]at hx0 hf0 hsz hT1
 generalize w.alloc (.cells #[.int .u16 0,.int .u16 0,.string ⟨#[]⟩,.string ⟨#[]⟩,.slice none 0 0] 123)=w1 at*
 have Hsz:=Lib.hid hsz
 clear hsz
 refine(Ey 5 (by decide) l w1 165 #[] noB (G0 (w1.heap.size+2) l) (BG l) (fun _ _ _ x=>x) ?_ ?_ ?_).mono ?_
 ·rintro x w2 ⟨d,A,cap,rfl,_⟩;exact⟨_,rfl,rfl,wW d A cap⟩
 ·rintro x w2 w3 ⟨d,A,cap,rfl,h1,h2,h3⟩ hf
  exact⟨d,A,cap,rfl,h1,h2.keep (hf.mono fun b _ e=>by rcases e with e|e<;>omega),h3⟩
 ·rintro p w2 rfl hR hf
  have:=Hsz.out
  exact MO _ l hl _ w2 hR (hT1.none hf) (by unfold aI;omega) (by unfold aI;omega) (by have:=Bk.lt hR;omega)
 rintro e w2 ⟨hcase,hf1⟩
 have hx1:=hx0.keep hf1 (fun x=>x)
 have key:(∃A cap,e= .returned (.tuple #[.agg (tL (aM l).1 A cap),.int .i64 ((aM l).2:Int)])∧SlR w2 (fun k=>k<w.heap.size+1) 2 A (aM l).1.fs.length (gJ (aM l).1.fs))∧wtF (aM l).1.fs≤l.length:=by
  rcases hcase with⟨x,⟨d,A,cap,rfl,h1,h2,h3⟩,rfl⟩|⟨er,⟨k,rfl,h1⟩,rfl⟩
  ·rw[h1];exact⟨⟨A,cap,rfl,h2.sub (fun b hb h=>by have:=Hsz.out;omega)⟩,h3⟩
  ·rw[h1];exact⟨⟨none,0,rfl,SlR.nil⟩,Nat.zero_le _⟩
 obtain⟨⟨A,cap,rfl,hA⟩,hwt⟩:=key
 generalize hr:aM l=r at*
 have Hr:=Lib.hid hr
 clear hr hcase
 have hin:=Lib.hid (Ce r.1 A cap)
 have hon:=Lib.hid (wW r.1 A cap)
 have hsz:=Lib.hid (rI r.1 A cap)
 generalize hc:tL r.1 A cap=c at*
 have Hc:=Lib.hid hc
 clear hc
 go_wp2_with ((refine aN rfl 123 (.tmp 2) (.tmp 6) rfl w.heap.size _ _ c rfl rfl hx1 hsz.out hin.out hon.out ?_);intro w9 hx9 hf9)
 refine bodyPost_ret (aX Tryz.results109 _ w9 w.heap.size _ c _ _ rfl rfl hx9 Tryz.underlying123 rfl hin.out) rfl ?_
 refine⟨⟨⟨A,cap,by rw[Hr.out,Hc.out];rfl,?_⟩,(hf0.none hf1).trans' hf9 (fun b hb e=>by unfold aI at e;omega)⟩,by rw[Hr.out];exact hwt⟩
 rw[Hr.out]
 exact(hA.keep (hf9.mono fun b hb e=>by unfold aI at e;omega)).sub (fun b hb h=>by omega)
theorem yI (l:List UInt8) (w:World) (hl:l.length≤1099511627) (hT:lY w):
 Calls Tryz.prog 56 #[.string (bs l)] w fun e w'=>Eg l w e w'∧wtF (aM l).1.fs≤l.length:=by
 go_enter Tryz.func56,Tryz.ntmps56
 go_wp2_with fail
 have hx0:=Bk.new w 123 (rdZ 5)
 have hf0:Fr noB w (w.alloc (.cells (rdZ 5) 123)):=(Fr.refl _ _).alloc _
 have hsz:(w.alloc (.cells (rdZ 5) 123)).heap.size=w.heap.size+1:=by simp
 have hT1:=hT.none hf0
 simp only[rdZ]at hx0 hf0 hsz hT1
 generalize w.alloc (.cells #[.int .u16 0,.int .u16 0,.string ⟨#[]⟩,.string ⟨#[]⟩,.slice none 0 0] 123)=w1 at*
 have Hsz:=Lib.hid hsz
 clear hsz
 refine(Cz l w1 hl hT1).mono ?_
 rintro e w2 ⟨⟨⟨A,cap,rfl,hA⟩,hf1⟩,hwt⟩
 have hx1:=hx0.keep hf1 (fun x=>x)
 generalize hr:aM l=r at*
 have Hr:=Lib.hid hr
 clear hr
 have hin:=Lib.hid (Ce r.1 A cap)
 have hon:=Lib.hid (wW r.1 A cap)
 have hsz:=Lib.hid (rI r.1 A cap)
 generalize hc:tL r.1 A cap=c at*
 have Hc:=Lib.hid hc
 clear hc
 go_wp2_with ((refine aN rfl 123 (.tmp 2) (.tmp 6) rfl w.heap.size _ _ c rfl rfl hx1 hsz.out hin.out hon.out ?_);intro w9 hx9 hf9)
 refine bodyPost_ret (aX Tryz.results56 _ w9 w.heap.size _ c _ _ rfl rfl hx9 Tryz.underlying123 rfl hin.out) rfl ?_
 refine⟨⟨⟨A,cap,by rw[Hr.out,Hc.out];rfl,?_⟩,(hf0.none hf1).trans' hf9 (fun b hb e=>by unfold aI at e;omega)⟩,by rw[Hr.out];exact hwt⟩
 rw[Hr.out]
 exact(hA.keep (hf9.mono fun b hb e=>by unfold aI at e;have:=Hsz.out;omega)).sub (fun b hb h=>by have:=Hsz.out;omega)
end Go.Proofs.YtcbkaiakdhiloacGreatDoor
namespace Go.Proofs.YtcbkaiakdhiloacGreatDoor
open Go.RowKit Go.Proofs
attribute [local simp] dM ibq ibn eqN ltN leN eqL ltL gtL leL geL
theorem G2 (l:List UInt8) (i:Nat):num (sub l i (i+2))<65536:=by
 have h:=BR (sub l i (i+2))
 have h2:(sub l i (i+2)).length≤2:=by unfold sub;rw[List.length_drop,List.length_take];omega
 exact Nat.lt_of_lt_of_le h (by
  have:(256:Nat)^(sub l i (i+2)).length≤256^2:=Nat.pow_le_pow_right (by decide) h2
  omega)
theorem pW (l:List UInt8):(aM l).1.op<65536∧(aM l).1.block<65536∧(aM l).1.data.length≤1024:=by
 unfold aM
 have h:num (sub l 2 4)<65536:=G2 l 2
 have hd:(l.drop 4).length=l.length-4:=List.length_drop ..
 repeat' split
 all_goals(refine⟨?_,?_,?_⟩<;>simp[zW]<;>omega)
def St.loadsP (s:St) (fm:Nat) (ld:List UInt8):St:=if(aM ld).2=0 then s.loads fm (aM ld).1 else s
theorem CD (L:Lay) (s:St) (fm tp:Nat) (ld:List UInt8) (w:World) (h:aA w L s) (hfm:fm<65536) (htp:tp<65536) (hld:ld.length≤1048576) (hph:s.phase=1∨s.phase=2) (hnx1:s.next≤s.image.length+1):
 Calls Tryz.prog 132 #[.pointer (some ⟨L.p,0,none⟩),.agg #[.int .u16 (fm:Int),.int .u16 (tp:Int),.string (bs ld)]] w (bC L (s.loadsP fm ld) (.tuple #[]) w):=by
 have hin:=pW ld
 obtain⟨r,hr⟩:∃r,r=s.loadsP fm ld:=⟨_,rfl⟩
 rw[←hr]
 unfold St.loadsP at hr
 refine en Tryz.func132 Tryz.ntmps132 ?_
 refine W ?_
 refine sA ?_
 intro w1 hU f1
 refine W ?_
 refine sX (Cz ld w1 (by omega) (h.gb.tabs.none f1)) ?_
 rintro e w2 ⟨⟨⟨A,cap,rfl,hS⟩,f2⟩,hwf⟩
 refine⟨_,rfl,?_⟩
 have hU:=hU.keep f2 id
 have f2:=f1.none f2
 have hu:¬bM L w.heap.size:=fun x=>Nat.lt_irrefl _ (h.lt _ x)
 have hlt:=f2.size
 have hlt0:=f1.size
 have ho:=fun b hb=>h.lt b hb
 have h:=h.none f2
 generalize w.heap.size=gu at*
 generalize aM ld=q at*
 obtain⟨⟨op,bk,tx,dt,fs⟩,k⟩:=q
 unfold tL
 dsimp only at hr hin hS hwf⊢
 refine W ?_
 refine sA ?_
 intro w3 hT f3
 refine W ?_
 refine sT ?_
 intro w4 hT f4
 have f4:=bP f3 (Nat.le_refl _) f4
 have h:=h.none f4
 have hU:=hU.keep f4 id
 have hS:SlR w4 (bM L) 2 A fs.length (gJ fs):=(hS.sub (T:=bM L) (fun b _ x=>Nat.lt_of_lt_of_le (ho b x) hlt0)).keep (f4.of_no _)
 have hg:¬bM L w2.heap.size:=fun x=>absurd (ho _ x) (by omega)
 have f:=f2.none f4
 generalize w2.heap.size=g at*
 clear f1 f2 f3 f4 hlt hlt0 ho
 by_cases hk:k=0
 rotate_left
 ·refine W ?_
  exact bH.two ⟨rfl,by rw[hr,if_neg hk];exact h,f.of_no _⟩
 subst hk
 rw[if_pos rfl]at hr
 unfold St.loads at hr
 refine W ?_
 obtain⟨b,hb⟩:∃b,b=decide (s.phase=2∧fm≠s.peer):=⟨_,rfl⟩
 refine cM [0,3,4] [(30,.bool b)] (fun w'=>aA w' L s∧Bk w' gu 57 #[.int .u16 (fm:Int),.int .u16 (tp:Int),.string (bs ld)]∧Bk w' g 123 #[.int .u16 (op:Int),.int .u16 (bk:Int),.string (bs tx),.string (bs dt),.slice A fs.length cap]∧SlR w' (bM L) 2 A fs.length (gJ fs)∧Fr noB w w') ?_ ?_
 ·refine dI (An h (An hU (An hT (An hS f)))) [] (up 16 0) (h:= ?_)
  intro w5 h5 _
  by_cases a1:s.phase=2<;>by_cases a2:fm=s.peer<;>refine D ?_<;>refine tN ?_<;>exact mt h5
 clear h hU hT hS f
 rintro u w5 ⟨h,hU,hT,hS,f⟩
 cases b
 rotate_left
 ·rw[if_pos (of_decide_eq_true hb.symm)]at hr
  clear hb
  by_cases o5:op=5
  ·refine W ?_
   exact bH.two ⟨rfl,by rw[hr,if_pos o5];exact h,f.of_no _⟩
  ·refine W ?_
   refine sC (cN L s fm 5 St.ePort w5 h hfm (by decide) (by decide)) ?_
   rintro w6 ⟨h6,f6⟩
   refine W ?_
   exact bH.two ⟨rfl,by rw[hr,if_neg o5];exact h6,(f.of_no _).trans f6⟩
 rw[if_neg (of_decide_eq_false hb.symm)]at hr
 clear hb
 have h2:¬s.phase=2→s.phase=1:=fun x=>hph.resolve_right x
 clear hph
 by_cases o5:op=5
 ·refine W ?_
  refine sC (bX L s w5 h) ?_
  intro w6 h6
  refine W ?_
  exact .comp (L1:=L) rfl (fun _=> .inl) (f.of_no _) ⟨rfl,by rw[hr,if_pos o5];exact h6⟩
 rw[if_neg o5]at hr
 by_cases hp:s.phase=2
 ·have hp1:¬s.phase=1:=by omega
  rw[if_pos hp]at hr
  by_cases o3:op=3
  ·subst o3
   refine W ?_
   refine sC (xQ L s 3 bk tx dt fs A cap fs.length w5 h hin.2.1 hin.2.2 hnx1) ?_
   intro w6 h6
   refine W ?_
   exact .comp (L1:=L) rfl (fun _=> .inl) (f.of_no _) ⟨rfl,by rw[hr,if_pos rfl];exact h6⟩
  rw[if_neg o3]at hr
  by_cases o6:op=6<;>refine W ?_<;>exact bH.two ⟨rfl,by rw[hr];exact h,f.of_no _⟩
 rw[if_neg hp]at hr
 have hp:=h2 hp
 by_cases o3:op=3
 ·subst o3
  rw[if_pos rfl]at hr
  by_cases hb1:bk=1
  ·subst hb1
   rw[if_pos rfl]at hr
   refine W ?_
   refine sB {s with phase:=2} {h.ok with} h ?_
   intro w6 h6 f6
   have hU6:=hU.keep f6 hu
   have hT6:=hT.keep f6 hg
   refine W ?_
   refine sB {s with phase:=2,peer:=fm} {h6.ok with peer:=hfm} h6 ?_
   intro w7 h7 f7
   have hT7:=hT6.keep f7 hg
   clear h h6 hU hT hU6 hT6
   refine W ?_
   refine sC (xQ L _ 3 1 tx dt fs A cap fs.length w7 h7 hin.2.1 hin.2.2 hnx1) ?_
   intro w8 h8
   refine W ?_
   exact .comp (L1:=L) rfl (fun _=> .inl) (((f.of_no _).trans f6).trans f7) ⟨rfl,by rw[hr];exact h8⟩
  ·refine W ?_
   exact bH.two ⟨rfl,by rw[hr,if_neg hb1];exact h,f.of_no _⟩
 rw[if_neg o3]at hr
 by_cases o6:op=6
 ·refine W ?_
  refine sC (Dx L s fm fs A cap fs.length w5 h hfm rfl hS (by omega)) ?_
  intro w6 h6
  refine W ?_
  exact .comp (L1:=L) rfl (fun _=> .inl) (f.of_no _) ⟨rfl,by rw[hr,if_pos o6];exact h6⟩
 ·refine W ?_
  exact bH.two ⟨rfl,by rw[hr,if_neg o6];exact h,f.of_no _⟩
end Go.Proofs.YtcbkaiakdhiloacGreatDoor
namespace Go.Proofs.YtcbkaiakdhiloacGreatDoor
open Go.RowKit Go.Proofs
attribute [local go_sem] aG aD gK aE
theorem qM (x:Di):(Bl x).size=(rdZ 0).size:=rfl
theorem Ca (x:Di):(Bl x).all (·.oneCell')=true:=by kernel_rfl
theorem Cf (x:Di):(Tryz.prog.info? 114).map (·.size)=some (Bl x).size:=by rw[qM];kernel_rfl
theorem mT (l:List UInt8) (w:World) (hl:l.length≤9223372036854775807):
 Calls Tryz.prog 102 #[.string (bs l)] w (Bf l w):=by
 go_enter Tryz.func102,Tryz.ntmps102
 go_wp2_with fail
 have hx0:=Bk.new w 114 (rdZ 0)
 have hf0:Fr noB w (w.alloc (.cells (rdZ 0) 114)):=(Fr.refl _ _).alloc _
 simp only[rdZ]at hx0 hf0
 generalize w.alloc (.cells #[.int .u16 0,.int .u8 0,.int .u8 0,.int .u8 0,.int .u8 0,.int .u8 0,.int .u8 0,.int .u32 0,.int .u8 0,.int .u8 0,.int .u8 0,.int .u8 0,.int .u8 0,.int .u8 0,.int .u32 0] 114)=w1 at*
 refine(Iz l _ hl).mono ?_
 rintro e w2 ⟨rfl,hf1⟩
 have hx1:=hx0.keep hf1 (fun x=>x)
 have hsz:=Lib.hid (qM (bE l).1)
 have hin:=Lib.hid (Cf (bE l).1)
 have hon:=Lib.hid (Ca (bE l).1)
 generalize hr:bE l=r at*
 have Hr:=Lib.hid hr
 clear hr
 generalize hc:Bl r.1=c at*
 have Hc:=Lib.hid hc
 clear hc
 go_wp2_with ((refine aN rfl 114 (.tmp 2) (.tmp 6) rfl w.heap.size _ _ c rfl rfl hx1 hsz.out hin.out hon.out ?_);intro w9 hx9 hf9)
 refine bodyPost_ret (aX Tryz.results102 _ w9 w.heap.size _ c _ _ rfl rfl hx9 Tryz.underlying114 rfl hin.out) rfl ?_
 exact⟨by rw[Hr.out,Hc.out];rfl,(hf0.none hf1).trans' hf9 (fun b hb e=>by unfold aI at e;omega)⟩
theorem AO (l:List UInt8) (w:World) (hl:l.length≤9223372036854775807):
 Calls Tryz.prog 52 #[.string (bs l)] w (Bf l w):=by
 go_enter Tryz.func52,Tryz.ntmps52
 go_wp2_with fail
 have hx0:=Bk.new w 114 (rdZ 0)
 have hf0:Fr noB w (w.alloc (.cells (rdZ 0) 114)):=(Fr.refl _ _).alloc _
 simp only[rdZ]at hx0 hf0
 generalize w.alloc (.cells #[.int .u16 0,.int .u8 0,.int .u8 0,.int .u8 0,.int .u8 0,.int .u8 0,.int .u8 0,.int .u32 0,.int .u8 0,.int .u8 0,.int .u8 0,.int .u8 0,.int .u8 0,.int .u8 0,.int .u32 0] 114)=w1 at*
 refine(mT l _ hl).mono ?_
 rintro e w2 ⟨rfl,hf1⟩
 have hx1:=hx0.keep hf1 (fun x=>x)
 have hsz:=Lib.hid (qM (bE l).1)
 have hin:=Lib.hid (Cf (bE l).1)
 have hon:=Lib.hid (Ca (bE l).1)
 generalize hr:bE l=r at*
 have Hr:=Lib.hid hr
 clear hr
 generalize hc:Bl r.1=c at*
 have Hc:=Lib.hid hc
 clear hc
 go_wp2_with ((refine aN rfl 114 (.tmp 2) (.tmp 6) rfl w.heap.size _ _ c rfl rfl hx1 hsz.out hin.out hon.out ?_);intro w9 hx9 hf9)
 refine bodyPost_ret (aX Tryz.results52 _ w9 w.heap.size _ c _ _ rfl rfl hx9 Tryz.underlying114 rfl hin.out) rfl ?_
 exact⟨by rw[Hr.out,Hc.out];rfl,(hf0.none hf1).trans' hf9 (fun b hb e=>by unfold aI at e;omega)⟩
end Go.Proofs.YtcbkaiakdhiloacGreatDoor
namespace Go.Proofs.YtcbkaiakdhiloacGreatDoor
open Go.RowKit Go.Proofs
attribute [local simp] dM Bl ibq ibn eqN ltN leN eqL ltL gtL leL geL
attribute [local go_sem] aG aD aC aE
theorem gP (l:List UInt8) (i j n:Nat) (hn:j-i=n):num (sub l i j)<256^n:=by
 have h:=BR (sub l i j)
 have h2:(sub l i j).length≤n:=by unfold sub;rw[List.length_drop,List.length_take];omega
 exact Nat.lt_of_lt_of_le h (Nat.pow_le_pow_right (by decide) h2)
theorem tP (l:List UInt8):(bE l).1.op<65536∧(bE l).1.fi<4294967296∧(bE l).1.ti<4294967296:=by
 unfold bE
 have h1:=gP l 6 8 2 rfl
 have h2:=gP l 14 18 4 rfl
 have h3:=gP l 24 28 4 rfl
 repeat' split
 all_goals(refine⟨?_,?_,?_⟩<;>simp[IS]<;>omega)
theorem BO (s:St) (a:Di) (m:Bool):s.learn a m=if fH s.cache a.fi=[]then {s with cache:=gV s.cache a.fi a.fm m s.now}else({s with cache:=gV s.cache a.fi a.fm m s.now}:St).send a.fm 2048 (fH s.cache a.fi):=by
 unfold St.learn fH gV
 cases oT s.cache a.fi with
 |none=>
  dsimp only
  rw[if_pos rfl]
  cases m<;>simp
 |some o=>rfl
theorem D8 {s:St} {ip:Nat} {card:Mac} {m:Bool} (h:s.Ok):({s with cache:=gV s.cache ip card m s.now}:St).Ok:=by
 have hw:=Is h.now0 h.now1 60 (by omega)
 have n1:=h.now1
 have n0:=h.now0
 have key:(∀e∈gV s.cache ip card m s.now,e.waits.length≤1500∧0≤e.due∧e.due≤4611686018427388000)∧(gV s.cache ip card m s.now).length≤4:=by
  unfold gV
  split
  ·split
   ·refine⟨fun e he=> ?_,Af h.cache⟩
    rcases yW he with rfl|he
    ·exact⟨by simp,by simp only[hw];omega,by simp only[hw];omega⟩
    ·exact⟨h.waits e he,h.dues e he⟩
   ·exact⟨fun e he=>⟨h.waits e he,h.dues e he⟩,h.cache⟩
  ·refine⟨fun e he=> ?_,by rw[uL];exact h.cache⟩
   rcases tY he with he|⟨y,hy,rfl⟩
   ·exact⟨h.waits e he,h.dues e he⟩
   ·exact⟨by simp,by simp only[hw];omega,by simp only[hw];omega⟩
 exact {h with waits:=fun e he=>(key.1 e he).1,dues:=fun e he=>(key.1 e he).2,cache:=key.2}
theorem zP {s:St} {ip:Nat} (h:s.Ok):(fH s.cache ip).length≤1500:=by
 unfold fH
 split
 ·simp
 ·next e he=>exact h.waits e (jD he).1
def St.arpP (s:St) (ld:List UInt8):St:=if(bE ld).2=0 then s.arped (bE ld).1 else s
attribute [-go_sem] run_eql_struct run_neq_struct run_equalIn_agg in
theorem De (L:Lay) (s:St) (ld:List UInt8) (w:World) (h:aA w L s) (hld:ld.length≤9223372036854775807):
 Calls Tryz.prog 70 #[.pointer (some ⟨L.p,0,none⟩),.string (bs ld)] w (bC L (s.arpP ld) (.tuple #[]) w):=by
 have hin:=tP ld
 obtain⟨r,hr⟩:∃r,r=s.arpP ld:=⟨_,rfl⟩
 rw[←hr]
 unfold St.arpP at hr
 refine en Tryz.func70 Tryz.ntmps70 ?_
 refine W ?_
 refine sC (mT ld w hld) ?_
 intro w1 f1
 generalize bE ld=q at*
 obtain⟨x,k⟩:=q
 dsimp only at hin hr⊢
 refine W ?_
 refine sA ?_
 intro w2 hG f2
 refine W ?_
 refine sT ?_
 intro w3 hG f3
 have f:=f1.none (bP f2 (Nat.le_refl _) f3)
 have hg:¬bM L w1.heap.size:=fun hx=>absurd (h.lt _ hx) (by have:=f1.size;omega)
 have hok:=h.ok
 have h:=h.none f
 generalize w1.heap.size=g at*
 clear f1 f2 f3
 by_cases hk:k=0
 rotate_left
 ·refine W ?_
  exact bH.two ⟨rfl,by rw[hr,if_neg hk];exact h,f.of_no _⟩
 subst hk
 rw[if_pos rfl]at hr
 unfold St.arped at hr
 refine W ?_
 obtain⟨b,hb⟩:∃b,b=decide (s.lease=3∧x.fi=s.addr∧x.fm≠s.c.card):=⟨_,rfl⟩
 refine cM [0,4] [(40,.bool b)] (fun w'=>aA w' L s∧Bk w' g 114 (Bl x)∧Fr noB w w') ?_ ?_
 ·have hE:=mH x.fm s.c.card
  have hGd:=iA
  unfold xF at hE
  obtain⟨c,hc⟩:∃c,c=decide (x.fm≠s.c.card):=⟨_,rfl⟩
  replace hb:b=decide (s.lease=3∧x.fi=s.addr∧c=true):=by rw[hb,hc];simp only[decide_eq_true_eq]
  rw[←hc]at hE
  clear hc hr hin
  refine dI (An h (An hG f)) [] (up 26 0) (h:= ?_)
  clear h hG f
  intro w5 h5 _
  cases c<;>by_cases a1:s.lease=3<;>by_cases a2:x.fi=s.addr<;>refine D ?_<;>refine tN ?_<;>exact mt h5
 clear h hG f
 rintro u w4 ⟨h,hG,f⟩
 cases b
 rotate_left
 ·rw[if_pos (of_decide_eq_true hb.symm)]at hr
  clear hb
  refine W ?_
  refine sC (zL L s w4 h) ?_
  intro w5 h5
  refine W ?_
  exact .comp (L1:=L) rfl (fun _=> .inl) (f.of_no _) ⟨rfl,by rw[hr];exact h5⟩
 rw[if_neg (of_decide_eq_false hb.symm)]at hr
 clear hb
 refine W ?_
 obtain⟨m,hm⟩:∃m,m=(s.address !=0&&x.ti==s.address):=⟨_,rfl⟩
 replace hr:r=if m&&x.op==1 then St.arp (if x.fi≠0∧x.fi≠s.address then s.learn x (m&&x.op==1)else s) 2 x.fm x.fm (St.address (if x.fi≠0∧x.fi≠s.address then s.learn x (m&&x.op==1)else s)) x.fi else(if x.fi≠0∧x.fi≠s.address then s.learn x (m&&x.op==1)else s):=by
  rw[hr];unfold St.asked;rw[←hm]
 refine cM [0,4] [(6,.bool m)] (fun w'=>aA w' L s∧Bk w' g 114 (Bl x)∧Fr noB w w') ?_ ?_
 ·refine dI (An h (An hG f)) [] (up 11 0) (h:= ?_)
  clear h hG f
  intro w5 h5 _
  by_cases a1:s.address=0
  ·refine D ?_
   refine dC (bI L s w5 h5.1) ?_ ?_
   ·rintro _ rfl;exact h5
   rintro w6 rfl _
   refine D ?_
   refine tN ?_
   exact mt h5
  ·refine D ?_
   refine dC (bI L s w5 h5.1) ?_ ?_
   ·rintro _ rfl;exact h5
   rintro w6 rfl _
   refine D ?_
   refine dC (bI L s w5 h5.1) ?_ ?_
   ·rintro _ rfl;exact h5
   rintro w6 rfl _
   by_cases a2:x.ti=s.address<;>refine D ?_<;>refine tN ?_<;>exact mt h5
 clear h hG f
 rintro u w5 ⟨h,hG,f⟩
 clear hm
 refine cS ?_
 refine cM [0,4,6] [] (fun w'=>∃t,aA w' L t∧Bk w' g 114 (Bl x)∧Fr (bM L) w w'∧t=if x.fi≠0∧x.fi≠s.address then s.learn x (m&&x.op==1)else s) ?_ ?_
 ·clear hr
  obtain⟨b,hb⟩:∃b,b=decide (x.fi≠0∧x.fi≠s.address):=⟨_,rfl⟩
  refine cS ?_
  refine cM [0,4,6] [(62,.bool b)] (fun w'=>aA w' L s∧Bk w' g 114 (Bl x)∧Fr noB w w') ?_ ?_
  ·refine dI (An h (An hG f)) [] (up 10 0) (h:= ?_)
   clear h hG f
   intro w5 h5 _
   by_cases a1:x.fi=0
   ·refine D ?_
    refine tN ?_
    exact mt h5
   ·refine D ?_
    refine dC (bI L s w5 h5.1) ?_ ?_
    ·rintro _ rfl;exact h5
    rintro w6 rfl _
    by_cases a2:x.fi=s.address<;>refine D ?_<;>refine tN ?_<;>exact mt h5
  clear h hG f
  rintro u w5 ⟨h,hG,f⟩
  cases b
  ·replace hb:=of_decide_eq_false hb.symm
   refine cF rfl ?_
   refine W ?_
   exact mt ⟨s,h,hG,f.of_no _,by rw[if_neg hb]⟩
  replace hb:=of_decide_eq_true hb.symm
  refine cT rfl ?_
  rw[if_pos hb]
  clear hb
  refine cS ?_
  refine cM [0,4,6] [(7,.string (bs (fH s.cache x.fi)))] (fun w'=>aA w' L {s with cache:=gV s.cache x.fi x.fm (m&&x.op==1) s.now}∧Bk w' g 114 (Bl x)∧Fr (bM L) w w') ?_ ?_
  ·refine dI (An h (An hG f)) [17] (up 19 0) (h:= ?_)
   clear h hG f
   rintro w6 ⟨h,hG,f⟩ _
   have hne:=h.ne
   simp only[Lay.blocks,List.nodup_cons,List.mem_cons,List.not_mem_nil,or_false,not_or]at hne
   have hne:=hne.1.2.2.2.2
   cases m<;>refine D ?_<;>refine dD (CZ L.p 15 L.mp x.fi s.cache x.fm.1 x.fm.2.1 x.fm.2.2.1 x.fm.2.2.2.1 x.fm.2.2.2.2.1 x.fm.2.2.2.2.2 _ s.now w6 h.g15 (fun x=>hne x) h.mp h.ok.dues h.ok.cache hin.2.1) ?_<;>rintro w7 ⟨hm,f7⟩<;>refine D ?_<;>refine tN ?_<;>
    exact mt ⟨h.mpTurn f7 hm (D8 h.ok),hG.keep f7 (fun e=>hg (by obtain rfl:g=L.mp:=e;exact qX L)),(f.of_no _).trans (f7.mono fun b _ hb=>by obtain rfl:b=L.mp:=hb;exact qX L)⟩
  clear h hG f
  rintro u w6 ⟨h,hG,f⟩
  have hq:=BO s x (m&&x.op==1)
  have hql:=zP (ip:=x.fi) hok
  generalize fH s.cache x.fi=q at*
  by_cases hn:q=[]
  ·subst hn
   rw[if_pos rfl]at hq
   rw[show bs []=⟨#[]⟩from rfl]
   refine W ?_
   exact mt ⟨_,h,hG,f,hq.symm⟩
  ·rw[if_neg hn]at hq
   refine W ?_
   refine sC (kQ L _ x.fm.1 x.fm.2.1 x.fm.2.2.1 x.fm.2.2.2.1 x.fm.2.2.2.2.1 x.fm.2.2.2.2.2 2048 q w6 h (by decide) (by omega)) ?_
   rintro w7 ⟨h7,f7⟩
   refine W ?_
   exact mt ⟨_,h7,hG.keep f7 hg,f.trans f7,hq.symm⟩
 clear h hG f
 rintro u w6 ⟨t,h,hG,f,ht⟩
 rw[←ht]at hr
 clear ht
 cases m
 ·refine W ?_
  exact bH.two ⟨rfl,by rw[hr];exact h,f⟩
 by_cases o:x.op=1
 ·rw[o]at hr
  refine W ?_
  refine dI (An h hG) [9] [0,1,2,3,4,5,7,8,6,9] (h:= ?_)
  rintro w7 ⟨h7,hG7⟩ f7
  refine D ?_
  refine dC (bI L t w7 h7) ?_ ?_
  ·rintro _ rfl;exact⟨h7,hG7⟩
  rintro w8 rfl _
  refine D ?_
  have hadl:t.address<4294967296:=by unfold St.address;split;exact h.ok.addr;omega
  refine dD (Ct L t 2 t.address x.fi x.fm.1 x.fm.2.1 x.fm.2.2.1 x.fm.2.2.2.1 x.fm.2.2.2.2.1 x.fm.2.2.2.2.2 x.fm.1 x.fm.2.1 x.fm.2.2.1 x.fm.2.2.2.1 x.fm.2.2.2.2.1 x.fm.2.2.2.2.2 w7 h7 (by decide) hadl hin.2.1) ?_
  rintro w8 ⟨h8,f8⟩
  refine D ?_
  refine W ?_
  exact bH.two ⟨rfl,by rw[hr];exact h8,(f.trans (f7.of_no _)).trans f8⟩
 ·refine W ?_
  exact bH.two ⟨rfl,by rw[hr,if_neg (by simpa using o)];exact h,f⟩
end Go.Proofs.YtcbkaiakdhiloacGreatDoor
namespace Go.Proofs.YtcbkaiakdhiloacGreatDoor
open Go.RowKit Go.Proofs
attribute [local go_sem] aG aD gK aE
theorem xA (x:IpD):(ipC x).size=(rdZ 2).size:=rfl
theorem DV (x:IpD):(ipC x).all (·.oneCell')=true:=by kernel_rfl
theorem Eb (x:IpD):(Tryz.prog.info? 53).map (·.size)=some (ipC x).size:=by rw[xA];kernel_rfl
theorem oY (l:List UInt8) (w:World) (hl:l.length≤9223372036854775807):
 Calls Tryz.prog 49 #[.string (bs l)] w (E8 l w):=by
 go_enter Tryz.func49,Tryz.ntmps49
 have hmf:∀(fn:Fn) (first cap:Array Value) (w:World),(Instr.makeFunc fn first cap).run Tryz.prog w= .ok (.func fn first cap) w:=fun _ _ _ _=>rfl
 go_wp2_with fail
 have hs0:=(Bk.new w 9 #[.string (bs l)]).alloc (.cells (rdZ 2) 53)
 have hx0:=Bk.new (w.alloc (.cells #[.string (bs l)] 9)) 53 (rdZ 2)
 rw[show(w.alloc (.cells #[.string (bs l)] 9)).heap.size=w.heap.size+1 by simp]at hx0
 have hf0:Fr noB w ((w.alloc (.cells #[.string (bs l)] 9)).alloc (.cells (rdZ 2) 53)):=((Fr.refl _ _).alloc _).alloc _
 simp only[rdZ]at hs0 hx0 hf0
 generalize(w.alloc (.cells #[.string (bs l)] 9)).alloc (.cells #[.int .u16 0,.int .u8 0,.int .u8 0,.int .u32 0,.int .u32 0,.string ⟨#[]⟩] 53)=w1 at*
 refine(J6 l w.heap.size _ hs0 hl).mono ?_
 rintro e w2 ⟨rfl,hf1⟩
 have hx1:=hx0.keep hf1 (fun x=>x)
 have hsz:=Lib.hid (xA (aW l).1)
 have hin:=Lib.hid (Eb (aW l).1)
 have hon:=Lib.hid (DV (aW l).1)
 generalize hr:aW l=r at*
 have Hr:=Lib.hid hr
 clear hr
 generalize hc:ipC r.1=c at*
 have Hc:=Lib.hid hc
 clear hc
 go_wp2_with ((refine aN rfl 53 (.tmp 2) (.tmp 7) rfl (w.heap.size+1) _ _ c rfl rfl hx1 hsz.out hin.out hon.out ?_);intro w9 hx9 hf9)
 refine bodyPost_ret (aX Tryz.results49 _ w9 (w.heap.size+1) _ c _ _ rfl rfl hx9 Tryz.underlying53 rfl hin.out) rfl ?_
 exact⟨by rw[Hr.out,Hc.out];rfl,(hf0.none hf1).trans' hf9 (fun b hb e=>by unfold aI at e;omega)⟩
theorem tZ (l:List UInt8) (w:World) (hl:l.length≤9223372036854775807):
 Calls Tryz.prog 20 #[.string (bs l)] w (E8 l w):=by
 go_enter Tryz.func20,Tryz.ntmps20
 go_wp2_with fail
 have hx0:=Bk.new w 53 (rdZ 2)
 have hf0:Fr noB w (w.alloc (.cells (rdZ 2) 53)):=(Fr.refl _ _).alloc _
 simp only[rdZ]at hx0 hf0
 generalize w.alloc (.cells #[.int .u16 0,.int .u8 0,.int .u8 0,.int .u32 0,.int .u32 0,.string ⟨#[]⟩] 53)=w1 at*
 refine(oY l _ hl).mono ?_
 rintro e w2 ⟨rfl,hf1⟩
 have hx1:=hx0.keep hf1 (fun x=>x)
 have hsz:=Lib.hid (xA (aW l).1)
 have hin:=Lib.hid (Eb (aW l).1)
 have hon:=Lib.hid (DV (aW l).1)
 generalize hr:aW l=r at*
 have Hr:=Lib.hid hr
 clear hr
 generalize hc:ipC r.1=c at*
 have Hc:=Lib.hid hc
 clear hc
 go_wp2_with ((refine aN rfl 53 (.tmp 2) (.tmp 6) rfl w.heap.size _ _ c rfl rfl hx1 hsz.out hin.out hon.out ?_);intro w9 hx9 hf9)
 refine bodyPost_ret (aX Tryz.results20 _ w9 w.heap.size _ c _ _ rfl rfl hx9 Tryz.underlying53 rfl hin.out) rfl ?_
 exact⟨by rw[Hr.out,Hc.out];rfl,(hf0.none hf1).trans' hf9 (fun b hb e=>by unfold aI at e;omega)⟩
end Go.Proofs.YtcbkaiakdhiloacGreatDoor
namespace Go.Proofs.YtcbkaiakdhiloacGreatDoor
open Go.RowKit Go.Proofs
attribute [local go_sem] aG aD gK aE
theorem rN (x:DB):(Dn x).size=(rdZ 3).size:=rfl
theorem Ch (x:DB):(Dn x).all (·.oneCell')=true:=by kernel_rfl
theorem Cu (x:DB):(Tryz.prog.info? 57).map (·.size)=some (Dn x).size:=by rw[rN];kernel_rfl
theorem mR (l:List UInt8) (fi ti:Nat) (w:World) (hfi:fi<4294967296) (hti:ti<4294967296) (hl:l.length≤9223372036854775807):
 Calls Tryz.prog 50 #[.string (bs l),.int .u32 (fi:Int),.int .u32 (ti:Int)] w (Bu l fi ti w):=by
 go_enter Tryz.func50,Tryz.ntmps50
 have hmf:∀(fn:Fn) (first cap:Array Value) (w:World),(Instr.makeFunc fn first cap).run Tryz.prog w= .ok (.func fn first cap) w:=fun _ _ _ _=>rfl
 go_wp2_with fail
 have hs0:=(((Bk.new w 9 #[.string (bs l)]).alloc (.cells #[.int .u32 (fi:Int)] 38)).alloc (.cells #[.int .u32 (ti:Int)] 38)).alloc (.cells (rdZ 3) 57)
 have hi0:=((Bk.new (w.alloc (.cells #[.string (bs l)] 9)) 38 #[.int .u32 (fi:Int)]).alloc (.cells #[.int .u32 (ti:Int)] 38)).alloc (.cells (rdZ 3) 57)
 have ht0:=(Bk.new ((w.alloc (.cells #[.string (bs l)] 9)).alloc (.cells #[.int .u32 (fi:Int)] 38)) 38 #[.int .u32 (ti:Int)]).alloc (.cells (rdZ 3) 57)
 have hx0:=Bk.new (((w.alloc (.cells #[.string (bs l)] 9)).alloc (.cells #[.int .u32 (fi:Int)] 38)).alloc (.cells #[.int .u32 (ti:Int)] 38)) 57 (rdZ 3)
 simp only[World.size_alloc]at hs0 hi0 ht0 hx0
 have hf0:Fr noB w ((((w.alloc (.cells #[.string (bs l)] 9)).alloc (.cells #[.int .u32 (fi:Int)] 38)).alloc (.cells #[.int .u32 (ti:Int)] 38)).alloc (.cells (rdZ 3) 57)):=((((Fr.refl _ _).alloc _).alloc _).alloc _).alloc _
 simp only[rdZ]at hs0 hi0 ht0 hx0 hf0
 generalize(((w.alloc (.cells #[.string (bs l)] 9)).alloc (.cells #[.int .u32 (fi:Int)] 38)).alloc (.cells #[.int .u32 (ti:Int)] 38)).alloc (.cells #[.int .u16 0,.int .u16 0,.string ⟨#[]⟩] 57)=w1 at*
 refine(IZ l fi ti w.heap.size (w.heap.size+1) (w.heap.size+1+1) _ hfi hti hs0 hi0 ht0 hl).mono ?_
 rintro e w2 ⟨rfl,hf1⟩
 have hx1:=hx0.keep hf1 (fun x=>x)
 have hsz:=Lib.hid (rN (bA l fi ti).1)
 have hin:=Lib.hid (Cu (bA l fi ti).1)
 have hon:=Lib.hid (Ch (bA l fi ti).1)
 generalize hr:bA l fi ti=r at*
 have Hr:=Lib.hid hr
 clear hr
 generalize hc:Dn r.1=c at*
 have Hc:=Lib.hid hc
 clear hc
 go_wp2_with ((refine aN rfl 57 (.tmp 6) (.tmp 11) rfl (w.heap.size+1+1+1) _ _ c rfl rfl hx1 hsz.out hin.out hon.out ?_);intro w9 hx9 hf9)
 refine bodyPost_ret (aX Tryz.results50 _ w9 (w.heap.size+1+1+1) _ c _ _ rfl rfl hx9 Tryz.underlying57 rfl hin.out) rfl ?_
 exact⟨by rw[Hr.out,Hc.out];rfl,(hf0.none hf1).trans' hf9 (fun b hb e=>by unfold aI at e;omega)⟩
theorem rP (l:List UInt8) (fi ti:Nat) (w:World) (hfi:fi<4294967296) (hti:ti<4294967296) (hl:l.length≤9223372036854775807):
 Calls Tryz.prog 21 #[.string (bs l),.int .u32 (fi:Int),.int .u32 (ti:Int)] w (Bu l fi ti w):=by
 go_enter Tryz.func21,Tryz.ntmps21
 go_wp2_with fail
 have hx0:=Bk.new w 57 (rdZ 3)
 have hf0:Fr noB w (w.alloc (.cells (rdZ 3) 57)):=(Fr.refl _ _).alloc _
 simp only[rdZ]at hx0 hf0
 generalize w.alloc (.cells #[.int .u16 0,.int .u16 0,.string ⟨#[]⟩] 57)=w1 at*
 refine(mR l fi ti _ hfi hti hl).mono ?_
 rintro e w2 ⟨rfl,hf1⟩
 have hx1:=hx0.keep hf1 (fun x=>x)
 have hsz:=Lib.hid (rN (bA l fi ti).1)
 have hin:=Lib.hid (Cu (bA l fi ti).1)
 have hon:=Lib.hid (Ch (bA l fi ti).1)
 generalize hr:bA l fi ti=r at*
 have Hr:=Lib.hid hr
 clear hr
 generalize hc:Dn r.1=c at*
 have Hc:=Lib.hid hc
 clear hc
 go_wp2_with ((refine aN rfl 57 (.tmp 6) (.tmp 12) rfl (w.heap.size) _ _ c rfl rfl hx1 hsz.out hin.out hon.out ?_);intro w9 hx9 hf9)
 refine bodyPost_ret (aX Tryz.results21 _ w9 (w.heap.size) _ c _ _ rfl rfl hx9 Tryz.underlying57 rfl hin.out) rfl ?_
 exact⟨by rw[Hr.out,Hc.out];rfl,(hf0.none hf1).trans' hf9 (fun b hb e=>by unfold aI at e;omega)⟩
end Go.Proofs.YtcbkaiakdhiloacGreatDoor
namespace Go.Proofs.YtcbkaiakdhiloacGreatDoor
open Go.RowKit Go.Proofs
attribute [local simp] dM ipC Dn ibq ibn eqN ltN leN eqL ltL gtL leL geL
theorem Bt (l:List UInt8) (i j:Nat):(sub l i j).length≤l.length:=by unfold sub;rw[List.length_drop,List.length_take];omega
theorem rX (l:List UInt8):(aW l).1.fm<4294967296∧(aW l).1.«to»<4294967296∧(aW l).1.pr<256∧(aW l).1.by'.length≤l.length:=by
 unfold aW
 have h2:=gP l 12 16 4 rfl
 have h3:=gP l 16 20 4 rfl
 have h4:=gP l 9 10 1 rfl
 have h5:=Bt l 20 (num (sub l 2 4))
 repeat' split
 all_goals(refine⟨?_,?_,?_,?_⟩<;>simp[ip0]<;>omega)
theorem vD (l:List UInt8) (fi ti:Nat):(bA l fi ti).1.fm<65536∧(bA l fi ti).1.tp<65536∧(bA l fi ti).1.ld.length≤l.length:=by
 unfold bA
 have h2:=gP l 0 2 2 rfl
 have h3:=gP l 2 4 2 rfl
 have h5:=Bt l 8 (num (sub l 4 6))
 repeat' split
 all_goals(refine⟨?_,?_,?_⟩<;>simp[DS]<;>omega)
def St.wants (s:St) (p:IpD) (y:DB):Prop:=s.busy=true∧s.address≠0∧p.«to»=s.address∧p.fm=s.source∧y.tp=s.port
instance (s:St) (p:IpD) (y:DB):Decidable (s.wants p y):=by unfold St.wants;infer_instance
def St.dgramP (s:St) (ld:List UInt8):St:=
 if(aW ld).2≠0∨(aW ld).1.pr≠17 then s
 else if(bA (aW ld).1.by' (aW ld).1.fm (aW ld).1.«to»).2≠0 then s
 else if(bA (aW ld).1.by' (aW ld).1.fm (aW ld).1.«to»).1.tp=68 then s.leasedP (bA (aW ld).1.by' (aW ld).1.fm (aW ld).1.«to»).1.ld
 else if s.wants (aW ld).1 (bA (aW ld).1.by' (aW ld).1.fm (aW ld).1.«to»).1 then s.loadsP (bA (aW ld).1.by' (aW ld).1.fm (aW ld).1.«to»).1.fm (bA (aW ld).1.by' (aW ld).1.fm (aW ld).1.«to»).1.ld
 else s
theorem C3 (L:Lay) (s:St) (ld:List UInt8) (w:World) (h:aA w L s) (hld:ld.length≤1048576) (hnx:(s.phase=1∨s.phase=2)→s.next≤s.image.length+1):
 Calls Tryz.prog 71 #[.pointer (some ⟨L.p,0,none⟩),.string (bs ld)] w (bC L (s.dgramP ld) (.tuple #[]) w):=by
 have hin:=rX ld
 obtain⟨r,hr⟩:∃r,r=s.dgramP ld:=⟨_,rfl⟩
 rw[←hr]
 unfold St.dgramP at hr
 refine en Tryz.func71 Tryz.ntmps71 ?_
 refine W ?_
 refine sC (oY ld w (by omega)) ?_
 intro w1 f1
 generalize aW ld=q at*
 obtain⟨x,k⟩:=q
 dsimp only at hin hr⊢
 refine W ?_
 refine sA ?_
 intro w2 hG f2
 refine W ?_
 refine sT ?_
 intro w3 hG f3
 have f:=f1.none (bP f2 (Nat.le_refl _) f3)
 replace h:=h.none f
 generalize w1.heap.size=g at*
 clear f1 f2 f3
 by_cases hx:k≠0∨x.pr≠17
 ·rw[if_pos hx]at hr
  by_cases a1:k=0
  ·have a2:¬x.pr=17:=by omega
   clear hx
   refine W ?_
   exact bH.two ⟨rfl,by rw[hr];exact h,f.of_no _⟩
  ·clear hx
   refine W ?_
   exact bH.two ⟨rfl,by rw[hr];exact h,f.of_no _⟩
 rw[if_neg hx]at hr
 obtain⟨rfl,a2⟩:k=0∧x.pr=17:=by omega
 clear hx
 refine W ?_
 refine sC (mR x.by' x.fm x.«to» w3 hin.1 hin.2.1 (by omega)) ?_
 intro w4 f4
 have hin2:=vD x.by' x.fm x.«to»
 replace h:=h.none f4
 have hG4:=hG.keep f4 id
 generalize bA x.by' x.fm x.«to»=q at*
 obtain⟨y,k⟩:=q
 dsimp only at hin2 hr⊢
 refine W ?_
 refine sA ?_
 intro w5 hU f5
 refine W ?_
 refine sT ?_
 intro w6 hU f6
 have f6:=bP f5 (Nat.le_refl _) f6
 replace f:=(f.none f4).none f6
 replace h:=h.none f6
 replace hG:=hG4.keep f6 id
 generalize w4.heap.size=gu at*
 clear f4 f5 f6 hG4
 by_cases a3:k=0
 rotate_left
 ·rw[if_pos a3]at hr
  refine W ?_
  exact bH.two ⟨rfl,by rw[hr];exact h,f.of_no _⟩
 subst a3
 rw[if_neg (fun e=>e rfl)]at hr
 by_cases a4:y.tp=68
 ·rw[if_pos a4]at hr
  refine W ?_
  refine sC (Br L s y.ld w6 h (by omega)) ?_
  intro w7 h7
  refine W ?_
  exact .comp (L1:=L) rfl (fun _=> .inl) (f.of_no _) ⟨rfl,by rw[hr];exact h7⟩
 rw[if_neg a4]at hr
 refine W ?_
 obtain⟨b,hb⟩:∃b,b=decide (s.wants x y):=⟨_,rfl⟩
 refine cM [0,6] [(40,.bool b)] (fun w'=>aA w' L s∧Bk w' gu 57 (Dn y)∧Fr noB w w') ?_ ?_
 ·unfold St.wants St.busy at hb
  refine dI (An h (An hU (An f hG))) [] (up 47 0) (h:= ?_)
  clear h hG hU f hr hin hin2
  intro w7 hS _
  by_cases a1:s.address=0
  ·refine D ?_
   refine dC (bI L s w7 hS.1) ?_ ?_
   ·rintro _ rfl;exact hS
   rintro w8 rfl _
   refine D ?_
   refine tN ?_
   exact mt ⟨hS.1,hS.2.1,hS.2.2.1⟩
  refine D ?_
  refine dC (bI L s w7 hS.1) ?_ ?_
  ·rintro _ rfl;exact hS
  rintro w8 rfl _
  refine D ?_
  refine dC (bI L s w7 hS.1) ?_ ?_
  ·rintro _ rfl;exact hS
  rintro w8 rfl _
  by_cases a2:x.«to»=s.address
  by_cases a3:x.fm=s.source
  by_cases a4:s.phase=1
  rotate_left
  by_cases a5:s.phase=2
  rotate_right 1
  all_goals
   try by_cases a6:y.tp=s.port
  all_goals
   refine D ?_
   refine tN ?_
   exact mt ⟨hS.1,hS.2.1,hS.2.2.1⟩
 clear h hG hU f
 rintro u w7 ⟨h,hU,f⟩
 cases b
 ·rw[if_neg (of_decide_eq_false hb.symm)]at hr
  clear hb
  refine W ?_
  exact bH.two ⟨rfl,by rw[hr];exact h,f.of_no _⟩
 replace hb:=of_decide_eq_true hb.symm
 rw[if_pos hb]at hr
 have hph:s.phase=1∨s.phase=2:=by have:=hb.1;unfold St.busy at this;simpa using this
 have hnx:=hnx hph
 clear hb
 refine W ?_
 refine sC (CD L s y.fm y.tp y.ld w7 h hin2.1 hin2.2.1 (by omega) hph hnx) ?_
 intro w8 h8
 refine W ?_
 exact .comp (L1:=L) rfl (fun _=> .inl) (f.of_no _) ⟨rfl,by rw[hr];exact h8⟩
end Go.Proofs.YtcbkaiakdhiloacGreatDoor
namespace Go.Proofs.YtcbkaiakdhiloacGreatDoor
open Go.RowKit Go.Proofs
attribute [local go_sem] aG aD gK aE
theorem qQ (x:IB):(Da x).size=(rdZ 1).size:=rfl
theorem Cm (x:IB):(Da x).all (·.oneCell')=true:=by kernel_rfl
theorem Cr (x:IB):(Tryz.prog.info? 49).map (·.size)=some (Da x).size:=by rw[qQ];kernel_rfl
theorem kT (l:List UInt8) (w:World) (hl:l.length≤9223372036854775807):
 Calls Tryz.prog 48 #[.string (bs l)] w (Bn l w):=by
 go_enter Tryz.func48,Tryz.ntmps48
 go_wp2_with fail
 have hx0:=Bk.new w 49 (rdZ 1)
 have hf0:Fr noB w (w.alloc (.cells (rdZ 1) 49)):=(Fr.refl _ _).alloc _
 simp only[rdZ]at hx0 hf0
 generalize w.alloc (.cells #[.int .u8 0,.int .u8 0,.int .u8 0,.int .u8 0,.int .u8 0,.int .u8 0,.int .u8 0,.int .u8 0,.int .u8 0,.int .u8 0,.int .u8 0,.int .u8 0,.int .u16 0,.string ⟨#[]⟩] 49)=w1 at*
 refine(IT l _ hl).mono ?_
 rintro e w2 ⟨rfl,hf1⟩
 have hx1:=hx0.keep hf1 (fun x=>x)
 have hsz:=Lib.hid (qQ (aJ l).1)
 have hin:=Lib.hid (Cr (aJ l).1)
 have hon:=Lib.hid (Cm (aJ l).1)
 generalize hr:aJ l=r at*
 have Hr:=Lib.hid hr
 clear hr
 generalize hc:Da r.1=c at*
 have Hc:=Lib.hid hc
 clear hc
 go_wp2_with ((refine aN rfl 49 (.tmp 2) (.tmp 6) rfl w.heap.size _ _ c rfl rfl hx1 hsz.out hin.out hon.out ?_);intro w9 hx9 hf9)
 refine bodyPost_ret (aX Tryz.results48 _ w9 w.heap.size _ c _ _ rfl rfl hx9 Tryz.underlying49 rfl hin.out) rfl ?_
 exact⟨by rw[Hr.out,Hc.out];rfl,(hf0.none hf1).trans' hf9 (fun b hb e=>by unfold aI at e;omega)⟩
theorem nD (l:List UInt8) (w:World) (hl:l.length≤9223372036854775807):
 Calls Tryz.prog 19 #[.string (bs l)] w (Bn l w):=by
 go_enter Tryz.func19,Tryz.ntmps19
 go_wp2_with fail
 have hx0:=Bk.new w 49 (rdZ 1)
 have hf0:Fr noB w (w.alloc (.cells (rdZ 1) 49)):=(Fr.refl _ _).alloc _
 simp only[rdZ]at hx0 hf0
 generalize w.alloc (.cells #[.int .u8 0,.int .u8 0,.int .u8 0,.int .u8 0,.int .u8 0,.int .u8 0,.int .u8 0,.int .u8 0,.int .u8 0,.int .u8 0,.int .u8 0,.int .u8 0,.int .u16 0,.string ⟨#[]⟩] 49)=w1 at*
 refine(kT l _ hl).mono ?_
 rintro e w2 ⟨rfl,hf1⟩
 have hx1:=hx0.keep hf1 (fun x=>x)
 have hsz:=Lib.hid (qQ (aJ l).1)
 have hin:=Lib.hid (Cr (aJ l).1)
 have hon:=Lib.hid (Cm (aJ l).1)
 generalize hr:aJ l=r at*
 have Hr:=Lib.hid hr
 clear hr
 generalize hc:Da r.1=c at*
 have Hc:=Lib.hid hc
 clear hc
 go_wp2_with ((refine aN rfl 49 (.tmp 2) (.tmp 6) rfl w.heap.size _ _ c rfl rfl hx1 hsz.out hin.out hon.out ?_);intro w9 hx9 hf9)
 refine bodyPost_ret (aX Tryz.results19 _ w9 w.heap.size _ c _ _ rfl rfl hx9 Tryz.underlying49 rfl hin.out) rfl ?_
 exact⟨by rw[Hr.out,Hc.out];rfl,(hf0.none hf1).trans' hf9 (fun b hb e=>by unfold aI at e;omega)⟩
end Go.Proofs.YtcbkaiakdhiloacGreatDoor
