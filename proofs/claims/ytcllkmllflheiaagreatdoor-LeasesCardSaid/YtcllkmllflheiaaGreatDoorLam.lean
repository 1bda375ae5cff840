/- Parts of the walk; written by programs, merged. -/
import Derived.Test.YtcllkmllflheiaaGreatDoorLal
set_option linter.unusedSimpArgs false
set_option linter.unusedVariables false
set_option maxRecDepth 20000
set_option maxHeartbeats 8000000
namespace Go.Proofs.YtcllkmllflheiaaGreatDoor
open Go.RowKit Go.Proofs
attribute [local go_sem] aG aD aE
def CC (pl:Nat) (F:Nat→Prop) (os:List aX) (l:List UInt8) (x:Value) (w:World):Prop:=
 x= .int .i64 0∧∃os',bT os l=some os'∧LsA w pl F os'∧wtO os'≤wtO os+l.length
def Ab (os:List aX) (l:List UInt8) (er:Int):Prop:=er=1∧bT os l=none
theorem DL (pl:Nat) (F:Nat→Prop) (p:Nat) (os:List aX) (l:List UInt8) (w:World) (hL:LsA w pl F os) (hR:Rd w p l) (hpb:¬F p) (hF:∀k,w.heap.size≤k→F k) (hwt:wtO os+l.length≤1099511627000):
 Calls Tryz.prog 232 #[.pointer (some ⟨p,0,none⟩),.pointer (some ⟨pl,0,none⟩)] w (tG F (CC pl F os l) (Ab os l) p w):=by
 go_enter Tryz.func232,Tryz.ntmps232
 go_wp2_with fail
 refine(BC pl F p os l w hL hR hpb hF hwt).mono ?_
 rintro e w1 (⟨os',r,h1,rfl,h2,h3,h4,h5⟩|⟨h1,rfl,h2⟩)
 ·have H1:=Lib.hid h1
  clear h1
  go_wp2_with fail
  go_ret
  exact⟨.inl ⟨_,⟨rfl,os',H1.out,h2,h4⟩,rfl⟩,h5⟩
 ·exact⟨rfl,.inr ⟨1,⟨rfl,h1⟩,rfl⟩,h2⟩
theorem LsA.at_size {w:World} {F:Nat→Prop} {pl:Nat} {os:List aX} (h:LsA w pl F os) (n:Nat):LsA w pl (fun k=>(F k∧k<w.heap.size)∨w.heap.size+n≤k) os:=by
 obtain⟨h1,A,cap,h2,h3,h4⟩:=h
 refine⟨.inl ⟨h1,h2.lt⟩,A,cap,h2,h3,?_⟩
 rintro a rfl
 refine .inl ⟨h4 a rfl,?_⟩
 obtain⟨_,⟨h5,_⟩|⟨g,_,cur,h5,_,hg,_⟩⟩:=h3
 ·cases h5
 ·cases h5;exact Bk.lt hg
theorem LsA.lt {w:World} {F:Nat→Prop} {pl:Nat} {os:List aX} (h:LsA w pl F os):pl<w.heap.size:=by obtain⟨_,_,_,h,_⟩:=h;exact h.lt
theorem uH (pl:Nat) (F:Nat→Prop) (os:List aX) (l:List UInt8) (w:World) (hL:LsA w pl F os) (hwt:wtO os+l.length≤1099511627000):
 Calls Tryz.prog 231 #[.string (bs l),.func (.func 232) #[] #[.pointer (some ⟨pl,0,none⟩)]] w fun e w'=>
  ((∃os2,bT os l=some os2∧e= .returned (.tuple #[.int .i64 0,.int .i64 0])∧LsA w' pl (fun k=>F k∨w.heap.size≤k) os2∧wtO os2≤wtO os+l.length)∨
   (bT os l=none∧e= .returned (.tuple #[.int .i64 0,.int .i64 1])))∧Fr F w w':=by
 have hL1:=hL.at_size 3
 refine(Dw 6 (by decide) l w 232 #[_] (fun k=>(F k∧k<w.heap.size)∨w.heap.size+3≤k) (CC pl (fun k=>(F k∧k<w.heap.size)∨w.heap.size+3≤k) os l) (Ab os l) ?_ ?_ ?_ ?_).mono ?_
 ·rintro k h1 h2 (h|h)<;>omega
 ·rintro x w1 ⟨rfl,_⟩;exact⟨#[_],rfl,0,rfl⟩
 ·rintro x w1 w2 ⟨rfl,os',h1,h2,h3⟩ hf
  exact⟨rfl,os',h1,h2.keep hf (by rintro k (h|h) (e|e)<;>omega),h3⟩
 ·rintro p w1 rfl hR hf
  exact DL pl _ _ os l w1 (hL1.keep hf (fun _ _ x=>x)) hR (by rintro(h|h)<;>omega) (fun k hk=> .inr (by have:=Bk.lt hR;omega)) hwt
 ·rintro e w1 ⟨⟨x,⟨rfl,os',h1,h2,h3⟩,rfl⟩|⟨er,⟨rfl,h1⟩,rfl⟩,hf⟩
  ·exact⟨.inl ⟨os',h1,rfl,h2.mono (by rintro k (h|h);exact .inl h.1;exact .inr (by omega)),h3⟩,hf.mono (by rintro b hb (h|h);exact h.1;omega)⟩
  ·exact⟨.inr ⟨h1,rfl⟩,hf.mono (by rintro b hb (h|h);exact h.1;omega)⟩
def IY (S:Nat→Prop) (os:List aX) (name file:List UInt8) (w:World) (e:Ending) (w':World):Prop:=
 ((∃os' A' cap',gB os name file=(os',0)∧e= .returned (.slice A' os'.length cap')∧SlR w' S 2 A' os'.length (eA os')∧wtO os'≤wtO os+name.length+file.length)∨
  (∃k:Nat,(gB os name file).2=k+1∧e= .panicked (cP ((k+1:Nat):Int))))∧Fr noB w w'
def jO (o:aX):Bool:= !(o.code==52)
theorem gU:∀os:List aX,wtO (os.filter jO)≤wtO os
 |[]=>Nat.le_refl _
 |o::r=>by
  have:=gU r
  rw[List.filter_cons]
  split<;>simp only[wtO]<;>omega
theorem oU {os:List aX} {i:Nat} {o:aX} (h:os[i]? =some o):(os.take (i+1)).filter jO=(os.take i).filter jO++(if jO o then [o]else []):=by
 have hi:i<os.length:=by
  rcases Nat.lt_or_ge i os.length with h1|h1
  ·exact h1
  ·rw[List.getElem?_eq_none h1]at h;cases h
 rw[List.getElem?_eq_getElem hi]at h
 cases h
 rw[List.take_succ_eq_append_getElem hi,List.filter_append,List.filter_cons,List.filter_nil]
def rT (name file:List UInt8):Nat→Nat
 |0=>0
 |1=>file.length
 |_=>file.length+name.length
def iN (x:UInt8) (name file:List UInt8) (a:List aX):Nat→Option (List aX)
 |0=>if x.toNat%2=1 then bT a file else some a
 |_=>if 2≤x.toNat then bT a name else some a
def lS (x:UInt8) (name file:List UInt8) (a:List aX):Nat→Option (List aX)
 |0=>some a
 |i+1=>(lS x name file a i).bind fun b=>iN x name file b i
theorem qD (os:List aX) (name file:List UInt8) (x:UInt8) (h:bF os 52=some [x]):gB os name file=
 if x.toNat<1∨3<x.toNat then([],2)else match lS x name file (os.filter jO) 2 with
  |none=>([],1)
  |some a=>if(bF a 52).isSome then([],2)else(a,0):=by
 unfold gB
 rw[h]
 simp only
 split
 ·rfl
 ·simp only[lS,Option.bind_some,iN]
  rw[show(fun o:aX=> !(o.code==52))=jO from rfl]
  cases(if x.toNat%2=1 then bT (os.filter jO) file else some (os.filter jO))with
  |none=>rfl
  |some a=>simp only[Option.bind_some];cases(if 2≤x.toNat then bT a name else some a)<;>rfl
theorem vK (os:List aX) (name file:List UInt8) (d:List UInt8) (h:bF os 52=some d) (hd:d.length≠1):gB os name file=([],2):=by
 unfold gB
 rw[h]
 match d,hd with
 |[],_=>rfl
 |[_],hd=>exact absurd rfl hd
 |_::_::_,_=>rfl
theorem FN (S:Nat→Prop) (A:Option Addr) (cap:Nat) (os:List aX) (name file:List UInt8) (w:World) (hAS:SlR w S 2 A os.length (eA os)) (hS:∀k,w.heap.size≤k→¬S k) (hwt:wtO os+name.length+file.length≤1099511627000):
 Calls Tryz.prog 205 #[.slice A os.length cap,.string (bs name),.string (bs file)] w (IY S os name file w):=by
 have hA:=hAS.sub (T:=noB) (fun _ _ x=>x.elim)
 have HAS:=Lib.hid hAS
 have HS0:=Lib.hid hS
 clear hAS hS
 have hlw:=dO os
 obtain⟨n,hn⟩:∃n,os.length=n:=⟨_,rfl⟩
 rw[hn]at hA⊢
 go_enter Tryz.func205,Tryz.ntmps205
 go_wp2_with fail
 have hOf:=EB noB A n cap os 52 w hA (by omega)
 rw[show(((52:UInt8).toNat:Nat):Int)=52 by decide]at hOf
 refine hOf.mono ?_
 clear hOf
 rintro e w1 ⟨rfl,hf1⟩
 have hA1:=hA.keep hf1
 clear hA
 cases ho:bF os 52 with
 |none=>
  have Ho:=Lib.hid ho
  clear ho
  go_wp2_with fail
  go_ret
  refine⟨.inl ⟨os,A,cap,?_,by rw[hn];rfl,HAS.out.keep (hf1.of_no S),by omega⟩,hf1⟩
  show gB os name file=(os,0)
  unfold gB;rw[Ho.out]
 |some d=>
  simp only[Option.getD_some,Option.isSome_some]
  by_cases hd:d.length=1
  rotate_left
  ·have Hb:=Lib.hid (vK os name file d ho hd)
   clear ho
   have hdi:¬(d.length:Int)=1:=by omega
   go_wp2_with fail
   refine(dM 2 _).mono ?_
   rintro x w2 ⟨rfl,rfl⟩
   exact⟨rfl,.inr ⟨1,by rw[Hb.out],rfl⟩,hf1⟩
  match d,hd with
  |[x],_=>
  have Hs:=Lib.hid (qD os name file x ho)
  clear ho
  have hx:=x.toNat_lt
  have hg0:∀h:0<(bs [x]).size,(bs [x])[0]'h=x:=fun h=>by rw[gW];rfl
  by_cases hx1:x.toNat<1
  ·have Hb:Hid (gB os name file=([],2)):=Lib.hid (by rw[Hs.out,if_pos (.inl hx1)])
   clear Hs
   have hxi:¬(1:Int)≤(x.toNat:Int):=by omega
   go_wp2_with fail
   refine(dM 2 _).mono ?_
   rintro e w2 ⟨rfl,rfl⟩
   exact⟨rfl,.inr ⟨1,by rw[Hb.out],rfl⟩,hf1⟩
  have hxi:(1:Int)≤(x.toNat:Int):=by omega
  by_cases hx3:3<x.toNat
  ·have Hb:Hid (gB os name file=([],2)):=Lib.hid (by rw[Hs.out,if_pos (.inr hx3)])
   clear Hs
   have hxj:¬(x.toNat:Int)≤(3:Int):=by omega
   go_wp2_with fail
   refine(dM 2 _).mono ?_
   rintro e w2 ⟨rfl,rfl⟩
   exact⟨rfl,.inr ⟨1,by rw[Hb.out],rfl⟩,hf1⟩
  have hxj:(x.toNat:Int)≤(3:Int):=by omega
  have HS:Hid (gB os name file=match lS x name file (os.filter jO) 2 with
   |none=>([],1)
   |some a=>if(bF a 52).isSome then([],2)else(a,0)):=Lib.hid (by rw[Hs.out,if_neg (by omega)])
  clear Hs
  go_wp2_with fail
  refine(eX 2 _).mono ?_
  rintro e w2 ⟨rfl,rfl⟩
  go_wp2_with fail
  have hL0:LsA (w1.alloc (.cells #[.slice none 0 0] 254)) w1.heap.size (fL w1.heap.size) []:=
   ⟨Nat.le_refl _,none,0,Bk.new _ _ _,⟨rfl,.inl ⟨rfl,rfl⟩⟩,fun a h=>by cases h⟩
  have hfa:Fr noB w1 (w1.alloc (.cells #[.slice none 0 0] 254)):=(Fr.refl _ _).alloc _
  obtain⟨pl,hpl⟩:∃pl,pl=w1.heap.size:=⟨_,rfl⟩
  rw[←hpl]at hL0⊢
  have Hpl:=Lib.hid hpl
  clear hpl
  generalize w1.alloc (.cells #[.slice none 0 0] 254)=w3 at*
  obtain⟨i0,hi0,hz0,hz1,hz2⟩:=info_parts jS
  go_loopw [42] (fun iv wr=>∃(i:Nat),i≤n∧iv= .int .i64 (i:Int)∧LsA wr pl (fL pl) ((os.take i).filter jO)∧Fr noB w1 wr) (fun iv _=>n-(intOf iv).toNat)
  case atStart=>exact⟨0,by omega,rfl,hL0,hfa⟩
  case round=>
   obtain⟨i,hi,rfl,hL,hw⟩:=hrel
   by_cases hlt:i<n
   ·obtain⟨o,ho⟩:∃o,os[i]? =some o:=⟨_,List.getElem?_eq_getElem (by omega)⟩
    obtain⟨ad,rfl,c1,c2⟩:=(hA1.keep hw).optAt ho
    have hft:=Lib.hid (oU ho)
    clear ho
    have hne:=Fr.alloc hw (.cells #[.int .u8 (o.code.toNat:Int),.string (bs o.data)] 157)
    have hL2:=hL.keep ((Fr.refl noB wr).alloc (.cells #[.int .u8 (o.code.toNat:Int),.string (bs o.data)] 157)) (fun _ _ x=>x)
    by_cases he:o.code=52
    ·have hei:(o.code.toNat:Int)=52:=by rw[he];decide
     have Hft:Hid ((os.take (i+1)).filter jO=(os.take i).filter jO):=Lib.hid (by
      rw[hft.out,if_neg (by unfold jO;rw[he];decide),List.append_nil])
     clear hft he
     rw[hei]at hL2 hne
     have HL2:=Lib.hid hL2
     clear hL2 hL
     go_wp2_with fail
     exact⟨⟨i+1,by omega,by rw[Int.natCast_add];rfl,by rw[Hft.out];exact HL2.out,hne⟩,by simp only[intOf];omega⟩
    ·have hei:¬(o.code.toNat:Int)=52:=fun e=>he (UInt8.toNat.inj (show o.code.toNat=52 by omega))
     have Hft:Hid ((os.take (i+1)).filter jO=(os.take i).filter jO++[o]):=Lib.hid (by
      rw[hft.out,if_pos (by unfold jO;simpa using he)])
     clear hft he
     obtain⟨hbp,A1,cap1,hB,hO,hAF⟩:=hL2
     have hAp:∀a,A1=some a→a.block≠pl:=by
      rintro a rfl e
      obtain⟨_,⟨h2,_⟩|⟨g,_,cur,h2,_,hg,_⟩⟩:=hO
      ·cases h2
      ·cases h2
       rw[show g=pl from e,hB]at hg
       cases hg
     have hfw:=gU os
     have hlen1:((os.take i).filter jO).length≤i:=Nat.le_trans (List.length_filter_le _ _) (List.length_take_le i os)
     have hc0:=hB.cells
     have hb2:=hB.alloc (.cells #[.int .u8 (o.code.toNat:Int),.string (bs o.data)] 157)
     have hsr:SlR ((wr.alloc (.cells #[.int .u8 (o.code.toNat:Int),.string (bs o.data)] 157)).alloc (.cells #[.int .u8 (o.code.toNat:Int),.string (bs o.data)] 157)) noB 2 (some ⟨wr.heap.size+1,0,none⟩) 1 (eA [o]):=by
      have h:=SlR.of_bk (n:=1) (size:=2) (S:=noB) (Bk.new (wr.alloc (.cells #[.int .u8 (o.code.toNat:Int),.string (bs o.data)] 157)) 157 #[.int .u8 (o.code.toNat:Int),.string (bs o.data)]) (fun x=>x) rfl
      rw[show(wr.alloc (.cells #[.int .u8 (o.code.toNat:Int),.string (bs o.data)] 157)).heap.size=wr.heap.size+1 by simp]at h
      exact h
     have hO2:((wr.alloc (.cells #[.int .u8 (o.code.toNat:Int),.string (bs o.data)] 157)).alloc (.cells #[.int .u8 (o.code.toNat:Int),.string (bs o.data)] 157)).ownsRow 0 157 2 (.slice A1 ((os.take i).filter jO).length cap1) ((os.take i).filter jO).length (eA ((os.take i).filter jO)):=
      dJ hO (((Fr.refl noB (wr.alloc (.cells #[.int .u8 (o.code.toNat:Int),.string (bs o.data)] 157))).alloc _)) (fun _ _ x=>x)
     obtain⟨m,hm⟩:∃m,((os.take i).filter jO).length=m:=⟨_,rfl⟩
     have hop:∃l0,eA ((os.take i).filter jO)=l0:=⟨_,rfl⟩
     obtain⟨l0,hl0⟩:=hop
     rw[hm]at hO2 hO hB hc0 hb2 hlen1
     rw[hl0]at hO2 hO
     have Hm:=Lib.hid hm
     have Hl0:=Lib.hid hl0
     clear hm hl0
     go_wp2_with (at_builtin
                  go_must (refine eU rfl (.tmp 49) (.tmp 51) _ rfl 0 157 i0 _ 2 24 Tryz.underlying254 hi0 hz0 hz1 hz2 rfl (by omega) A1 _ _ _ rfl hO2 noB _ 1 1 _ rfl hsr jM (by unfold maxLen;omega) (by omega) (Nat.zero_le _) ?_)
                  intro A2 cap2 w4 hap
                  have hb3:=hb2.keep hap.fr (by rintro⟨a,e,e2⟩;exact hAp a e e2)
                  have hc3:=hb3.cells
                  have hf3:=hb3.frees)
     have hLn:LsA (w4.setCell ⟨pl,0,none⟩ (.slice A2 (m+1) cap2)) pl (fL pl) ((os.take (i+1)).filter jO):=by
      rw[Hft.out]
      refine⟨hbp,A2,cap2,?_,?_,?_⟩
      ·rw[List.length_append,Hm.out];exact(by simpa using hb3.set 0 (.slice A2 (m+1) cap2))
      ·rw[List.length_append,eK,Hm.out,Hl0.out];exact mL hap.own hb3 (by decide) _
      ·intro a e
       rcases hap.at_ a e with h|⟨a0,e0,h⟩
       ·have h1:=hB.lt;simp at h h1;unfold fL;omega
       ·rw[←h];exact hAF a0 e0
     have hfn:Fr noB w1 (w4.setCell ⟨pl,0,none⟩ (.slice A2 (m+1) cap2)):=by
      have hpn:¬pl<w1.heap.size:=by rw[Hpl.out];omega
      refine(((hne.alloc _)).trans' hap.fr ?_).setCell (fun h=>absurd h hpn) _
      rintro b hb ⟨a,e,rfl⟩
      have h:=hAF a e
      unfold fL at h;omega
     exact⟨⟨i+1,by omega,by rw[Int.natCast_add];rfl,hLn,hfn⟩,by simp only[intOf];omega⟩
   ·obtain rfl:i=n:=by omega
    have hL1:LsA wr pl (fL pl) (os.filter jO):=by rw[List.take_of_length_le (by omega)]at hL;exact hL
    clear hL
    have hL2:=(hL1.at_size 1).keep ((Fr.refl noB wr).alloc (.cells #[.string (bs file),.string (bs name)] 9)) (fun _ _ x=>x)
    have hL3:LsA (wr.alloc (.cells #[.string (bs file),.string (bs name)] 9)) pl (fun k=>pl≤k∧k≠wr.heap.size) (os.filter jO):=
     hL2.mono fun k h=>by have:=hL1.lt;unfold fL at h;refine⟨?_,?_⟩<;>rcases h with h|h<;>omega
    have hB2:=Bk.new wr 9 #[.string (bs file),.string (bs name)]
    have hf3:=hw.alloc (.cells #[.string (bs file),.string (bs name)] 9)
    have hpl2:=hL1.lt
    clear hL1 hL2
    go_wp2_with fail
    obtain⟨g2,hg2⟩:∃g2,wr.heap.size=g2:=⟨_,rfl⟩
    rw[hg2]at hL3 hB2 hpl2
    rw[hg2]
    clear hg2
    have hw0:=gU os
    have Hw:=Lib.hid (show w1.heap.size≤pl by rw[Hpl.out];omega)
    generalize wr.alloc (.cells #[.string (bs file),.string (bs name)] 9)=w5 at*
    obtain⟨a0,ha0⟩:∃a0,os.filter jO=a0:=⟨_,rfl⟩
    rw[ha0]at hL3 hw0 HS
    clear ha0
    go_loopw [58] (fun iv wr=>∃(i:Nat),i≤2∧iv= .int .i64 (i:Int)∧∃os1,lS x name file a0 i=some os1∧LsA wr pl (fun k=>pl≤k∧k≠g2) os1∧Bk wr g2 9 #[.string (bs file),.string (bs name)]∧
     Fr noB w1 wr∧wtO os1≤wtO os+rT name file i) (fun iv _=>2-(intOf iv).toNat)
    case atStart=>exact⟨0,by omega,rfl,a0,rfl,hL3,hB2,hf3,hw0⟩
    case round=>
     obtain⟨i,hi,rfl,os1,hov,hL,hB,hw,hwo⟩:=hrel
     by_cases hlt:i<2
     ·have hc:=hB.cells
      have Hov:=Lib.hid hov
      clear hov
      rcases(by omega:i=0∨i=1)with rfl|rfl
      ·
       by_cases hbit:x.toNat%2=1
       ·have hb:bits BinOp.and IntKind.u8 (x.toNat:Int) 1=1:=by
         rcases(by omega:x.toNat=1∨x.toNat=3)with h|h<;>rw[h]<;>decide
        have Hn:Hid (lS x name file a0 1=bT os1 file):=Lib.hid (by rw[lS,Hov.out,Option.bind_some,iN,if_pos hbit])
        clear Hov
        go_wp2_with fail
        refine(uH pl _ os1 file _ hL (by simp only[rT]at hwo;omega)).mono ?_
        rintro e w6 ⟨⟨os2,h1,rfl,h2,h3⟩|⟨h1,rfl⟩,hf6⟩
        ·have hg:=hB.lt
         have hL6:LsA w6 pl (fun k=>pl≤k∧k≠g2) os2:=h2.mono (by rintro k (h|h);exact h;omega)
         have hB6:=hB.keep hf6 (by rintro⟨_,h⟩;exact h rfl)
         have hw6:Fr noB w1 w6:=hw.trans' hf6 (by rintro b hb ⟨h,_⟩;have:=Hw.out;omega)
         have H1:Hid (lS x name file a0 1=some os2):=Lib.hid (by rw[Hn.out,h1])
         clear h1 h2 Hn
         go_wp2_with fail
         refine(eX 0 _).mono ?_
         rintro e w7 ⟨rfl,rfl⟩
         go_wp2_with fail
         exact⟨⟨1,by omega,rfl,os2,H1.out,hL6,hB6,hw6,by simp only[rT]at hwo⊢;omega⟩,by simp[intOf]⟩
        ·have H1:Hid ((gB os name file).2=1):=Lib.hid (by rw[HS.out,lS,Hn.out,h1,Option.bind_none])
         have hw6:Fr noB w w6:=hf1.none (hw.trans' hf6 (by rintro b hb ⟨h,_⟩;have:=Hw.out;omega))
         clear h1 Hn
         go_wp2_with fail
         refine(dM 1 _).mono ?_
         rintro e w7 ⟨rfl,rfl⟩
         exact⟨rfl,.inr ⟨0,H1.out,rfl⟩,hw6⟩
       ·have hb:¬bits BinOp.and IntKind.u8 (x.toNat:Int) 1=1:=by
         rw[show x.toNat=2 by omega];decide
        have Hn:Hid (lS x name file a0 1=some os1):=Lib.hid (by rw[lS,Hov.out,Option.bind_some,iN,if_neg hbit])
        clear Hov
        go_wp2_with fail
        exact⟨⟨1,by omega,rfl,os1,Hn.out,hL,hB,hw,by simp only[rT]at hwo⊢;omega⟩,by simp[intOf]⟩
      ·
       by_cases hbit:2≤x.toNat
       ·have hb:bits BinOp.and IntKind.u8 ((x.toNat:Int)/2) 1=1:=by
         rcases(by omega:x.toNat=2∨x.toNat=3)with h|h<;>rw[h]<;>decide
        have Hn:Hid (lS x name file a0 2=bT os1 name):=Lib.hid (by rw[lS,Hov.out,Option.bind_some,iN,if_pos hbit];rintro h;cases h)
        clear Hov
        go_wp2_with fail
        refine(uH pl _ os1 name _ hL (by simp only[rT]at hwo;omega)).mono ?_
        rintro e w6 ⟨⟨os2,h1,rfl,h2,h3⟩|⟨h1,rfl⟩,hf6⟩
        ·have hg:=hB.lt
         have hL6:LsA w6 pl (fun k=>pl≤k∧k≠g2) os2:=h2.mono (by rintro k (h|h);exact h;omega)
         have hB6:=hB.keep hf6 (by rintro⟨_,h⟩;exact h rfl)
         have hw6:Fr noB w1 w6:=hw.trans' hf6 (by rintro b hb ⟨h,_⟩;have:=Hw.out;omega)
         have H1:Hid (lS x name file a0 2=some os2):=Lib.hid (by rw[Hn.out,h1])
         clear h1 h2 Hn
         go_wp2_with fail
         refine(eX 0 _).mono ?_
         rintro e w7 ⟨rfl,rfl⟩
         go_wp2_with fail
         exact⟨⟨2,by omega,rfl,os2,H1.out,hL6,hB6,hw6,by simp only[rT]at hwo⊢;omega⟩,by simp[intOf]⟩
        ·have H1:Hid ((gB os name file).2=1):=Lib.hid (by rw[HS.out,Hn.out,h1])
         have hw6:Fr noB w w6:=hf1.none (hw.trans' hf6 (by rintro b hb ⟨h,_⟩;have:=Hw.out;omega))
         clear h1 Hn
         go_wp2_with fail
         refine(dM 1 _).mono ?_
         rintro e w7 ⟨rfl,rfl⟩
         exact⟨rfl,.inr ⟨0,H1.out,rfl⟩,hw6⟩
       ·have hb:¬bits BinOp.and IntKind.u8 ((x.toNat:Int)/2) 1=1:=by
         rw[show x.toNat=1 by omega];decide
        have Hn:Hid (lS x name file a0 2=some os1):=Lib.hid (by rw[lS,Hov.out,Option.bind_some,iN,if_neg hbit];rintro h;cases h)
        clear Hov
        go_wp2_with fail
        exact⟨⟨2,by omega,rfl,os1,Hn.out,hL,hB,hw,by simp only[rT]at hwo⊢;omega⟩,by simp[intOf]⟩
     ·obtain rfl:i=2:=by omega
      have Hs2:Hid (gB os name file=if(bF os1 52).isSome then([],2)else(os1,0)):=Lib.hid (by rw[HS.out,hov])
      clear hov
      obtain⟨hbp,A1,cap1,hB1,hO1,hAF1⟩:=hL
      have hc1:=hB1.cells
      have hA2:=lU hO1
      have hl1:=dO os1
      have hOf:=EB noB A1 os1.length cap1 os1 52 wr hA2 (by simp only[rT]at hwo;omega)
      rw[show(((52:UInt8).toNat:Nat):Int)=52 by decide]at hOf
      go_wp2_with fail
      refine hOf.mono ?_
      clear hOf
      rintro e w6 ⟨rfl,hf6⟩
      have hA4:SlR w6 S 2 A1 os1.length (eA os1):=(kR hO1 (by intro a e h;have h1:=hAF1 a e;exact HS0.out _ (by have:=Hw.out;have:=hf1.size;omega) h)).keep (hf6.of_no S)
      have hB3:=hB1.keep hf6 (fun x=>x)
      have hc3:=hB3.cells
      have hw6:Fr noB w w6:=hf1.none (hw.none hf6)
      cases hos:(bF os1 52).isSome with
      |true=>
       have H1:Hid ((gB os name file).2=2):=Lib.hid (by rw[Hs2.out,hos];rfl)
       clear Hs2
       go_wp2_with fail
       refine(dM 2 _).mono ?_
       rintro e w7 ⟨rfl,rfl⟩
       exact⟨rfl,.inr ⟨1,H1.out,rfl⟩,hw6⟩
      |false=>
       have H1:Hid (gB os name file=(os1,0)):=Lib.hid (by rw[Hs2.out,hos];rfl)
       clear Hs2
       go_wp2_with fail
       refine(eX 2 _).mono ?_
       rintro e w7 ⟨rfl,rfl⟩
       go_wp2_with fail
       go_ret
       exact⟨.inl ⟨os1,A1,cap1,H1.out,rfl,hA4,by simp only[rT]at hwo;omega⟩,hw6⟩
end Go.Proofs.YtcllkmllflheiaaGreatDoor
namespace Go.Proofs.YtcllkmllflheiaaGreatDoor
open Go.RowKit Go.Proofs
attribute [local go_sem] aG aD aE aF
def pK (d:kF) (A:Option Addr) (cap:Nat):Array Value:=
 #[.bool d.reply,.int .u32 (d.xid:Int),.int .u32 (d.client:Int),.int .u32 (d.yours:Int),.int .u32 (d.next:Int),
  .int .u8 (d.mac.1.toNat:Int),.int .u8 (d.mac.2.1.toNat:Int),.int .u8 (d.mac.2.2.1.toNat:Int),.int .u8 (d.mac.2.2.2.1.toNat:Int),.int .u8 (d.mac.2.2.2.2.1.toNat:Int),.int .u8 (d.mac.2.2.2.2.2.toNat:Int),
  .slice A d.os.length cap]
def F6 (B:Nat) (l:List UInt8) (x:Value) (w:World):Prop:=
 ∃d A cap,x= .agg (pK d A cap)∧aT l=(d,0)∧SlR w (fun k=>k<B) 2 A d.os.length (eA d.os)∧wtO d.os≤l.length
def BI (l:List UInt8) (er:Int):Prop:=∃k:Nat,er=((k+1:Nat):Int)∧aT l=(ES,k+1)
theorem Fy (l:List UInt8) (i:Nat) (h:i<l.length):∃c,sub l i (i+1)=[c]∧num (sub l i (i+1))=c.toNat:=by
 refine⟨l[i],?_,?_⟩
 ·rw[←lD,List.drop_eq_getElem_cons h];rfl
 ·rw[←lD,List.drop_eq_getElem_cons h,List.take_succ_cons,List.take_zero];simp[num]
attribute [local simp] pK xQ ibq ibn eqN ltN leN eqL ltL gtL leL geL
theorem Ke {p n:Nat} {l:List UInt8} {w0 w:World} {B:List (Nat×TypeId×Array Value)} (h:RA p l n w0 B w) (hn:n≤l.length) (hl:l.length≤9223372036854775807):Calls Tryz.prog 203 #[.pointer (some ⟨p,0,none⟩)] w (RT p l n 4 w0 B fun m=> .int .u32 (num (sub l n m))):=
 (JJ p _ w h.rd (h.small hl)).mono fun _ _ ht=>h.took hn ht (by rw[tV])
theorem IM (B:Nat) (l:List UInt8) (hl:l.length≤1099511000000) (p q:Nat) (w:World) (hR:Rd w p l) (hq:Bk w q 9 #[.string (bs l)]) (hpq:p≠q) (hB:B≤w.heap.size):
 Calls Tryz.prog 202 #[.pointer (some ⟨p,0,none⟩),.pointer (some ⟨q,0,none⟩)] w (tG noB (F6 B l) (BI l) p w):=by
 obtain⟨z,hz⟩:∃z,aT l=z:=⟨_,rfl⟩
 have bad:∀k:Nat,z=(ES,k+1)→∀w',Fr (aJ p) w w'→tG noB (F6 B l) (BI l) p w (.panicked (cP ((k+1:Nat):Int))) w':=fun k h w' hf=>⟨.inr ⟨_,⟨k,rfl,hz.trans h⟩,rfl⟩,hf.mono fun _ _ e=> .inl e⟩
 have hA:RA p l 0 w [(q,9,#[.string (bs l)])] w:=⟨by rw[List.drop_zero];exact hR,Fr.refl _ _,List.forall_mem_cons.2 ⟨⟨Ne.symm hpq,hq⟩,List.forall_mem_nil _⟩⟩
 have hl63:l.length≤9223372036854775807:=by omega
 clear hR hq
 refine en Tryz.func202 Tryz.ntmps202 ?_
 refine W ?_
 refine sA ?_
 intro w1 hX f
 replace hA:=hA.new hX f
 have hq:=hA.at_ 1
 refine W ?_
 refine sM (dK _ _ _) (fun h=> ?_) fun h240=> ?_
 ·exact⟨rfl,bad 0 (hz.symm.trans (by unfold aT;rw[if_pos (by omega)])) _ hA.fr⟩
 have hy:=hz
 unfold aT at hz
 rw[if_neg (by omega)]at hz
 obtain⟨c0,hc0,hn0⟩:=Fy l 0 (by omega)
 rw[Nat.zero_add]at hn0 hc0
 clear hX f hq
 refine W ?_
 refine sR 1 (nU8 hA (Nat.zero_le _) hl63) ?_
 intro _ w2 hA
 rw[hn0]
 refine W ?_
 refine sR 3 (oV 2 hA (by omega) hl63 (by decide)) ?_
 intro _ w3 hA
 refine W ?_
 refine sR 4 (nU8 hA (by omega) hl63) ?_
 intro _ w4 hA
 refine W ?_
 refine sR 8 (Ke hA (by omega) hl63) ?_
 intro _ w5 hA
 generalize num (sub l 4 8)=x0 at*
 refine W ?_
 have hb0:(sub l 0 1==[2])=decide (c0.toNat=2):=by
  rw[hc0]
  by_cases h:c0=2
  ·subst h;rfl
  ·rw[show decide (c0.toNat=2)=false from decide_eq_false fun e=>h (UInt8.toNat_inj.1 e)];simpa using h
 obtain⟨b,hb⟩:∃b,decide (c0.toNat=2)=b:=⟨_,rfl⟩
 rw[hb]
 rw[hb0,hb]at hz
 have Hb:=Lib.hid hb
 clear hb hb0
 refine sA ?_
 intro w6 hG f
 refine W ?_
 refine sT ?_
 intro w7 hG f2
 have hg0:w.heap.size<w5.heap.size:=(hA.at_ 0).lt
 have hne:∀x∈[(w.heap.size,139,rdZ 4),(q,9,#[.string (bs l)])],x.1≠w5.heap.size:=fun x hx=>Nat.ne_of_lt (hA.bk x hx).2.lt
 have hgp:p≠w5.heap.size:=Nat.ne_of_lt (Bk.lt hA.rd)
 replace hA:=hA.new hG (bA f (Nat.le_refl _) f2)
 clear hG f f2
 generalize w5.heap.size=g at*
 refine W ?_
 refine sR 12 (oV 4 hA (by omega) hl63 (by decide)) ?_
 intro _ w8 hA
 refine W ?_
 refine sR 16 (nIP hA (by omega) hl63) ?_
 intro _ w9 hA
 refine W ?_
 refine sR 20 (nIP hA (by omega) hl63) ?_
 intro _ w10 hA
 refine W ?_
 refine sR 24 (nIP hA (by omega) hl63) ?_
 intro _ w11 hA
 generalize num (sub l 12 16)=x1 at*
 generalize num (sub l 16 20)=x2 at*
 generalize num (sub l 20 24)=x3 at*
 refine W ?_
 refine sK (pK ⟨b,x0,x1,0,0,(0,0,0,0,0,0),[]⟩ none 0) (hA.at_ 0) ?_
 intro w12 hG f
 replace hA:=hA.put hG f (Nat.le_of_lt hg0) hne
 refine W ?_
 refine sK (pK ⟨b,x0,x1,x2,0,(0,0,0,0,0,0),[]⟩ none 0) (hA.at_ 0) ?_
 intro w13 hG f
 replace hA:=hA.put hG f (Nat.le_of_lt hg0) hne
 refine W ?_
 refine sK (pK ⟨b,x0,x1,x2,x3,(0,0,0,0,0,0),[]⟩ none 0) (hA.at_ 0) ?_
 intro w14 hG f
 replace hA:=hA.put hG f (Nat.le_of_lt hg0) hne
 refine W ?_
 refine sR 28 (oV 4 hA (by omega) hl63 (by decide)) ?_
 intro _ w15 hA
 refine W ?_
 refine sR 34 (GP hA (by omega) hl63) ?_
 intro _ w16 hA
 generalize fX (l.drop 28)=mm at*
 refine W ?_
 refine sKm (pK ⟨b,x0,x1,x2,x3,mm,[]⟩ none 0) (hA.at_ 0) ?_
 intro w17 hG f
 replace hA:=hA.put hG f (Nat.le_of_lt hg0) hne
 refine W ?_
 refine sR 44 (oV 10 hA (by omega) hl63 (by decide)) ?_
 intro _ w18 hA
 refine W ?_
 refine sR 108 (oV 64 hA (by omega) hl63 (by decide)) ?_
 intro _ w19 hA
 refine W ?_
 refine sR 236 (oV 128 hA (by omega) hl63 (by decide)) ?_
 intro _ w20 hA
 refine V ?_
 refine cS ?_
 have H20:RA p l 236 w20 [] w20:=⟨hA.rd,Fr.refl _ _,List.forall_mem_nil _⟩
 refine cM [0,3,6,7,8] [] (fun w'=>(c0.toNat=1∨c0.toNat=2)∧sub l 1 3=[1,6]∧sub l 236 240=[99,130,83,99]∧Rd w' p ((l.drop 236).drop 4)∧Fr (aJ p) w20 w') ?_ ?_
 ·have hno:¬((sub l 0 1=[1]∨sub l 0 1=[2])∧sub l 1 3=[1,6]∧sub l 236 240=[99,130,83,99])→z=(ES,2):=fun h=>by rw[if_pos h]at hz;exact hz.symm
  clear hz
  by_cases hk:sub l 1 3=[1,6]
  rotate_left
  ·replace hno:=Lib.hid (bad 1 (hno (fun h=>hk h.2.1)) _ hA.fr)
   have hkb:(sub l 1 3==[1,6])=false:=by simpa using hk
   clear hk bad
   by_cases k1:c0.toNat=1<;>by_cases k2:c0.toNat=2
   all_goals
    refine W ?_
    refine sMn (dM _ _) ?_
    exact⟨rfl,hno.out⟩
  have hkb:(sub l 1 3==[1,6])=true:=by simpa using hk
  by_cases kd:c0.toNat=1∨c0.toNat=2
  rotate_left
  ·replace hno:=Lib.hid (bad 1 (hno (fun h=>kd (by rw[hc0]at h;exact h.1.imp (fun e=>by injection e with e;rw[e];rfl) fun e=>by injection e with e;rw[e];rfl))) _ hA.fr)
   have k1:¬c0.toNat=1:=fun h=>kd (.inl h)
   have k2:¬c0.toNat=2:=fun h=>kd (.inr h)
   clear hk bad kd
   refine W ?_
   refine sMn (dM _ _) ?_
   exact⟨rfl,hno.out⟩
  have Hk:=Lib.hid (And.intro kd hk)
  clear hk
  by_cases hck:sub l 236 240=[99,130,83,99]
  ·have hb1:(sub l 236 240==[99,130,83,99])=true:=by simpa using hck
   have Hk:=Lib.hid (And.intro Hk.out.1 (And.intro Hk.out.2 hck))
   clear hck hno bad
   rcases kd with kd|kd
   all_goals
    refine W ?_
    refine sR 240 (oV 4 H20 (by omega) hl63 (by decide)) ?_
    intro _ w21 hA'
    refine W ?_
    refine sC (eX _ _) ?_
    rintro _ rfl
    refine W ?_
    exact mt ⟨Hk.out.1,Hk.out.2.1,Hk.out.2.2,by rw[List.drop_drop];exact hA'.rd,hA'.fr⟩
  ·have hb1:(sub l 236 240==[99,130,83,99])=false:=by simpa using hck
   replace hno:=Lib.hid (hno fun h=>hck h.2.2)
   clear hck
   rcases kd with kd|kd
   all_goals
    refine W ?_
    refine sR 240 (oV 4 hA (by omega) hl63 (by decide)) ?_
    intro _ w21 hA
    refine W ?_
    refine sMn (dM _ _) ?_
    exact⟨rfl,bad 1 hno.out _ hA.fr⟩
 clear H20
 rintro u wc ⟨hcc,hck1,hck2,hrc,hfc⟩
 have hspec:¬¬((sub l 0 1=[1]∨sub l 0 1=[2])∧sub l 1 3=[1,6]∧sub l 236 240=[99,130,83,99]):=by
  refine not_not_intro ⟨?_,hck1,hck2⟩
  rw[hc0]
  exact hcc.imp (fun e=>by rw[UInt8.toNat_inj.1 (show c0.toNat=(1:UInt8).toNat from e)]) fun e=>by rw[UInt8.toNat_inj.1 (show c0.toNat=(2:UInt8).toNat from e)]
 rw[if_neg hspec]at hz
 replace hA:=hA.go hrc hfc
 clear hck1 hck2 hspec hcc hrc hfc hc0 Hb hn0
 refine W ?_
 refine sA ?_
 intro wd hP f
 have hL0:LsA wd wc.heap.size (fL wc.heap.size) []:=⟨Nat.le_refl _,none,0,hP,⟨rfl,.inl ⟨rfl,rfl⟩⟩,fun a h=>by cases h⟩
 have hpl:=Bk.lt hA.rd
 have hgl:=(hA.at_ 0).lt
 have hxl:=(hA.at_ 1).lt
 have hwl:=hA.fr.size
 replace hA:=hA.none f
 have hps:=hP.lt
 clear hP f
 generalize wc.heap.size=pl at*
 refine W ?_
 refine sZ (BC pl (fL pl) p [] (l.drop 240) wd hL0 hA.rd (by unfold fL;omega) (fun k hk=>by unfold fL;omega) (by simp only[wtO,List.length_drop];omega)) ?_
 rintro e we (⟨os1,r,h1,rfl,hL1,hR1,hw1,hf1⟩|⟨h1,rfl,hf1⟩)
 rotate_left
 ·rw[h1]at hz
  refine⟨rfl,bad 0 hz.symm _ (hA.fr.trans' hf1 ?_)⟩
  rintro b hb (e|e)
  ·exact e
  ·unfold fL at e;omega
 simp only[h1]at hz
 have hme:=(hA.at_ 0).keep hf1 (by rintro(e|e);exact hgp e.symm;unfold fL at e;omega)
 have hxe:=(hA.at_ 1).keep hf1 (by rintro(e|e);exact(hA.bk _ (List.mem_of_getElem? (i:=1) rfl)).1 e;unfold fL at e;omega)
 have hFe:Fr (aJ p) w we:=hA.fr.trans' hf1 (by
  rintro b hb (e|e)
  ·exact e
  ·unfold fL at e;omega)
 obtain⟨hbp,A1,cap1,hB1,hO1,hAF1⟩:=hL1
 have hA1:SlR we (fun k=>k<pl) 2 A1 os1.length (eA os1):=kR hO1 (fun a e=>by have:=hAF1 a e;unfold fL at this;omega)
 have hel:pl<we.heap.size:=hB1.lt
 clear hA
 refine W ?_
 refine sZ (FN (fun k=>k<pl) A1 cap1 os1 (sub l 44 108) (sub l 108 236) we hA1 (fun k hk=>by omega) ?_) ?_
 ·have a1:=iM l 44 108
  have a2:=iM l 108 236
  simp only[wtO,List.length_drop]at hw1
  omega
 rintro e wf ⟨⟨os2,A2,cap2,h2,rfl,hA2,hw2⟩|⟨k,h2,rfl⟩,hf2⟩
 rotate_left
 ·obtain⟨a,h3⟩:∃a,gB os1 (sub l 44 108) (sub l 108 236)=(a,k+1):=⟨_,Prod.ext rfl h2⟩
  simp only[h3]at hz
  exact⟨rfl,bad k hz.symm _ (hFe.none hf2)⟩
 simp only[h2]at hz
 have hwt2:wtO os2≤l.length:=by
  have a1:=pU l 44 108 (by omega)
  have a2:=pU l 108 236 (by omega)
  simp only[wtO,List.length_drop]at hw1
  omega
 clear h2 h1 hB1 hO1 hA1
 have hxf:=hxe.keep hf2 id
 have hFf:=hFe.none hf2
 refine W ?_
 refine sK (pK ⟨b,x0,x1,x2,x3,mm,os2⟩ A2 cap2) (hme.keep hf2 id) ?_
 intro wg hmg fg
 have hxg:=hxf.keep fg (fun e=>Nat.ne_of_lt hg0 e)
 have hAg:=hA2.keep (fg.mono fun k _ e=>by have e':k=g:=e;omega)
 refine W ?_
 refine sT ?_
 intro w9 hX f
 refine W ?_
 refine zC hX Tryz.underlying139 ?_
 refine⟨.inl ⟨_,⟨_,A2,cap2,rfl,hy.trans hz.symm,?_,hwt2⟩,rfl⟩,((hFf.trans' fg (fun k hk e=>by have e':k=g:=e;omega)).trans' f fun k hk e=>by have e':k=w.heap.size:=e;omega).mono fun b _ e=> .inl e⟩
 exact(hAg.keep (f.mono fun k _ e=>by have e':k=w.heap.size:=e;omega)).sub (fun b hb h=>by omega)
end Go.Proofs.YtcllkmllflheiaaGreatDoor
namespace Go.Proofs.YtcllkmllflheiaaGreatDoor
open Go.RowKit Go.Proofs
attribute [local go_sem] aG aD aE aF
def yL (l:List UInt8) (w:World) (e:Ending) (w':World):Prop:=
 (∃A cap,e= .returned (.tuple #[.agg (pK (aT l).1 A cap),.int .i64 ((aT l).2:Int)])∧SlR w' (fun k=>k<w.heap.size) 2 A (aT l).1.os.length (eA (aT l).1.os))∧Fr noB w w'
theorem tY (d:kF) (A:Option Addr) (cap:Nat):(pK d A cap).size=12:=rfl
theorem zG (d:kF) (A:Option Addr) (cap:Nat):(pK d A cap).all (·.oneCell')=true:=by simp[pK,Value.oneCell']
theorem Ey (d:kF) (A:Option Addr) (cap:Nat):(Tryz.prog.info? 139).map (·.size)=some (pK d A cap).size:=by rw[tY];kernel_rfl
theorem D3 (l:List UInt8) (w:World) (hl:l.length≤1099511000000):
 Calls Tryz.prog 166 #[.string (bs l)] w (yL l w):=by
 go_enter Tryz.func166,Tryz.ntmps166
 have hmf:∀(fn:Fn) (first cap:Array Value) (w:World),(Instr.makeFunc fn first cap).run Tryz.prog w= .ok (.func fn first cap) w:=fun _ _ _ _=>rfl
 go_wp2_with fail
 have hs0:=(Bk.new w 9 #[.string (bs l)]).alloc (.cells (rdZ 4) 139)
 have hx0:=Bk.new (w.alloc (.cells #[.string (bs l)] 9)) 139 (rdZ 4)
 have hf0:Fr noB w ((w.alloc (.cells #[.string (bs l)] 9)).alloc (.cells (rdZ 4) 139)):=((Fr.refl _ _).alloc _).alloc _
 have hsz:((w.alloc (.cells #[.string (bs l)] 9)).alloc (.cells (rdZ 4) 139)).heap.size=w.heap.size+2:=by simp
 rw[show(w.alloc (.cells #[.string (bs l)] 9)).heap.size=w.heap.size+1 by simp]at hx0
 simp only[rdZ]at hs0 hx0 hf0 hsz
 generalize(w.alloc (.cells #[.string (bs l)] 9)).alloc (.cells #[.bool false,.int .u32 0,.int .u32 0,.int .u32 0,.int .u32 0,.int .u8 0,.int .u8 0,.int .u8 0,.int .u8 0,.int .u8 0,.int .u8 0,.slice none 0 0] 139)=w1 at*
 have Hsz:=Lib.hid hsz
 clear hsz
 refine(Dw 4 (by decide) l w1 202 #[.pointer (some ⟨w.heap.size,0,none⟩)] noB (F6 (w1.heap.size+2) l) (BI l) (fun _ _ _ x=>x) ?_ ?_ ?_).mono ?_
 ·rintro x w2 ⟨d,A,cap,rfl,_⟩;exact⟨_,rfl,rfl,zG d A cap⟩
 ·rintro x w2 w3 ⟨d,A,cap,rfl,h1,h2,h3⟩ hf
  exact⟨d,A,cap,rfl,h1,h2.keep (hf.mono fun b _ e=>by rcases e with e|e<;>omega),h3⟩
 ·rintro p w2 rfl hR hf
  exact IM _ l hl _ w.heap.size w2 hR (hs0.keep hf (fun x=>x)) (by have:=Hsz.out;omega) (by have:=Bk.lt hR;omega)
 rintro e w2 ⟨hcase,hf1⟩
 have hx1:=hx0.keep hf1 (fun x=>x)
 have key:∃A cap,e= .returned (.tuple #[.agg (pK (aT l).1 A cap),.int .i64 ((aT l).2:Int)])∧SlR w2 (fun k=>k<w.heap.size+2) 2 A (aT l).1.os.length (eA (aT l).1.os):=by
  rcases hcase with⟨x,⟨d,A,cap,rfl,h1,h2,h3⟩,rfl⟩|⟨er,⟨k,rfl,h1⟩,rfl⟩
  ·rw[h1];exact⟨A,cap,rfl,h2.sub (fun b hb h=>by have:=Hsz.out;omega)⟩
  ·rw[h1];exact⟨none,0,rfl,SlR.nil⟩
 obtain⟨A,cap,rfl,hA⟩:=key
 generalize hr:aT l=r at*
 have Hr:=Lib.hid hr
 clear hr hcase
 have hin:=Lib.hid (Ey r.1 A cap)
 have hon:=Lib.hid (zG r.1 A cap)
 have hsz:=Lib.hid (tY r.1 A cap)
 generalize hc:pK r.1 A cap=c at*
 have Hc:=Lib.hid hc
 clear hc
 go_wp2_with ((refine aP rfl 139 (.tmp 2) (.tmp 7) rfl (w.heap.size+1) _ _ c rfl rfl hx1 hsz.out hin.out hon.out ?_);intro w9 hx9 hf9)
 refine bodyPost_ret (bZ Tryz.results166 _ w9 (w.heap.size+1) _ c _ _ rfl rfl hx9 Tryz.underlying139 rfl hin.out) rfl ?_
 refine⟨⟨A,cap,by rw[Hr.out,Hc.out];rfl,?_⟩,(hf0.none hf1).trans' hf9 (fun b hb e=>by unfold aJ at e;omega)⟩
 rw[Hr.out]
 exact(hA.keep (hf9.mono fun b hb e=>by unfold aJ at e;omega)).sub (fun b hb h=>by omega)
end Go.Proofs.YtcllkmllflheiaaGreatDoor
namespace Go.Proofs.YtcllkmllflheiaaGreatDoor
open Go.RowKit Go.Proofs
attribute [local simp] eC ibq ibn eqN ltN leN eqL ltL gtL leL geL
attribute [local go_sem] aG aD aE aF
theorem vL:∀(n:Nat) (os:List aX) (l:List UInt8) (os':List aX),gM n os l=some os'→wtO os'≤wtO os+l.length
 |0,_,_,_,h=>by cases h
 |n+1,os,[],_,h=>by cases h
 |n+1,os,c::r,os',h=>by
  rw[eZ]at h
  split at h
  ·cases h;omega
  ·split at h
   ·have:=vL n os r os' h;simp only[List.length_cons];omega
   ·cases r with
    |nil=>cases h
    |cons k r=>
     simp only at h
     split at h
     ·cases h
     ·have h1:=vL n _ _ os' h
      have h2:=sI os c (r.take k.toNat)
      simp only[List.length_cons,List.length_drop]at h1⊢
      rw[List.length_take]at h2
      omega
theorem HM (os:List aX) (name file:List UInt8):wtO (gB os name file).1≤wtO os+name.length+file.length:=by
 have h0:wtO (os.filter fun o=> !(o.code==52))≤wtO os:=gU os
 unfold gB
 split
 ·simp only;omega
 ·split
  ·exact Nat.zero_le _
  ·split
   ·exact Nat.zero_le _
   ·next a h1=>
    have h2:wtO a≤wtO os+file.length:=by
     split at h1
     ·have:=vL _ _ _ _ h1;omega
     ·cases h1;omega
    split
    ·exact Nat.zero_le _
    ·next a2 h3=>
     have h4:wtO a2≤wtO os+name.length+file.length:=by
      split at h3
      ·have:=vL _ _ _ _ h3;omega
      ·cases h3;omega
     split
     ·exact Nat.zero_le _
     ·exact h4
 ·exact Nat.zero_le _
theorem yV (l:List UInt8) (i j n:Nat) (hn:j-i=n):num (sub l i j)<256^n:=by
 have h:=uN (sub l i j)
 have h2:(sub l i j).length≤n:=by unfold sub;rw[List.length_drop,List.length_take];omega
 exact Nat.lt_of_lt_of_le h (Nat.pow_le_pow_right (by decide) h2)
theorem oS (l:List UInt8):(aT l).1.yours<4294967296∧(aT l).1.next<4294967296∧wtO (aT l).1.os≤l.length+192:=by
 unfold aT
 have h2:=yV l 16 20 4 rfl
 have h3:=yV l 20 24 4 rfl
 split
 ·exact⟨by decide,by decide,Nat.zero_le _⟩
 split
 ·exact⟨by decide,by decide,Nat.zero_le _⟩
 split
 ·exact⟨by decide,by decide,Nat.zero_le _⟩
 ·next os ho=>
  have w1:=vL _ _ _ _ ho
  have w2:=HM os (sub l 44 108) (sub l 108 236)
  have s1:(sub l 44 108).length≤64:=by unfold sub;rw[List.length_drop,List.length_take];omega
  have s2:(sub l 108 236).length≤128:=by unfold sub;rw[List.length_drop,List.length_take];omega
  have hd:(l.drop 240).length≤l.length:=by rw[List.length_drop];omega
  simp only[wtO]at w1
  split
  ·next a heq=>
   rw[heq]at w2
   simp only at w2
   exact⟨h2,h3,by simp only;omega⟩
  ·exact⟨by show(0:Nat)<_;decide,by show(0:Nat)<_;decide,Nat.zero_le _⟩
def St.leasedP (s:St) (ld:List UInt8):St:=if(aT ld).2=0∧(aT ld).1.reply=true∧(aT ld).1.xid=s.xid∧(aT ld).1.mac=s.c.card then s.leased (aT ld).1 else s
theorem BV (s:St) (d:kF) (h:¬(((bF d.os 53).getD []).length=1∧(eT d.os 54 false).isSome=true)):s.leased d=s:=by
 unfold St.leased
 rw[jL]
 split
 ·next k fm e1 e2=>exact absurd ⟨by rw[e1];rfl,by rw[e2];rfl⟩ h
 ·rfl
instance (L:Lay) (d:kF) (A:Option Addr) (cap n g:Nat):Kp0 fun w=>AY w L d A cap n g:=⟨fun _ _ h f=>h.none f⟩
attribute [-go_sem] run_eql_struct run_neq_struct run_equalIn_agg in
theorem yH (L:Lay) (s:St) (ld:List UInt8) (w:World) (h:aC w L s) (hld:ld.length≤1048576):
 Calls Tryz.prog 112 #[.pointer (some ⟨L.p,0,none⟩),.string (bs ld)] w (bP L (s.leasedP ld) (.tuple #[]) w):=by
 have hin:=oS ld
 obtain⟨r,hr⟩:∃r,r=s.leasedP ld:=⟨_,rfl⟩
 rw[←hr]
 unfold St.leasedP at hr
 refine en Tryz.func112 Tryz.ntmps112 ?_
 refine W ?_
 refine sX (D3 ld w (by omega)) ?_
 rintro e w1 ⟨⟨A,cap,rfl,hS⟩,f1⟩
 refine⟨_,rfl,?_⟩
 generalize aT ld=q at*
 obtain⟨d,k⟩:=q
 unfold pK
 dsimp only at hin hr hS⊢
 refine W ?_
 refine sA ?_
 intro w2 hG f2
 refine W ?_
 refine sT ?_
 intro w3 hG f3
 have f3:=bA f2 (Nat.le_refl _) f3
 have hD:AY w3 L d A cap d.os.length w1.heap.size:=⟨hG,(hS.sub (T:=bW L) (fun b _ hb=>h.lt b hb)).keep (f3.of_no _),fun hx=>absurd (h.lt _ hx) (by have:=f1.size;omega),rfl,by omega,hin.1,hin.2.1⟩
 have f:=f1.none f3
 replace h:=h.none f
 have hwt:=hD.wt
 generalize w1.heap.size=g at*
 obtain⟨n,hn⟩:∃n,d.os.length=n:=⟨_,rfl⟩
 rw[hn]at hD⊢
 clear f1 f2 f3 hG hS
 refine W ?_
 obtain⟨b,hb⟩:∃b,b=decide (¬(k=0∧d.reply=true∧d.xid=s.xid∧d.mac=s.c.card)):=⟨_,rfl⟩
 refine cM [0,4] [(42,.bool b)] (fun w'=>aC w' L s∧AY w' L d A cap n g∧Fr noB w w') ?_ ?_
 ·have hE:=kI d.mac s.c.card
  have hGd:=eP
  unfold wT at hE
  obtain⟨c,hc⟩:∃c,c=decide (d.mac≠s.c.card):=⟨_,rfl⟩
  replace hb:b= !decide (k=0∧d.reply=true∧d.xid=s.xid∧c=false):=by rw[hb,hc];simp
  rw[←hc]at hE
  clear hc hr hin
  refine dI (An h (An hD f)) [] (up 27 0) (h:= ?_)
  clear h hD f
  intro w5 h5 _
  by_cases a1:k=0
  cases a2:d.reply
  rotate_left
  by_cases a3:d.xid=s.xid
  cases c
  all_goals
   refine D ?_
   refine tN ?_
   exact mt h5
 clear h hD f
 rintro u w3 ⟨h,hD,f⟩
 cases b
 rotate_left
 ·rw[if_neg (of_decide_eq_true hb.symm)]at hr
  clear hb
  refine W ?_
  exact cH.two ⟨rfl,by rw[hr];exact h,f.of_no _⟩
 rw[if_pos (Decidable.not_not.1 (of_decide_eq_false hb.symm))]at hr
 clear hb
 refine W ?_
 refine sC (EB (bW L) A n cap d.os 53 w3 hD.sl (by have:=dO d.os;omega)) ?_
 intro w4 f4
 have h4:=h.none f4
 have hD4:=hD.none f4
 refine W ?_
 refine sC (fO d A cap n 54 false w4 hD4.hn (hD4.sl.sub fun b _ x=>x.elim) hwt) ?_
 intro w5 f5
 have h5:=h4.none f5
 have hD5:=hD4.none f5
 replace f:=(f.none f4).none f5
 clear h hD h4 hD4 f4 f5
 by_cases hq:((bF d.os 53).getD []).length=1∧(eT d.os 54 false).isSome=true
 rotate_left
 ·rw[BV s d hq]at hr
  by_cases a1:((bF d.os 53).getD []).length=1
  ·have a2:(eT d.os 54 false).isSome=false:=by simpa[a1]using hq
   clear hq
   refine W ?_
   exact cH.two ⟨rfl,by rw[hr];exact h5,f.of_no _⟩
  ·clear hq
   refine W ?_
   exact cH.two ⟨rfl,by rw[hr];exact h5,f.of_no _⟩
 obtain⟨hlen,hsm⟩:=hq
 obtain⟨fm,hnu⟩:=Option.isSome_iff_exists.1 hsm
 have hfm:=mB _ _ _ _ hnu
 obtain⟨kd,hkd⟩:∃kd,bF d.os 53=some [kd]:=by
  cases ho:bF d.os 53 with
  |none=>rw[ho]at hlen;cases hlen
  |some l=>
   rw[ho]at hlen
   match l,hlen with
   |[x],_=>exact⟨x,rfl⟩
 have hl:s.leased d=(if kd=2 then if s.lease=1∧d.yours≠0 then({s with addr:=d.yours,server:=fm}:St).goes 2 else s
  else if kd=5 then if fm=s.server∨s.lease=6 then s.granted d fm else s
  else if kd=6 then if(fm=s.server∨s.lease=6)∧2≤s.lease∧s.lease≠3 then s.drop else s
  else s):=by unfold St.leased;rw[hkd,jL,hnu]
 rw[hl]at hr
 rw[hkd,hnu,Option.getD_some,Option.getD_some]
 clear hl hkd hnu hlen hsm hin
 have hi:∀h:0<(bs [kd]).size,(bs [kd])[0]'h=kd:=fun _=>rfl
 refine W ?_
 by_cases k2:kd=2
 ·have e2:kd.toNat=2:=by rw[k2];rfl
  rw[if_pos k2]at hr
  by_cases a1:s.lease=1
  by_cases a2:d.yours=0
  rotate_left
  ·rw[if_pos ⟨a1,a2⟩]at hr
   refine W ?_
   refine sB {s with addr:=d.yours} {h5.ok with addr:=hD5.yours} h5 ?_
   intro w6 h6 f6
   refine W ?_
   refine sB {s with addr:=d.yours,server:=fm} {h6.ok with server:=hfm} h6 ?_
   intro w7 h7 f7
   refine W ?_
   refine sC (uV L _ 2 w7 h7) ?_
   rintro w8 ⟨h8,f8⟩
   refine W ?_
   exact cH.two ⟨rfl,by rw[hr];exact h8,(((f.of_no _).trans f6).trans f7).trans f8⟩
  all_goals
   rw[if_neg (by omega)]at hr
   refine W ?_
   exact cH.two ⟨rfl,by rw[hr];exact h5,f.of_no _⟩
 rw[if_neg k2]at hr
 have n2:¬kd.toNat=2:=fun e=>k2 (UInt8.toNat_inj.1 e)
 by_cases k5:kd=5
 ·have e5:kd.toNat=5:=by rw[k5];rfl
  rw[if_pos k5]at hr
  clear n2 k2
  refine W ?_
  refine sC (AS L s d A cap n fm w5 h5 hD5.hn hD5.sl hwt hfm hD5.yours hD5.next) ?_
  rintro w6 ⟨h6,f6⟩
  refine W ?_
  exact cH.two ⟨rfl,by rw[hr];exact h6,(f.of_no _).trans f6⟩
 rw[if_neg k5]at hr
 have n5:¬kd.toNat=5:=fun e=>k5 (UInt8.toNat_inj.1 e)
 by_cases k6:kd=6
 ·have e6:kd.toNat=6:=by rw[k6];rfl
  rw[if_pos k6]at hr
  clear n2 k2 n5 k5
  by_cases a1:2≤s.lease
  by_cases a2:s.lease=3
  rotate_left
  by_cases a3:fm=s.server
  rotate_left
  by_cases a4:s.lease=6
  rotate_left
  iterate 3
   rw[if_neg (by omega)]at hr
   refine W ?_
   exact cH.two ⟨rfl,by rw[hr];exact h5,f.of_no _⟩
  all_goals
   rw[if_pos (by omega)]at hr
   refine W ?_
   refine sC (wD L s w5 h5) ?_
   intro w6 h6
   refine W ?_
   exact .comp (L1:=L) rfl (fun _=> .inl) (f.of_no _) ⟨rfl,by rw[hr];exact h6⟩
 rw[if_neg k6]at hr
 have n6:¬kd.toNat=6:=fun e=>k6 (UInt8.toNat_inj.1 e)
 refine W ?_
 exact cH.two ⟨rfl,by rw[hr];exact h5,f.of_no _⟩
end Go.Proofs.YtcllkmllflheiaaGreatDoor
namespace Go.Proofs.YtcllkmllflheiaaGreatDoor
open Go.RowKit Go.Proofs
attribute [local simp] eC ibq ibn eqN ltN leN eqL ltL gtL leL geL
def St.loadsP (s:St) (fm:Nat) (ld:List UInt8):St:=if(sH ld).2=0 then s.loads fm (sH ld).1 else s
end Go.Proofs.YtcllkmllflheiaaGreatDoor
namespace Go.Proofs.YtcllkmllflheiaaGreatDoor
open Go.RowKit Go.Proofs
attribute [local go_sem] aG aD cV aF
theorem vG (x:Ae):(oX x).size=(rdZ 0).size:=rfl
theorem DD (x:Ae):(oX x).all (·.oneCell')=true:=by kernel_rfl
theorem En (x:Ae):(Tryz.prog.info? 125).map (·.size)=some (oX x).size:=by rw[vG];kernel_rfl
theorem rO (l:List UInt8) (w:World) (hl:l.length≤9223372036854775807):
 Calls Tryz.prog 107 #[.string (bs l)] w (sY l w):=by
 go_enter Tryz.func107,Tryz.ntmps107
 go_wp2_with fail
 have hx0:=Bk.new w 125 (rdZ 0)
 have hf0:Fr noB w (w.alloc (.cells (rdZ 0) 125)):=(Fr.refl _ _).alloc _
 simp only[rdZ]at hx0 hf0
 generalize w.alloc (.cells #[.int .u16 0,.int .u8 0,.int .u8 0,.int .u8 0,.int .u8 0,.int .u8 0,.int .u8 0,.int .u32 0,.int .u8 0,.int .u8 0,.int .u8 0,.int .u8 0,.int .u8 0,.int .u8 0,.int .u32 0] 125)=w1 at*
 refine(Gt l _ hl).mono ?_
 rintro e w2 ⟨rfl,hf1⟩
 have hx1:=hx0.keep hf1 (fun x=>x)
 have hsz:=Lib.hid (vG (bJ l).1)
 have hin:=Lib.hid (En (bJ l).1)
 have hon:=Lib.hid (DD (bJ l).1)
 generalize hr:bJ l=r at*
 have Hr:=Lib.hid hr
 clear hr
 generalize hc:oX r.1=c at*
 have Hc:=Lib.hid hc
 clear hc
 go_wp2_with ((refine aP rfl 125 (.tmp 2) (.tmp 6) rfl w.heap.size _ _ c rfl rfl hx1 hsz.out hin.out hon.out ?_);intro w9 hx9 hf9)
 refine bodyPost_ret (bZ Tryz.results107 _ w9 w.heap.size _ c _ _ rfl rfl hx9 Tryz.underlying125 rfl hin.out) rfl ?_
 exact⟨by rw[Hr.out,Hc.out];rfl,(hf0.none hf1).trans' hf9 (fun b hb e=>by unfold aJ at e;omega)⟩
end Go.Proofs.YtcllkmllflheiaaGreatDoor
namespace Go.Proofs.YtcllkmllflheiaaGreatDoor
open Go.RowKit Go.Proofs
attribute [local simp] eC oX ibq ibn eqN ltN leN eqL ltL gtL leL geL
attribute [local go_sem] aG aD aE aF
theorem fM (l:List UInt8) (i j n:Nat) (hn:j-i=n):num (sub l i j)<256^n:=by
 have h:=uN (sub l i j)
 have h2:(sub l i j).length≤n:=by unfold sub;rw[List.length_drop,List.length_take];omega
 exact Nat.lt_of_lt_of_le h (Nat.pow_le_pow_right (by decide) h2)
theorem pY (l:List UInt8):(bJ l).1.op<65536∧(bJ l).1.fi<4294967296∧(bJ l).1.ti<4294967296:=by
 unfold bJ
 have h1:=fM l 6 8 2 rfl
 have h2:=fM l 14 18 4 rfl
 have h3:=fM l 24 28 4 rfl
 repeat' split
 all_goals(refine⟨?_,?_,?_⟩<;>simp[Gx]<;>omega)
theorem Eg (s:St) (a:Ae) (m:Bool):s.learn a m=if eF s.cache a.fi=[]then {s with cache:=fZ s.cache a.fi a.fm m s.now}else({s with cache:=fZ s.cache a.fi a.fm m s.now}:St).send a.fm 2048 (eF s.cache a.fi):=by
 unfold St.learn eF fZ
 cases lB s.cache a.fi with
 |none=>
  dsimp only
  rw[if_pos rfl]
  cases m<;>simp
 |some o=>rfl
theorem Ck {s:St} {ip:Nat} {card:Mac} {m:Bool} (h:s.Ok):({s with cache:=fZ s.cache ip card m s.now}:St).Ok:=by
 have hw:=EE h.now0 h.now1 60 (by omega)
 have n1:=h.now1
 have n0:=h.now0
 have key:(∀e∈fZ s.cache ip card m s.now,e.waits.length≤1500∧0≤e.due∧e.due≤4611686018427388000)∧(fZ s.cache ip card m s.now).length≤4:=by
  unfold fZ
  split
  ·split
   ·refine⟨fun e he=> ?_,vW h.cache⟩
    rcases uQ he with rfl|he
    ·exact⟨by simp,by simp only[hw];omega,by simp only[hw];omega⟩
    ·exact⟨h.waits e he,h.dues e he⟩
   ·exact⟨fun e he=>⟨h.waits e he,h.dues e he⟩,h.cache⟩
  ·refine⟨fun e he=> ?_,by rw[qS];exact h.cache⟩
   rcases qW he with he|⟨y,hy,rfl⟩
   ·exact⟨h.waits e he,h.dues e he⟩
   ·exact⟨by simp,by simp only[hw];omega,by simp only[hw];omega⟩
 exact {h with waits:=fun e he=>(key.1 e he).1,dues:=fun e he=>(key.1 e he).2,cache:=key.2}
theorem tS {s:St} {ip:Nat} (h:s.Ok):(eF s.cache ip).length≤1500:=by
 unfold eF
 split
 ·simp
 ·next e he=>exact h.waits e (gR he).1
def St.arpP (s:St) (ld:List UInt8):St:=if(bJ ld).2=0 then s.arped (bJ ld).1 else s
attribute [-go_sem] run_eql_struct run_neq_struct run_equalIn_agg in
theorem Ay (L:Lay) (s:St) (ld:List UInt8) (w:World) (h:aC w L s) (hld:ld.length≤9223372036854775807):
 Calls Tryz.prog 69 #[.pointer (some ⟨L.p,0,none⟩),.string (bs ld)] w (bP L (s.arpP ld) (.tuple #[]) w):=by
 have hin:=pY ld
 obtain⟨r,hr⟩:∃r,r=s.arpP ld:=⟨_,rfl⟩
 rw[←hr]
 unfold St.arpP at hr
 refine en Tryz.func69 Tryz.ntmps69 ?_
 refine W ?_
 refine sC (rO ld w hld) ?_
 intro w1 f1
 generalize bJ ld=q at*
 obtain⟨x,k⟩:=q
 dsimp only at hin hr⊢
 refine W ?_
 refine sA ?_
 intro w2 hG f2
 refine W ?_
 refine sT ?_
 intro w3 hG f3
 have f:=f1.none (bA f2 (Nat.le_refl _) f3)
 have hg:¬bW L w1.heap.size:=fun hx=>absurd (h.lt _ hx) (by have:=f1.size;omega)
 have hok:=h.ok
 have h:=h.none f
 generalize w1.heap.size=g at*
 clear f1 f2 f3
 by_cases hk:k=0
 rotate_left
 ·refine W ?_
  exact cH.two ⟨rfl,by rw[hr,if_neg hk];exact h,f.of_no _⟩
 subst hk
 rw[if_pos rfl]at hr
 unfold St.arped at hr
 refine W ?_
 obtain⟨b,hb⟩:∃b,b=decide (s.lease=3∧x.fi=s.addr∧x.fm≠s.c.card):=⟨_,rfl⟩
 refine cM [0,4] [(40,.bool b)] (fun w'=>aC w' L s∧Bk w' g 125 (oX x)∧Fr noB w w') ?_ ?_
 ·have hE:=kI x.fm s.c.card
  have hGd:=eP
  unfold wT at hE
  obtain⟨c,hc⟩:∃c,c=decide (x.fm≠s.c.card):=⟨_,rfl⟩
  replace hb:b=decide (s.lease=3∧x.fi=s.addr∧c=true):=by rw[hb,hc];simp only[decide_eq_true_eq]
  rw[←hc]at hE
  clear hc hr hin
  refine dI (An h (An hG f)) [] (up 26 0) (h:= ?_)
  clear h hG f
  intro w5 h5 _
  cases c<;>by_cases a1:s.lease=3<;>by_cases a2:x.fi=s.addr<;>refine D ?_<;>refine tN ?_<;>exact mt h5
 clear h hG f
 rintro u w4 ⟨h,hG,f⟩
 cases b
 rotate_left
 ·rw[if_pos (of_decide_eq_true hb.symm)]at hr
  clear hb
  refine W ?_
  refine sC (wS L s w4 h) ?_
  intro w5 h5
  refine W ?_
  exact .comp (L1:=L) rfl (fun _=> .inl) (f.of_no _) ⟨rfl,by rw[hr];exact h5⟩
 rw[if_neg (of_decide_eq_false hb.symm)]at hr
 clear hb
 refine W ?_
 obtain⟨m,hm⟩:∃m,m=(s.address !=0&&x.ti==s.address):=⟨_,rfl⟩
 replace hr:r=if m&&x.op==1 then St.arp (if x.fi≠0∧x.fi≠s.address then s.learn x (m&&x.op==1)else s) 2 x.fm x.fm (St.address (if x.fi≠0∧x.fi≠s.address then s.learn x (m&&x.op==1)else s)) x.fi else(if x.fi≠0∧x.fi≠s.address then s.learn x (m&&x.op==1)else s):=by
  rw[hr];unfold St.asked;rw[←hm]
 refine cM [0,4] [(6,.bool m)] (fun w'=>aC w' L s∧Bk w' g 125 (oX x)∧Fr noB w w') ?_ ?_
 ·refine dI (An h (An hG f)) [] (up 11 0) (h:= ?_)
  clear h hG f
  intro w5 h5 _
  by_cases a1:s.address=0
  ·refine D ?_
   refine dC (aY L s w5 h5.1) ?_ ?_
   ·rintro _ rfl;exact h5
   rintro w6 rfl _
   refine D ?_
   refine tN ?_
   exact mt h5
  ·refine D ?_
   refine dC (aY L s w5 h5.1) ?_ ?_
   ·rintro _ rfl;exact h5
   rintro w6 rfl _
   refine D ?_
   refine dC (aY L s w5 h5.1) ?_ ?_
   ·rintro _ rfl;exact h5
   rintro w6 rfl _
   by_cases a2:x.ti=s.address<;>refine D ?_<;>refine tN ?_<;>exact mt h5
 clear h hG f
 rintro u w5 ⟨h,hG,f⟩
 clear hm
 refine cS ?_
 refine cM [0,4,6] [] (fun w'=>∃t,aC w' L t∧Bk w' g 125 (oX x)∧Fr (bW L) w w'∧t=if x.fi≠0∧x.fi≠s.address then s.learn x (m&&x.op==1)else s) ?_ ?_
 ·clear hr
  obtain⟨b,hb⟩:∃b,b=decide (x.fi≠0∧x.fi≠s.address):=⟨_,rfl⟩
  refine cS ?_
  refine cM [0,4,6] [(62,.bool b)] (fun w'=>aC w' L s∧Bk w' g 125 (oX x)∧Fr noB w w') ?_ ?_
  ·refine dI (An h (An hG f)) [] (up 10 0) (h:= ?_)
   clear h hG f
   intro w5 h5 _
   by_cases a1:x.fi=0
   ·refine D ?_
    refine tN ?_
    exact mt h5
   ·refine D ?_
    refine dC (aY L s w5 h5.1) ?_ ?_
    ·rintro _ rfl;exact h5
    rintro w6 rfl _
    by_cases a2:x.fi=s.address<;>refine D ?_<;>refine tN ?_<;>exact mt h5
  clear h hG f
  rintro u w5 ⟨h,hG,f⟩
  cases b
  ·replace hb:=of_decide_eq_false hb.symm
   refine cF rfl ?_
   refine W ?_
   exact mt ⟨s,h,hG,f.of_no _,by rw[if_neg hb]⟩
  replace hb:=of_decide_eq_true hb.symm
  refine cT rfl ?_
  rw[if_pos hb]
  clear hb
  refine cS ?_
  refine cM [0,4,6] [(7,.string (bs (eF s.cache x.fi)))] (fun w'=>aC w' L {s with cache:=fZ s.cache x.fi x.fm (m&&x.op==1) s.now}∧Bk w' g 125 (oX x)∧Fr (bW L) w w') ?_ ?_
  ·refine dI (An h (An hG f)) [17] (up 19 0) (h:= ?_)
   clear h hG f
   rintro w6 ⟨h,hG,f⟩ _
   have hne:=h.ne
   simp only[Lay.blocks,List.nodup_cons,List.mem_cons,List.not_mem_nil,or_false,not_or]at hne
   have hne:=hne.1.2.2.2.2
   cases m<;>refine D ?_<;>refine dD (AJ L.p 15 L.mp x.fi s.cache x.fm.1 x.fm.2.1 x.fm.2.2.1 x.fm.2.2.2.1 x.fm.2.2.2.2.1 x.fm.2.2.2.2.2 _ s.now w6 h.g15 (fun x=>hne x) h.mp h.ok.dues h.ok.cache hin.2.1) ?_<;>rintro w7 ⟨hm,f7⟩<;>refine D ?_<;>refine tN ?_<;>
    exact mt ⟨h.mpTurn f7 hm (Ck h.ok),hG.keep f7 (fun e=>hg (by obtain rfl:g=L.mp:=e;exact oP L)),(f.of_no _).trans (f7.mono fun b _ hb=>by obtain rfl:b=L.mp:=hb;exact oP L)⟩
  clear h hG f
  rintro u w6 ⟨h,hG,f⟩
  have hq:=Eg s x (m&&x.op==1)
  have hql:=tS (ip:=x.fi) hok
  generalize eF s.cache x.fi=q at*
  by_cases hn:q=[]
  ·subst hn
   rw[if_pos rfl]at hq
   rw[show bs []=⟨#[]⟩from rfl]
   refine W ?_
   exact mt ⟨_,h,hG,f,hq.symm⟩
  ·rw[if_neg hn]at hq
   refine W ?_
   refine sC (jC L _ x.fm.1 x.fm.2.1 x.fm.2.2.1 x.fm.2.2.2.1 x.fm.2.2.2.2.1 x.fm.2.2.2.2.2 2048 q w6 h (by decide) (by omega)) ?_
   rintro w7 ⟨h7,f7⟩
   refine W ?_
   exact mt ⟨_,h7,hG.keep f7 hg,f.trans f7,hq.symm⟩
 clear h hG f
 rintro u w6 ⟨t,h,hG,f,ht⟩
 rw[←ht]at hr
 clear ht
 cases m
 ·refine W ?_
  exact cH.two ⟨rfl,by rw[hr];exact h,f⟩
 by_cases o:x.op=1
 ·rw[o]at hr
  refine W ?_
  refine dI (An h hG) [9] [0,1,2,3,4,5,7,8,6,9] (h:= ?_)
  rintro w7 ⟨h7,hG7⟩ f7
  refine D ?_
  refine dC (aY L t w7 h7) ?_ ?_
  ·rintro _ rfl;exact⟨h7,hG7⟩
  rintro w8 rfl _
  refine D ?_
  have hadl:t.address<4294967296:=by unfold St.address;split;exact h.ok.addr;omega
  refine dD (zT L t 2 t.address x.fi x.fm.1 x.fm.2.1 x.fm.2.2.1 x.fm.2.2.2.1 x.fm.2.2.2.2.1 x.fm.2.2.2.2.2 x.fm.1 x.fm.2.1 x.fm.2.2.1 x.fm.2.2.2.1 x.fm.2.2.2.2.1 x.fm.2.2.2.2.2 w7 h7 (by decide) hadl hin.2.1) ?_
  rintro w8 ⟨h8,f8⟩
  refine D ?_
  refine W ?_
  exact cH.two ⟨rfl,by rw[hr];exact h8,(f.trans (f7.of_no _)).trans f8⟩
 ·refine W ?_
  exact cH.two ⟨rfl,by rw[hr,if_neg (by simpa using o)];exact h,f⟩
end Go.Proofs.YtcllkmllflheiaaGreatDoor
namespace Go.Proofs.YtcllkmllflheiaaGreatDoor
open Go.RowKit Go.Proofs
attribute [local go_sem] aG aD cV aF
theorem yR (x:IpD):(ipC x).size=(rdZ 2).size:=rfl
theorem FP (x:IpD):(ipC x).all (·.oneCell')=true:=by kernel_rfl
theorem FT (x:IpD):(Tryz.prog.info? 130).map (·.size)=some (ipC x).size:=by rw[yR];kernel_rfl
theorem vB (l:List UInt8) (w:World) (hl:l.length≤9223372036854775807):
 Calls Tryz.prog 110 #[.string (bs l)] w (zV l w):=by
 go_enter Tryz.func110,Tryz.ntmps110
 have hmf:∀(fn:Fn) (first cap:Array Value) (w:World),(Instr.makeFunc fn first cap).run Tryz.prog w= .ok (.func fn first cap) w:=fun _ _ _ _=>rfl
 go_wp2_with fail
 have hs0:=(Bk.new w 9 #[.string (bs l)]).alloc (.cells (rdZ 2) 130)
 have hx0:=Bk.new (w.alloc (.cells #[.string (bs l)] 9)) 130 (rdZ 2)
 rw[show(w.alloc (.cells #[.string (bs l)] 9)).heap.size=w.heap.size+1 by simp]at hx0
 have hf0:Fr noB w ((w.alloc (.cells #[.string (bs l)] 9)).alloc (.cells (rdZ 2) 130)):=((Fr.refl _ _).alloc _).alloc _
 simp only[rdZ]at hs0 hx0 hf0
 generalize(w.alloc (.cells #[.string (bs l)] 9)).alloc (.cells #[.int .u16 0,.int .u8 0,.int .u8 0,.int .u32 0,.int .u32 0,.string ⟨#[]⟩] 130)=w1 at*
 refine(Il l w.heap.size _ hs0 hl).mono ?_
 rintro e w2 ⟨rfl,hf1⟩
 have hx1:=hx0.keep hf1 (fun x=>x)
 have hsz:=Lib.hid (yR (aV l).1)
 have hin:=Lib.hid (FT (aV l).1)
 have hon:=Lib.hid (FP (aV l).1)
 generalize hr:aV l=r at*
 have Hr:=Lib.hid hr
 clear hr
 generalize hc:ipC r.1=c at*
 have Hc:=Lib.hid hc
 clear hc
 go_wp2_with ((refine aP rfl 130 (.tmp 2) (.tmp 7) rfl (w.heap.size+1) _ _ c rfl rfl hx1 hsz.out hin.out hon.out ?_);intro w9 hx9 hf9)
 refine bodyPost_ret (bZ Tryz.results110 _ w9 (w.heap.size+1) _ c _ _ rfl rfl hx9 Tryz.underlying130 rfl hin.out) rfl ?_
 exact⟨by rw[Hr.out,Hc.out];rfl,(hf0.none hf1).trans' hf9 (fun b hb e=>by unfold aJ at e;omega)⟩
end Go.Proofs.YtcllkmllflheiaaGreatDoor
namespace Go.Proofs.YtcllkmllflheiaaGreatDoor
open Go.RowKit Go.Proofs
attribute [local go_sem] aG aD cV aF
theorem uC (x:EJ):(AW x).size=(rdZ 3).size:=rfl
theorem EC (x:EJ):(AW x).all (·.oneCell')=true:=by kernel_rfl
theorem DB (x:EJ):(Tryz.prog.info? 134).map (·.size)=some (AW x).size:=by rw[uC];kernel_rfl
theorem qX (l:List UInt8) (fi ti:Nat) (w:World) (hfi:fi<4294967296) (hti:ti<4294967296) (hl:l.length≤9223372036854775807):
 Calls Tryz.prog 111 #[.string (bs l),.int .u32 (fi:Int),.int .u32 (ti:Int)] w (rB l fi ti w):=by
 go_enter Tryz.func111,Tryz.ntmps111
 have hmf:∀(fn:Fn) (first cap:Array Value) (w:World),(Instr.makeFunc fn first cap).run Tryz.prog w= .ok (.func fn first cap) w:=fun _ _ _ _=>rfl
 go_wp2_with fail
 have hs0:=(((Bk.new w 9 #[.string (bs l)]).alloc (.cells #[.int .u32 (fi:Int)] 53)).alloc (.cells #[.int .u32 (ti:Int)] 53)).alloc (.cells (rdZ 3) 134)
 have hi0:=((Bk.new (w.alloc (.cells #[.string (bs l)] 9)) 53 #[.int .u32 (fi:Int)]).alloc (.cells #[.int .u32 (ti:Int)] 53)).alloc (.cells (rdZ 3) 134)
 have ht0:=(Bk.new ((w.alloc (.cells #[.string (bs l)] 9)).alloc (.cells #[.int .u32 (fi:Int)] 53)) 53 #[.int .u32 (ti:Int)]).alloc (.cells (rdZ 3) 134)
 have hx0:=Bk.new (((w.alloc (.cells #[.string (bs l)] 9)).alloc (.cells #[.int .u32 (fi:Int)] 53)).alloc (.cells #[.int .u32 (ti:Int)] 53)) 134 (rdZ 3)
 simp only[World.size_alloc]at hs0 hi0 ht0 hx0
 have hf0:Fr noB w ((((w.alloc (.cells #[.string (bs l)] 9)).alloc (.cells #[.int .u32 (fi:Int)] 53)).alloc (.cells #[.int .u32 (ti:Int)] 53)).alloc (.cells (rdZ 3) 134)):=((((Fr.refl _ _).alloc _).alloc _).alloc _).alloc _
 simp only[rdZ]at hs0 hi0 ht0 hx0 hf0
 generalize(((w.alloc (.cells #[.string (bs l)] 9)).alloc (.cells #[.int .u32 (fi:Int)] 53)).alloc (.cells #[.int .u32 (ti:Int)] 53)).alloc (.cells #[.int .u16 0,.int .u16 0,.string ⟨#[]⟩] 134)=w1 at*
 refine(FG l fi ti w.heap.size (w.heap.size+1) (w.heap.size+1+1) _ hfi hti hs0 hi0 ht0 hl).mono ?_
 rintro e w2 ⟨rfl,hf1⟩
 have hx1:=hx0.keep hf1 (fun x=>x)
 have hsz:=Lib.hid (uC (bB l fi ti).1)
 have hin:=Lib.hid (DB (bB l fi ti).1)
 have hon:=Lib.hid (EC (bB l fi ti).1)
 generalize hr:bB l fi ti=r at*
 have Hr:=Lib.hid hr
 clear hr
 generalize hc:AW r.1=c at*
 have Hc:=Lib.hid hc
 clear hc
 go_wp2_with ((refine aP rfl 134 (.tmp 6) (.tmp 11) rfl (w.heap.size+1+1+1) _ _ c rfl rfl hx1 hsz.out hin.out hon.out ?_);intro w9 hx9 hf9)
 refine bodyPost_ret (bZ Tryz.results111 _ w9 (w.heap.size+1+1+1) _ c _ _ rfl rfl hx9 Tryz.underlying134 rfl hin.out) rfl ?_
 exact⟨by rw[Hr.out,Hc.out];rfl,(hf0.none hf1).trans' hf9 (fun b hb e=>by unfold aJ at e;omega)⟩
end Go.Proofs.YtcllkmllflheiaaGreatDoor
