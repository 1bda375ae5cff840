/- Parts of the walk; written by programs, merged. -/
import Derived.Test.YtcllkmllflheiaaGreatDoorLap
set_option linter.unusedSimpArgs false
set_option linter.unusedVariables false
set_option maxRecDepth 20000
set_option maxHeartbeats 8000000
namespace Go.Proofs.YtcllkmllflheiaaGreatDoor
open Go.RowKit Go.Proofs
attribute [local go_sem] aG aD cV aF
attribute [local simp] ibq ibn eqN ltN leN eqL ltL gtL leL geL
theorem vS (rp:Bool) (xid client yours next:Nat) (m0 m1 m2 m3 m4 m5:UInt8) (os:List aX) (Ao:Option Addr) (cap:Nat) (w:World)
 (hxid:xid<4294967296) (hcl:client<4294967296) (hyo:yours<4294967296) (hnx:next<4294967296) (hA:SlR w noB 2 Ao os.length (eA os)) (hwt:wtO os≤2097152):
 Calls Tryz.prog 96 #[.agg #[.bool rp,.int .u32 (xid:Int),.int .u32 (client:Int),.int .u32 (yours:Int),.int .u32 (next:Int),.int .u8 (m0.toNat:Int),.int .u8 (m1.toNat:Int),.int .u8 (m2.toNat:Int),.int .u8 (m3.toNat:Int),.int .u8 (m4.toNat:Int),.int .u8 (m5.toNat:Int),.slice Ao os.length cap]] w (eL (fH rp xid client yours next [m0,m1,m2,m3,m4,m5] os) w):=by
 obtain⟨n,hn⟩:∃n,os.length=n:=⟨_,rfl⟩
 have HN:=Lib.hid hn
 have hlw:=dO os
 rw[hn]at hA hlw⊢
 clear hn
 obtain⟨z,hz⟩:∃z,fH rp xid client yours next [m0,m1,m2,m3,m4,m5] os=z:=⟨_,rfl⟩
 unfold eL
 rw[hz]
 have HZ:=Lib.hid hz
 clear hz
 have e2:IntKind.i64.wrap (xid:Int)=xid:=IntWalk.i64_in _ (by omega)
 refine en Tryz.func96 Tryz.ntmps96 ?_
 refine W ?_
 refine sA ?_
 intro w1 hB f1
 refine W ?_
 refine cM [1] [(4,.string (bs (if rp then [2,1,6,0]else [1,1,6,0])))] (fun w'=>w'=w1) ?_ ?_
 ·cases rp<;>(refine W ?_;exact mt rfl)
 rintro u w2 rfl
 obtain⟨l1,hl1⟩:∃l,(if rp then [2,1,6,0]else [1,1,6,0]:List UInt8)=l:=⟨_,rfl⟩
 have n1:l1.length=4:=by rw[←hl1];split<;>rfl
 rw[hl1]
 have H1:=Lib.hid hl1
 clear hl1
 refine W2 ?_
 refine sC (iO xid 4 w2 (by omega) (by decide)) ?_
 intro w3 f3
 replace hB:=hB.keep f3 id
 replace f1:=f1.none f3
 refine W2 ?_
 refine cM [1] [(4,.string (bs (l1++(big 4 xid++[0,0])++(if client=0 then [128,0]else [0,0]))))] (fun w'=>w'=w3) ?_ ?_
 ·by_cases hc:client=0
  ·rw[if_pos hc]
   refine W2 ?_
   exact mt rfl
  ·rw[if_neg hc]
   refine W2 ?_
   exact mt rfl
 rintro u w4 rfl
 clear f3 e2
 obtain⟨l5,hl5⟩:∃l,l1++(big 4 xid++[0,0])++(if client=0 then [128,0]else [0,0])=l:=⟨_,rfl⟩
 have n5:l5.length=12:=by rw[←hl5];simp only[List.length_append,n1,aH];split<;>rfl
 rw[hl5]
 have H5:=Lib.hid hl5
 clear hl5 n1
 obtain⟨l7,hl7⟩:∃l,l5++big 4 client++big 4 yours++big 4 next++big 4 0++cG (m0,m1,m2,m3,m4,m5)=l:=⟨_,rfl⟩
 have n7:l7.length=34:=by rw[←hl7];simp only[List.length_append,n5,aH,mcL]
 refine W2 ?_
 refine cM [1] [(4,.string (bs (l7++List.replicate (236-l7.length) 0++[99,130,83,99])))] (fun w'=>Bk w' w.heap.size 139 #[.bool rp,.int .u32 (xid:Int),.int .u32 (client:Int),.int .u32 (yours:Int),.int .u32 (next:Int),.int .u8 (m0.toNat:Int),.int .u8 (m1.toNat:Int),.int .u8 (m2.toNat:Int),.int .u8 (m3.toNat:Int),.int .u8 (m4.toNat:Int),.int .u8 (m5.toNat:Int),.slice Ao n cap]∧Fr noB w w') ?_ ?_
 ·refine dI (An hB f1) [] [0,1,5,9,15,2,6,10,16,3,4,7,8,11,12,13,14,17,18,19,20,21] (h:= ?_)
  rintro w5 hS _
  clear hB f1
  refine D2 ?_
  refine dQc (lI client _ (by omega)) hS ?_
  intro _ _ hS
  refine D2 ?_
  refine dQc (lI yours _ (by omega)) hS ?_
  intro _ _ hS
  refine D2 ?_
  refine dQc (lI next _ (by omega)) hS ?_
  intro _ _ hS
  refine D2 ?_
  refine dQc (lI 0 _ (by omega)) hS ?_
  intro _ _ hS
  refine D2 ?_
  refine dQc (uD (m0,m1,m2,m3,m4,m5) _) hS ?_
  intro _ _ hS
  refine D2 ?_
  rw[show l5++(big 4 client++(big 4 yours++(big 4 next++big 4 0)))++cG (m0,m1,m2,m3,m4,m5)=l7 by rw[←hl7];simp only[List.append_assoc]]
  refine dQc (xA l7 236 _ (by omega) (by decide)) hS ?_
  intro _ _ hS
  refine D2 ?_
  refine tN ?_
  exact mt hS
 clear hB f1
 rintro u w5 ⟨hB,f1⟩
 obtain⟨l9,hl9⟩:∃l,gK rp xid client yours next [m0,m1,m2,m3,m4,m5]=l:=⟨_,rfl⟩
 have n9:l9.length=240:=by rw[←hl9];exact kC _ _ _ _ _ _ rfl
 have h9:l7++List.replicate (236-l7.length) 0++[99,130,83,99]=l9++iP (os.take 0):=by
  rw[←hl9,←hl7,←H5.out,←H1.out,show iP (os.take 0)=[]from rfl,List.append_nil]
  unfold gK mT
  have e0:(if rp then [2,1,6,0]else [1,1,6,0]:List UInt8)++(big 4 xid++[0,0])++(if client=0 then [128,0]else [0,0])++big 4 client++big 4 yours++big 4 next++big 4 0++cG (m0,m1,m2,m3,m4,m5)=
   [if rp then 2 else 1,1,6,0]++big 4 xid++[0,0]++(if client=0 then [128,0]else [0,0])++big 4 client++big 4 yours++big 4 next++big 4 0++[m0,m1,m2,m3,m4,m5]:=by
   cases rp<;>simp[cG]
  rw[e0]
 rw[h9]
 have H9:=Lib.hid hl9
 clear h9 hl9 hl7 n7 H5 H1 n5
 refine W2 ?_
 refine cL (fun i=>n-i) (fun(i:Nat)=>[(46,.slice Ao n cap),(47,.int .i64 (n:Int)),(48,.int .i64 (i:Int)),(4,.string (bs (l9++iP (os.take i))))])
  (fun i w'=>i≤n∧vN os i∧Fr noB w w') 0 (mt (p:=True) trivial).1 ⟨Nat.zero_le _,fun j o h=>absurd h (by omega),f1⟩ ?_
 clear hB f1
 rintro i u w6 ⟨hi,hgood,hw⟩
 have hAf:=hA.keep hw
 have hbl:(l9++iP (os.take i)).length≤20000000:=by
  have h1:=oL (os.take i)
  have h2:=tJ os i
  rw[List.length_append];omega
 have Hg:=Lib.hid hgood
 clear hgood
 by_cases hlt:i<n
 ·obtain⟨o,ho⟩:∃o,os[i]? =some o:=⟨_,List.getElem?_eq_getElem (by have:=HN.out;omega)⟩
  obtain⟨ad,rfl,c1,c2⟩:=hAf.optAt ho
  have i1:IntKind.i64.wrap ((i:Int)+1)=((i+1:Nat):Int):=(IntWalk.i64_in _ (by omega)).trans (by omega)
  have hol:=uM os i o ho
  have Ho:=Lib.hid ho
  clear ho hA
  obtain⟨lb,hlb⟩:∃lb,l9++iP (os.take i)=lb:=⟨_,rfl⟩
  rw[hlb]at hbl⊢
  have HL:=Lib.hid hlb
  clear hlb
  refine W ?_
  refine sA ?_
  intro w7 hE f7
  refine W ?_
  refine sT ?_
  intro w8 hE f8
  replace hw:=hw.none (bA f7 (Nat.le_refl _) f8)
  clear f7 f8 c1 c2 hAf
  by_cases hk:iL o=true
  ·obtain rfl:z=([],2):=HZ.out.symm.trans (by unfold fH;rw[if_pos (List.any_eq_true.2 ⟨o,List.mem_of_getElem? Ho.out,hk⟩)])
   have hk':o.code.toNat=0∨o.code.toNat=52∨o.code.toNat=255:=by
    have:=hk
    simp only[iL,Bool.or_eq_true,beq_iff_eq]at this
    rcases this with(h|h)|h<;>rw[h]<;>decide
   clear hk
   rcases hk' with hk|hk|hk<;>(refine W ?_;exact⟨rfl,hw⟩)
  have g1:Hid (vN os (i+1)):=Lib.hid (by
   intro j o' hj h2
   rcases Nat.lt_or_ge j i with h3|h3
   ·exact Hg.out j o' h3 h2
   ·obtain rfl:j=i:=by omega
    rw[Ho.out]at h2;cases h2
    exact Bool.not_eq_true _▸hk)
  have k':¬o.code.toNat=0∧¬o.code.toNat=52∧¬o.code.toNat=255:=by
   refine⟨fun h=>hk ?_,fun h=>hk ?_,fun h=>hk ?_⟩<;>unfold iL
   ·rw[UInt8.toNat.inj (show o.code.toNat=(0:UInt8).toNat from h)];rfl
   ·rw[UInt8.toNat.inj (show o.code.toNat=(52:UInt8).toNat from h)];rfl
   ·rw[UInt8.toNat.inj (show o.code.toNat=(255:UInt8).toNat from h)];rfl
  obtain⟨k0,k52,k255⟩:=k'
  clear hk
  refine W ?_
  have hcl:=lQ o.data.length o.code o.data (Nat.le_refl _)
  refine cL (fun p=>p.2.length) (fun(p:List UInt8×List UInt8)=>[(46,.slice (some ad) n cap),(47,.int .i64 (n:Int)),(48,.int .i64 (i:Int)),(6,.pointer (some ⟨w6.heap.size,0,none⟩)),(4,.string (bs p.1)),(7,.string (bs p.2))])
   (fun p w'=>p.1++lZ o.code p.2=lb++lZ o.code o.data∧p.2.length≤o.data.length∧Bk w' w6.heap.size 157 #[.int .u8 (o.code.toNat:Int),.string (bs o.data)]∧Fr noB w w') (lb,o.data) (mt (p:=True) trivial).1 ⟨rfl,Nat.le_refl _,hE,hw⟩ ?_
  clear hE hw
  rintro⟨p,d⟩ u w9 ⟨hp,hd,hE,hw⟩
  dsimp only at hp hd hE hw⊢
  have hpl:p.length≤30000000:=by
   have h1:=congrArg List.length hp
   rw[List.length_append,List.length_append]at h1
   omega
  have HP:=Lib.hid hp
  clear hp
  by_cases h255:255<d.length
  ·have l255:255≤d.length:=by omega
   refine W2 ?_
   refine dI (An hE hw) [] [0,1,5,6,2,3,4004,7,8,9] (h:= ?_)
   rintro w10 hS _
   clear hE hw
   refine D2 ?_
   refine dA2 (cs:= #[.int .u8 (o.code.toNat:Int),.int .u8 255]) inferInstance hS ?_
   intro _ hS hG _
   refine D2 ?_
   have hcv:=cvM [o.code,255] 2 hG rfl 2
   refine dU (h:= ?_) (fun _=>hS)
   clear hcv
   refine D2 ?_
   refine W2 ?_
   refine⟨(p++([o.code,255]++sub d 0 255),sub d 255 d.length),(mt (p:=True) trivial).1,⟨?_,?_,hS⟩,?_⟩
   ·dsimp only
    rw[←HP.out,nS o.code d h255,iF]
    simp[sub]
   ·dsimp only
    rw[bSz];omega
   ·dsimp only
    rw[bSz];omega
  ·have e8:IntKind.u8.wrap (d.length:Int)=d.length:=IntWalk.u8_in _ ⟨by omega,by omega⟩
   refine W2 ?_
   refine sA (cs:= #[.int .u8 (o.code.toNat:Int),.int .u8 (d.length:Int)]) ?_
   intro w10 hG f2
   replace hw:=hw.none f2
   have hcv:=cvM [o.code,UInt8.ofNat d.length] 2 hG (by simp[Nat.mod_eq_of_lt (show d.length<256 by omega)]) 2
   clear hE f2
   refine W2 ?_
   have e:l9++iP (os.take (i+1))=p++([o.code,UInt8.ofNat d.length]++d):=by
    rw[qC Ho.out,←List.append_assoc,HL.out,←HP.out,iG o.code d (by omega)]
   refine⟨i+1,by rw[e];exact(mt (p:=True) trivial).1,⟨hlt,g1.out,hw⟩,by omega⟩
 obtain rfl:i=n:=by omega
 obtain⟨lb,hlb⟩:∃lb,l9++iP (os.take i)=lb:=⟨_,rfl⟩
 rw[hlb]at hbl⊢
 have hd:mN l9 os=lb++[255]++List.replicate (300-(lb++[255]).length) 0:=by
  unfold mN mT
  rw[←hlb,List.take_of_length_le (by have:=HN.out;omega)]
  rfl
 have hz:=HZ.out
 unfold fH at hz
 have hg:=Hg.out
 rw[←HN.out]at hg
 rw[pW hg,H9.out,hd,if_neg (by decide)]at hz
 clear hlb hAf hA hg Hg H9 hd HZ
 refine W2 ?_
 refine sC (xA (lb++[255]) 300 _ (by rw[List.length_append];show _+1≤_;omega) (by decide)) ?_
 intro w7 f7
 replace hw:=hw.none f7
 clear f7
 generalize lb++[255]++List.replicate (300-(lb++[255]).length) 0=b at*
 split at hz<;>rename_i hb<;>subst hz<;>(refine W ?_;exact⟨rfl,hw⟩)
end Go.Proofs.YtcllkmllflheiaaGreatDoor
set_option maxRecDepth 20000
namespace Go.Proofs.YtcllkmllflheiaaGreatDoor
open Go.RowKit Go.Proofs
attribute [local go_sem] aG aD aE aF
theorem rM {P:Program} {Q:Exit→Act→World→Prop} {id:Nat} {a:Act} {w:World} {opl:List Oper} (hm:P.follows .mixedOrders=true) (S S1:World→Prop) (brk:List Nat) (t:Pl) (hB:(Region.noSelect opl.toArray&&plB opl.toArray brk t opl.toArray.size (Array.replicate opl.toArray.size false))=true)
 (hS:S w.drew) (hS1:S1 w.drew) (h:∀(ops':Array Oper) (Q':Exit→Act→World→Prop),Hid (ops'=opl.toArray)→(∀a w,Q .normal a w→Q' .normal a w)→∀w1,S w1→S1 w1→eE P ops' Q' S brk true t a w1):(Code.region id opl.toArray true).wp P Q a w:=
 mY hm S brk t hB hS (h opl.toArray (NoPanic Q) (Lib.hid rfl) (fun _ _ h=>h) _ hS hS1)
theorem Af {w:World} {e:TypeId} {base size n:Nat} {v:Value} {xs:List Value} (h:w.ownsRow base e size v (n+1) xs):∃g c,v= .slice (some ⟨g,0,none⟩) (n+1) c∧w.ownsRow base e size (.slice (some ⟨g,0,none⟩) (n+1) c) (n+1) xs:=by
 rcases h.2 with⟨_,h0⟩|⟨g,c,cur,hv,_⟩
 ·omega
 ·subst hv;exact⟨g,c,rfl,h⟩
theorem yU:∃i,Tryz.prog.info? 157=some i∧i.zero=some (.agg #[.int .u8 0,.string ⟨#[]⟩])∧i.size=2∧i.bytes=24:=⟨_,rfl,rfl,rfl,rfl⟩
theorem Fg (kind:UInt8):((kind.toNat:Int) !=4)= !decide (kind=4):=by
 by_cases h:kind=4
 ·subst h;rfl
 ·have h2:kind.toNat≠4:=fun e=>h (UInt8.toNat_inj.1 e)
  rw[decide_eq_false h]
  rw[show(!false)=true from rfl,bne_iff_ne];omega
def mF (w0 w:World) (g:Nat) (s:St) (os:List aX):Prop:=w0.heap.size≤g∧Fr noB w0 w∧∃A c,Bk w g 139 #[.bool false,.int .u32 (s.xid:Int),.int .u32 (s.address:Int),.int .u32 0,.int .u32 0,.int .u8 (s.c.card.1.toNat:Int),.int .u8 (s.c.card.2.1.toNat:Int),.int .u8 (s.c.card.2.2.1.toNat:Int),.int .u8 (s.c.card.2.2.2.1.toNat:Int),.int .u8 (s.c.card.2.2.2.2.1.toNat:Int),.int .u8 (s.c.card.2.2.2.2.2.toNat:Int),.slice A os.length c]∧w.ownsRow w0.heap.size 157 2 (.slice A os.length c) os.length (eA os)
theorem mF.keep {w0 w w':World} {g:Nat} {s:St} {os:List aX} (h:mF w0 w g s os) (hf:Fr noB w w'):mF w0 w' g s os:=by
 obtain⟨h1,h2,A,c,h3,h4⟩:=h
 exact⟨h1,h2.none hf,A,c,h3.keep hf (fun x=>x),dJ h4 hf (fun _ _ x=>x)⟩
theorem KE (A:Option Addr) (n cap:Nat) (a:Act) (w:World) (K:KT) (hs:Sz 70 a)
 (h3:sl a 3= .slice A n cap)
 (hK:∀a' w',Sz 70 a'→Kp [0,1,2,3,8,11,12] a a'→sl a' 30= .slice A n cap→sl a' 31= .int .i64 (n:Int)→sl a' 32= .int .i64 ((0:Nat):Int)→w'=w→K .normal a' w'):
 (aB Tryz.f66 1).wp Tryz.prog K a w:=by
 refine rgE hK (iX hs) fun HK=> ?_;clear hK hs
 simp only[nsF,h3]
 go_wp2_with fail
 exact HK.out _ _ ⟨rfl,rfl⟩ kZ (rfl) (rfl) (rfl) rfl
theorem JO (k n:Nat) (a:Act) (w:World) (K:KT) (hs:Sz 70 a)
 (h31:sl a 31= .int .i64 (n:Int)) (h32:sl a 32= .int .i64 (k:Int))
 (hK:∀a' w',Sz 70 a'→Kp [0,1,2,3,8,11,12,30,31,32] a a'→sl a' 33= .bool (decide (k<n))→w'=w→K .normal a' w'):
 (aB Tryz.f66 2).wp Tryz.prog K a w:=by
 refine rgE hK (iX hs) fun HK=> ?_;clear hK hs
 simp only[nsF,h31,h32]
 have e:decide ((k:Int)<(n:Int))=decide (k<n):=by simp
 go_wp2_with fail
 exact HK.out _ _ ⟨rfl,rfl⟩ kZ (rfl) rfl
theorem K4 (ga n c k:Nat) (o:aX) (a:Act) (w:World) (K:KT) (hs:Sz 70 a)
 (h30:sl a 30= .slice (some ⟨ga,0,none⟩) n c) (h32:sl a 32= .int .i64 (k:Int)) (hk:k<n) (c0:w.cell? ⟨ga,k*2,none⟩=some (.int .u8 (o.code.toNat:Int))) (c1:w.cell? ⟨ga,k*2+1,none⟩=some (.string (bs o.data)))
 (hK:∀a' w' (q:Nat),Sz 70 a'→Kp [0,1,2,3,8,11,12,30,31,32] a a'→sl a' 10= .pointer (some ⟨q,0,none⟩)→Fr noB w w'→Bk w' q 157 #[.int .u8 (o.code.toNat:Int),.string (bs o.data)]→K .normal a' w'):
 (aB Tryz.f66 3).wp Tryz.prog K a w:=by
 refine rgE hK (iX hs) fun HK=> ?_;clear hK hs
 simp only[nsF,h30,h32]
 go_wp2_with (first|((refine aP rfl 157 (.tmp 10) (.tmp 35) rfl w.heap.size _ _ #[.int .u8 (o.code.toNat:Int),.string (bs o.data)] rfl rfl (Bk.new w _ _) rfl (by kernel_rfl) (by kernel_rfl) ?_);intro w9 hx9 hf9))
 exact HK.out _ _ _ ⟨rfl,rfl⟩ kZ (rfl) (((Fr.refl _ _).alloc _).trans' hf9 (fun b hb e=>by have e':b=w.heap.size:=e;omega)) hx9
theorem Lb (s:St) (os:List aX) (w0:World) (g q:Nat) (o:aX) (a:Act) (w:World) (K:KT) (hs:Sz 70 a)
 (h8:sl a 8= .pointer (some ⟨g,0,none⟩)) (h10:sl a 10= .pointer (some ⟨q,0,none⟩)) (hS:mF w0 w g s os) (hQ:Bk w q 157 #[.int .u8 (o.code.toNat:Int),.string (bs o.data)]) (hl:os.length≤100000)
 (hK:∀a' w',Sz 70 a'→Kp [0,1,2,3,8,11,12,30,31,32] a a'→mF w0 w' g s (os++[o])→K .normal a' w'):
 (aB Tryz.f66 4).wp Tryz.prog K a w:=by
 refine rgE hK (iX hs) fun HK=> ?_;clear hK hs
 simp only[nsF,h8,h10]
 obtain⟨hg,hF,A,c,hB,hO⟩:=hS
 have hBc:=hB.cells
 have x0:=hQ.cell 0;have x1:=hQ.cell 1
 obtain⟨i0,hi,hz0,hz1,hz2⟩:=yU
 have hfr1:Fr noB w (w.alloc (.cells #[.int .u8 (o.code.toNat:Int),.string (bs o.data)] 157)):=(Fr.refl _ _).alloc _
 have hO1:=dJ hO hfr1 (fun _ _ x=>x)
 have hBa:=hB.keep hfr1 (fun x=>x)
 have hne:=Bv hO1 hBa (by decide)
 have hbas:=hF.size
 go_wp2_with (at_builtin;refine wpList_append_own_at _ rfl _ _ 137 rfl w0.heap.size 157 i0 (.agg #[.int .u8 0,.string ⟨#[]⟩]) 2 24 Tryz.underlying137 hi hz0 hz1 hz2 rfl (by decide) _ _ _ rfl hO1 ⟨w.heap.size,0,none⟩ 1 1 [.int .u8 (o.code.toNat:Int),.string (bs o.data)] rfl rfl (uI w #[.int .u8 (o.code.toNat:Int),.string (bs o.data)] 157) (by simp[Value.oneCell']) (by unfold maxLen;omega) (by omega) (by simp;omega) ?_;intro v' w3 hown' hg3 hnil3 hbk3;obtain⟨g',c',hv',hown2⟩:=Af hown';subst hv';have hf3:Fr (fun b=>b∈bH A) (w.alloc (.cells #[.int .u8 (o.code.toNat:Int),.string (bs o.data)] 157)) w3:=(Fr.refl _ _).grown hg3 (fun g h _=>qH h);have hB3:=hBa.keep hf3 (fun hx=>by cases A with|none=>cases hx|some a=>exact hne a rfl (by simpa[bH]using hx));have cc:=hB3.cell 11;have hfz:=hB3.frees;skip)
 have hown3:=mL (p:=⟨g,11,none⟩) hown2 hB3 (by decide) (.slice (some ⟨g',0,none⟩) (os.length+1) c')
 have hob:=jD hO1
 have hq:mF w0 (w3.setCell ⟨g,11,none⟩ (.slice (some ⟨g',0,none⟩) (os.length+1) c')) g s (os++[o]):=by
  refine⟨hg,((hF.none hfr1).trans' hf3 (fun b hb hx=> ?_)).setCell (p:=⟨g,11,none⟩) (fun e=>by have e':g<w0.heap.size:=e;omega) _,some ⟨g',0,none⟩,c',?_,?_⟩
  ·cases A with
   |none=>cases hx
   |some a=>have h1:=hob a rfl;have h2:b=a.block:=by simpa[bH]using hx
            omega
  ·rw[List.length_append];exact hB3.set 11 _
  ·rw[List.length_append,eK];exact hown3
 exact HK.out _ _ ⟨rfl,rfl⟩ kZ hq
theorem KN (k:Nat) (a:Act) (w:World) (K:KT) (hs:Sz 70 a)
 (h32:sl a 32= .int .i64 (k:Int)) (hk:k<9223372036854775807)
 (hK:∀a' w',Sz 70 a'→Kp [0,1,2,3,8,11,12,30,31] a a'→sl a' 32= .int .i64 ((k+1:Nat):Int)→w'=w→K .normal a' w'):
 (aB Tryz.f66 5).wp Tryz.prog K a w:=by
 refine rgE hK (iX hs) fun HK=> ?_;clear hK hs
 simp only[nsF,h32]
 clear h32
 have qw:IntKind.i64.wrap ((k:Int)+1)=((k+1:Nat):Int):=by rw[iQ];unfold wrap64;omega
 go_wp2_with fail
 exact HK.out _ _ ⟨rfl,rfl⟩ kZ (rfl) rfl
theorem KV (kind:UInt8) (a:Act) (w:World) (K:KT) (hs:Sz 70 a)
 (h1:sl a 1= .int .u8 (kind.toNat:Int))
 (hK:∀a' w',Sz 70 a'→Kp [0,1,2,3,8,11,12,30,31,32] a a'→sl a' 44= .bool (!decide (kind=4))→w'=w→K .normal a' w'):
 (aB Tryz.f66 6).wp Tryz.prog K a w:=by
 refine rgE hK (iX hs) fun HK=> ?_;clear hK hs
 simp only[nsF,h1]
 have e:=Fg kind
 go_wp2_with fail
 exact HK.out _ _ ⟨rfl,rfl⟩ kZ (rfl) rfl
theorem J2 (s:St) (os:List aX) (w0:World) (g:Nat) (a:Act) (w:World) (K:KT) (hs:Sz 70 a)
 (h8:sl a 8= .pointer (some ⟨g,0,none⟩)) (hS:mF w0 w g s os) (hl:os.length≤100000)
 (hK:∀a' w',Sz 70 a'→Kp [0,1,2,3,8,11,12,30,31,32] a a'→mF w0 w' g s (os++[⟨55,[1,3,51,54,58,59]⟩])→K .normal a' w'):
 (aB Tryz.f66 7).wp Tryz.prog K a w:=by
 refine rgE hK (iX hs) fun HK=> ?_;clear hK hs
 simp only[nsF,h8]
 obtain⟨hg,hF,A,c,hB,hO⟩:=hS
 have hBc:=hB.cells
 obtain⟨i0,hi,hz0,hz1,hz2⟩:=yU
 have hfr1:Fr noB w (w.alloc (.cells #[.int .u8 55,.string ⟨#[1,3,51,54,58,59]⟩] 157)):=(Fr.refl _ _).alloc _
 have hO1:=dJ hO hfr1 (fun _ _ x=>x)
 have hBa:=hB.keep hfr1 (fun x=>x)
 have hne:=Bv hO1 hBa (by decide)
 have hbas:=hF.size
 go_wp2_with (at_builtin;refine wpList_append_own_at _ rfl _ _ 137 rfl w0.heap.size 157 i0 (.agg #[.int .u8 0,.string ⟨#[]⟩]) 2 24 Tryz.underlying137 hi hz0 hz1 hz2 rfl (by decide) _ _ _ rfl hO1 ⟨w.heap.size,0,none⟩ 1 1 [.int .u8 55,.string ⟨#[1,3,51,54,58,59]⟩] rfl rfl (uI w #[.int .u8 55,.string ⟨#[1,3,51,54,58,59]⟩] 157) (by simp[Value.oneCell']) (by unfold maxLen;omega) (by omega) (by simp;omega) ?_;intro v' w3 hown' hg3 hnil3 hbk3;obtain⟨g',c',hv',hown2⟩:=Af hown';subst hv';have hf3:Fr (fun b=>b∈bH A) (w.alloc (.cells #[.int .u8 55,.string ⟨#[1,3,51,54,58,59]⟩] 157)) w3:=(Fr.refl _ _).grown hg3 (fun g h _=>qH h);have hB3:=hBa.keep hf3 (fun hx=>by cases A with|none=>cases hx|some a=>exact hne a rfl (by simpa[bH]using hx));have cc:=hB3.cell 11;have hfz:=hB3.frees;skip)
 have hown3:=mL (p:=⟨g,11,none⟩) hown2 hB3 (by decide) (.slice (some ⟨g',0,none⟩) (os.length+1) c')
 have hob:=jD hO1
 have hq:mF w0 (w3.setCell ⟨g,11,none⟩ (.slice (some ⟨g',0,none⟩) (os.length+1) c')) g s (os++[⟨55,[1,3,51,54,58,59]⟩]):=by
  refine⟨hg,((hF.none hfr1).trans' hf3 (fun b hb hx=> ?_)).setCell (p:=⟨g,11,none⟩) (fun e=>by have e':g<w0.heap.size:=e;omega) _,some ⟨g',0,none⟩,c',?_,?_⟩
  ·cases A with
   |none=>cases hx
   |some a=>have h1:=hob a rfl;have h2:b=a.block:=by simpa[bH]using hx
            omega
  ·rw[List.length_append];exact hB3.set 11 _
  ·rw[List.length_append,eK];exact hown3
 exact HK.out _ _ ⟨rfl,rfl⟩ kZ hq
theorem JP (s:St) (os:List aX) (w0:World) (g:Nat) (a:Act) (w:World) (K:KT) (hs:Sz 70 a)
 (h8:sl a 8= .pointer (some ⟨g,0,none⟩)) (hok:s.Ok) (hS:mF w0 w g s os) (hwt:wtO os≤2097152)
 (hK:∀a' w',Sz 70 a'→Kp [0,1,2,3,8,30,31,32] a a'→sl a' 11= .string (bs (fH false s.xid s.address 0 0 (cG s.c.card) os).1)→Fr noB w w'→K .normal a' w'):
 (aB Tryz.f66 8).wp Tryz.prog K a w:=by
 refine rgE hK (iX hs) fun HK=> ?_;clear hK hs
 simp only[nsF,h8]
 obtain⟨hg,hF,A,c,hB,hO⟩:=hS
 have hBc:=hB.cells
 have hadl:s.address<4294967296:=by unfold St.address;split;exact hok.addr;omega
 go_wp2_with fail
 refine(vS false s.xid s.address 0 0 s.c.card.1 s.c.card.2.1 s.c.card.2.2.1 s.c.card.2.2.2.1 s.c.card.2.2.2.2.1 s.c.card.2.2.2.2.2 os A c _ hok.xid hadl (by decide) (by decide) (lU hO) hwt).mono ?_
 rintro e w1 ⟨rfl,f1⟩
 go_wp2_with fail
 exact HK.out _ _ ⟨rfl,rfl⟩ kZ (rfl) f1
theorem Kw (b:Bool) (a:Act) (w:World) (K:KT) (hs:Sz 70 a)
 (h2:sl a 2= .bool b)
 (hK:∀a' w',Sz 70 a'→Kp [0,1,2,3,8,11,12,30,31,32] a a'→sl a' 56= .bool b→w'=w→K .normal a' w'):
 (aB Tryz.f66 9).wp Tryz.prog K a w:=by
 refine rgE hK (iX hs) fun HK=> ?_;clear hK hs
 simp only[nsF,h2]
 go_wp2_with fail
 exact HK.out _ _ ⟨rfl,rfl⟩ kZ (rfl) rfl
theorem Jj (p T:Nat) (M:bQ) (s:St) (x:List UInt8) (a:Act) (w:World) (K:KT) (hs:Sz 70 a)
 (h0:sl a 0= .pointer (some ⟨p,0,none⟩)) (h11:sl a 11= .string (bs x)) (h:aA w p T M s) (hx:x.length≤4611686018427387000)
 (hK:∀a' w',Sz 70 a'→Kp [0,1,2,3,8,11,12,30,31,32] a a'→bE p T M w (s.took.send (255,255,255,255,255,255) 2048 (s.packet 4294967295 68 67 x)) w'→K .normal a' w'):
 (aB Tryz.f66 11).wp Tryz.prog K a w:=by
 refine rgE hK (iX hs) fun HK=> ?_;clear hK hs
 simp only[nsF,h0,h11]
 refine rM (by kernel_rfl) (fun w'=>wU w' 1 #[.int .u8 255,.int .u8 255,.int .u8 255,.int .u8 255,.int .u8 255,.int .u8 255]) (fun w'=>aA w' p T M s∧Fr noB w w') [5] (.p 0 (.p 2 (.p 3 (.q 1 (.e 4 (.e 5 (.nil))))))) (by kernel_rfl) (h.drew.all) (⟨h.drew,(Fr.refl _ _).drew⟩) ?_
 intro ops Q' hO hQ' wr1 hR1 hI1
 iterate 3 refine pP hO ?_
 refine pQ hO rfl rfl (fun w' hS=>by have o0:=hS.2 0 _ rfl;have o1:=hS.2 1 _ rfl;have o2:=hS.2 2 _ rfl;have o3:=hS.2 3 _ rfl;have o4:=hS.2 4 _ rfl;have o5:=hS.2 5 _ rfl;exact qd) ?_
 refine fJ hO rfl rfl rfl (fun K hK=> ?_)
 go_simp
 refine(Bw p T M s 4294967295 68 67 x _ hI1.1 (by decide) (by decide) (by decide) hx).mono ?_
 rintro e w2 ⟨rfl,M2,o2,h2,f2⟩
 have hal2:=h2.all
 refine hK _ _ (hal2) (fun hR_4=> ?_)
 clear hK K
 refine gC hO rfl rfl rfl (fun K hK=> ?_)
 go_simp
 refine(CS p T M2 s.took 255 255 255 255 255 255 2048 _ _ h2 (by decide) (by have:=hZ s 4294967295 68 67 x;omega)).mono ?_
 rintro e w3 ⟨rfl,hN⟩
 have hpre:=hI1.2
 refine hK _ _ ?_
 clear hK K
 refine bV (hQ' _ _ ?_)
 exact HK.out _ _ ⟨rfl,rfl⟩ kZ (bE.pre hpre (bE.comp o2 f2 hN))
end Go.Proofs.YtcllkmllflheiaaGreatDoor
set_option maxRecDepth 20000
namespace Go.Proofs.YtcllkmllflheiaaGreatDoor
open Go.RowKit Go.Proofs
attribute [local go_sem] aG aD aE aF
def jZ (w:World) (A:Option Addr) (os:List aX):Prop:=∀k o,os[k]? =some o→∃ga,A=some ⟨ga,0,none⟩∧w.cell? ⟨ga,k*2,none⟩=some (.int .u8 (o.code.toNat:Int))∧w.cell? ⟨ga,k*2+1,none⟩=some (.string (bs o.data))
theorem jZ.keep {w w':World} {A:Option Addr} {os:List aX} (h:jZ w A os) (hf:Fr noB w w'):jZ w' A os:=by
 intro k o ho
 obtain⟨ga,h1,h2,h3⟩:=h k o ho
 have hl:ga<w.heap.size:=yY h2
 exact⟨ga,h1,(hf.cell (a:=⟨ga,k*2,none⟩) hl (fun x=>x)).trans h2,(hf.cell (a:=⟨ga,k*2+1,none⟩) hl (fun x=>x)).trans h3⟩
theorem jZ.nil (w:World) (A:Option Addr):jZ w A []:=fun k o h=>by cases h
theorem Gs (p T:Nat) (M:bQ) (s:St) (kind:UInt8) (alone:Bool) (os:List aX) (A:Option Addr) (cap:Nat) (w:World) (h:aA w p T M s) (hA:jZ w A os) (hwt:wtO os≤1000)
 (hU:alone=true→∀(ld:List UInt8) (a:Act) (w:World) (K:KT),Sz 70 a→sl a 0= .pointer (some ⟨p,0,none⟩)→sl a 11= .string (bs ld)→aA w p T M s→ld.length≤4611686018427380000→(∀a' w',Sz 70 a'→bE p T M w (s.udp s.server 68 67 ld) w'→K .normal a' w')→(aB Tryz.f66 10).wp Tryz.prog K a w):
 Calls Tryz.prog 66 #[.pointer (some ⟨p,0,none⟩),.int .u8 (kind.toNat:Int),.bool alone,.slice A os.length cap] w fun e w'=>e= .returned (.tuple #[])∧bE p T M w (s.say kind alone os) w':=by
 have hol:=dO os
 go_enter Tryz.func66,Tryz.ntmps66
 refine wp_seq ?_
 refine J7 p T M s kind _ w _ ⟨rfl,rfl⟩ rfl rfl h ?_
 intro a1 w1 g b hs1 k1 o8 hg hb hG hO h1 hf1
 have e0:sl a1 0= .pointer (some ⟨p,0,none⟩):=(k1 0 (by decide)).trans rfl
 have e1:sl a1 1= .int .u8 (kind.toNat:Int):=(k1 1 (by decide)).trans rfl
 have e2:sl a1 2= .bool alone:=(k1 2 (by decide)).trans rfl
 have e3:sl a1 3= .slice A os.length cap:=(k1 3 (by decide)).trans rfl
 clear k1
 have hS1:mF w w1 g s ([⟨53,[kind]⟩]++os.take 0):=⟨hg,hf1,some ⟨b,0,none⟩,1,hG,⟨rfl,.inr ⟨b,1,_,rfl,hb,hO,Nat.le_refl _,by unfold maxLen;omega,rfl,rfl⟩⟩⟩
 clear hG hO
 refine wp_seq ?_
 refine wp_seq ?_
 refine KE A os.length cap a1 w1 _ hs1 e3 ?_
 intro a2 w2 hs2 k2 o30 o31 o32 hw;subst w2
 have e0:=k2.t e0
 have e1:=k2.t e1
 have e2:=k2.t e2
 have e8:=k2.t o8
 refine wp_block ?_
 refine fQ 70 (fun a' w'=>∃k:Nat,k≤os.length∧sl a' 32= .int .i64 (k:Int)∧Kp [0,1,2,8,30,31] a2 a'∧mF w w' g s ([⟨53,[kind]⟩]++os.take k)) (fun a' _=>os.length-(intOf (sl a' 32)).toNat)
  hs2 ⟨0,Nat.zero_le _,o32,Kp.refl _ _,hS1⟩ ?_
 rintro b1 v1 hs1' ⟨k,hk,i32,j1,hS⟩
 refine wp_seq ?_
 refine JO k os.length b1 v1 _ hs1' (j1.t o31) i32 ?_
 intro b2 v2 hs2' j2 i33 hw;subst v2
 have i32':=j2.t i32
 have j12:Kp [0,1,2,8,30,31] a2 b2:=fun x hx=>(j2 x (by revert hx;revert x;decide)).trans (j1 x hx)
 refine wp_seq ?_
 refine fK i33 (fun hb=> ?_) (fun hb=> ?_)
 ·have hlt:k<os.length:=of_decide_eq_true hb
  refine wp_skip ?_
  obtain⟨op,hop⟩:∃op,os[k]? =some op:=⟨_,List.getElem?_eq_getElem hlt⟩
  obtain⟨ga,hAe,c0,c1⟩:=hA.keep hS.2.1 k op hop
  refine wp_seq (wp_block (wp_seq ?_))
  refine K4 ga os.length cap k op b2 v1 _ hs2' (by rw[←hAe];exact j12.t o30) i32' hlt c0 c1 ?_
  intro b3 v3 q hs3 j3 i10 hf3 hQ3
  have i32b:=j3.t i32'
  refine Lb s _ w g q op b3 v3 _ hs3 (j3.t (j12.t e8)) i10 (hS.keep hf3) hQ3 (by simp;omega) ?_
  intro b4 v4 hs4 j4 hS4
  refine KN k b4 v4 _ hs4 (j4.t i32b) (by omega) ?_
  intro b5 v5 hs5 j5 i32c hw;subst v5
  refine⟨hs5,⟨k+1,hlt,i32c,fun x hx=>(j5 x (by revert hx;revert x;decide)).trans ((j4 x (by revert hx;revert x;decide)).trans ((j3 x (by revert hx;revert x;decide)).trans (j12 x hx))),?_⟩,?_⟩
  ·rw[List.take_add_one,hop,←List.append_assoc];exact hS4
  ·rw[i32c,i32];simp only[intOf];omega
 have hke:k=os.length:=by have:=of_decide_eq_false hb;omega
 refine wp_exit (bD (bD (bU ?_)))
 rw[hke,List.take_length]at hS
 clear hS1 o32 i32 i32' i33 hke
 have e0:=j12.t e0
 have e1:=j12.t e1
 have e2:=j12.t e2
 have e8:=j12.t e8
 clear j12 j1 j2 k2
 refine wp_seq (wp_seq ?_)
 refine KV kind b2 v1 _ hs2' e1 ?_
 intro b3 v3 hs3 j3 i44 hw;subst v3
 refine wp_mono (Q:=fun ex a4 w4=>ex= .normal∧Sz 70 a4∧sl a4 0= .pointer (some ⟨p,0,none⟩)∧sl a4 2= .bool alone∧sl a4 8= .pointer (some ⟨g,0,none⟩)∧mF w w4 g s (St.msgO kind os)) ?_ ?_
 ·refine fK i44 (fun hb=> ?_) (fun hb=> ?_)
  ·have hne:¬kind=4:=by simpa using hb
   refine J2 s _ w g b3 v1 _ hs3 (j3.t e8) hS (by simp;omega) ?_
   intro b4 v4 hs4 j4 hS4
   exact⟨rfl,hs4,j4.t (j3.t e0),j4.t (j3.t e2),j4.t (j3.t e8),by unfold St.msgO;rw[if_neg hne];exact hS4⟩
  ·have he:kind=4:=by simpa using hb
   refine wp_skip ?_
   exact⟨rfl,hs3,j3.t e0,j3.t e2,j3.t e8,by unfold St.msgO;rw[if_pos he,List.append_nil];exact hS⟩
 clear e0 e1 e2 e8
 rintro _ a4 w4 ⟨rfl,hs4,e0,e2,e8,hS4⟩
 refine wp_seq ?_
 refine JP s _ w g a4 w4 _ hs4 e8 h.ok hS4 (by unfold St.msgO;split<;>simp only[yI,wtO,List.length_cons,List.length_nil]<;>omega) ?_
 intro a5 w5 hs5 k5 o11 hf5
 have hF:=hS4.2.1.none hf5
 have h5:=h.none hF
 have hmb:=pV false s.xid s.address 0 0 (cG s.c.card) (St.msgO kind os)
 have e0:=k5.t e0
 refine wp_seq ?_
 refine Kw alone a5 w5 _ hs5 (k5.t e2) ?_
 intro a6 w6 hs6 k6 o56 hw;subst w6
 have e0:=k6.t e0
 have e11:=k6.t o11
 refine fK o56 (fun hb=> ?_) (fun hb=> ?_)
 ·refine hU hb _ a6 w5 _ hs6 e0 e11 h5 (by omega) ?_
  intro a7 w7 hs7 hN
  exact bodyPost_end (results_none rfl _ _ _) hs7.defers ⟨rfl,by rw[hb];exact bE.pre hF hN⟩
 ·refine Jj p T M s _ a6 w5 _ hs6 e0 e11 h5 (by omega) ?_
  intro a7 w7 hs7 k7 hN
  exact bodyPost_end (results_none rfl _ _ _) hs7.defers ⟨rfl,by rw[hb];exact bE.pre hF hN⟩
theorem yC (p T:Nat) (M:bQ) (s:St) (kind:UInt8) (os:List aX) (A:Option Addr) (cap:Nat) (w:World) (h:aA w p T M s) (hA:jZ w A os) (hwt:wtO os≤1000):Calls Tryz.prog 66 #[.pointer (some ⟨p,0,none⟩),.int .u8 (kind.toNat:Int),.bool false,.slice A os.length cap] w fun e w'=>e= .returned (.tuple #[])∧bE p T M w (s.say kind false os) w':=Gs p T M s kind false os A cap w h hA hwt (fun x=>by cases x)
end Go.Proofs.YtcllkmllflheiaaGreatDoor
set_option maxRecDepth 20000
namespace Go.Proofs.YtcllkmllflheiaaGreatDoor
open Go.RowKit Go.Proofs
attribute [local go_sem] aG aD aE aF
def naF (u:Nat→Value):Act:=⟨#[u 0,u 1,u 2,u 3,u 4,u 5,u 6,u 7,u 8,u 9,u 10,u 11,u 12,u 13,u 14,u 15,u 16,u 17,u 18,u 19,u 20,u 21,u 22,u 23],[]⟩
set_option maxRecDepth 100000 in
theorem If (u:Nat→Value):naF u=frN 24 u:=rfl
theorem Da {a:Act} (h:Sz 24 a):a=naF (sl a):=h.eq.trans (If _).symm
theorem KL (p T:Nat) (M:bQ) (s:St) (a:Act) (w:World) (K:KT) (hs:Sz 24 a)
 (h0:sl a 0= .pointer (some ⟨p,0,none⟩)) (h:aA w p T M s)
 (hK:∀a' w',Sz 24 a'→Kp [0] a a'→sl a' 6= .bool (decide (s.lease=1))→w'=w→K .normal a' w'):
 (aB Tryz.f63 0).wp Tryz.prog K a w:=by
 refine rgE hK (Da hs) fun HK=> ?_;clear hK hs
 simp only[naF,h0]
 have c22:=h.g22
 have e:((s.lease:Int)==1)=decide (s.lease=1):=by rw[Bool.eq_iff_iff];simp;omega
 go_wp2_with fail
 exact HK.out _ _ ⟨rfl,rfl⟩ kZ (rfl) rfl
theorem KM (p T:Nat) (M:bQ) (s:St) (a:Act) (w:World) (K:KT) (hs:Sz 24 a)
 (h0:sl a 0= .pointer (some ⟨p,0,none⟩)) (h:aA w p T M s)
 (hK:∀a' w',Sz 24 a'→Kp [0] a a'→bE p T M w (s.say 1 false []) w'→K .normal a' w'):
 (aB Tryz.f63 1).wp Tryz.prog K a w:=by
 refine rgE hK (Da hs) fun HK=> ?_;clear hK hs
 simp only[naF,h0]
 go_wp2_with fail
 refine(yC p T M s 1 [] none 0 _ h (jZ.nil _ _) (by decide)).mono ?_
 rintro e w1 ⟨rfl,hN⟩
 go_wp2_with fail
 exact HK.out _ _ ⟨rfl,rfl⟩ kZ hN
theorem Er (w:World) (x y:List UInt8):jZ (w.alloc (.cells #[.int .u8 50,.string (bs x),.int .u8 54,.string (bs y)] 157)) (some ⟨w.heap.size,0,none⟩) [⟨50,x⟩,⟨54,y⟩]:=by
 have hb:=Bk.new w 157 #[.int .u8 50,.string (bs x),.int .u8 54,.string (bs y)]
 intro k o ho
 refine⟨_,rfl,?_,?_⟩
 ·match k,ho with
  |0,ho=>cases ho;exact hb.cell 0
  |1,ho=>cases ho;exact hb.cell 2
 ·match k,ho with
  |0,ho=>cases ho;exact hb.cell 1
  |1,ho=>cases ho;exact hb.cell 3
theorem K0 (p T:Nat) (M:bQ) (s:St) (a:Act) (w:World) (K:KT) (hs:Sz 24 a)
 (h0:sl a 0= .pointer (some ⟨p,0,none⟩)) (h:aA w p T M s)
 (hK:∀a' w',Sz 24 a'→Kp [0] a a'→bE p T M w (s.say 3 false s.both) w'→K .normal a' w'):
 (aB Tryz.f63 2).wp Tryz.prog K a w:=by
 refine rgE hK (Da hs) fun HK=> ?_;clear hK hs
 have oa:=h.ok.addr
 have os_:=h.ok.server
 simp only[naF,h0]
 refine wpr (fun w'=>aA w' p T M s∧Fr noB w w') [14] (.p 0 (.p 1 (.p 2 (.p 3 (.p 7 (.p 8 (.p 9 (.q 4 (.q 10 (.e 5 (.p 6 (.e 11 (.p 12 (.e 13 (.e 14 (.nil)))))))))))))))) (⟨h.drew,(Fr.refl _ _).drew⟩) ?_
 intro ops Q' hO hQ' wr1 hR1
 iterate 7 refine pP hO ?_
 iterate 2 (refine pQ hO rfl rfl (fun w' hS=>by obtain⟨hB,hF⟩:=hS;have c24:=hB.g24;have c27:=hB.g27;exact qd) ?_)
 refine fJ hO rfl rfl rfl (fun K hK=> ?_)
 go_simp
 refine(lI s.addr _ (by omega)).mono ?_
 rintro e w2 ⟨rfl,f2⟩
 refine hK _ _ (⟨hR1.1.none f2,hR1.2.none f2⟩) (fun hR_5=> ?_)
 clear hK K
 refine pP hO ?_
 refine fJ hO rfl rfl rfl (fun K hK=> ?_)
 go_simp
 refine(lI s.server _ (by omega)).mono ?_
 rintro e w3 ⟨rfl,f3⟩
 refine hK _ _ (⟨hR_5.1.none f3,hR_5.2.none f3⟩) (fun hR_11=> ?_)
 clear hK K
 refine pP hO ?_
 refine fJ hO rfl rfl rfl (fun K hK=> ?_)
 go_simp
 refine hK _ _ (⟨hR_11.1.none ((Fr.refl noB _).alloc _),hR_11.2.alloc _⟩) (fun hR_13=> ?_)
 clear hK K
 refine gC hO rfl rfl rfl (fun K hK=> ?_)
 go_simp
 refine(yC p T M s 3 s.both _ 2 _ hR_13.1 (Er _ _ _) (rU _)).mono ?_
 rintro e w4 ⟨rfl,hN⟩
 have hpre:=hR_13.2
 refine hK _ _ ?_
 clear hK K
 refine bV (hQ' _ _ ?_)
 exact HK.out _ _ ⟨rfl,rfl⟩ kZ (bE.pre hpre hN)
theorem Cy (p T:Nat) (M:bQ) (s:St) (w:World) (h:aA w p T M s):Calls Tryz.prog 63 #[.pointer (some ⟨p,0,none⟩)] w fun e w'=>e= .returned (.tuple #[])∧bE p T M w s.asks w':=by
 go_enter Tryz.func63,Tryz.ntmps63
 refine wp_seq ?_
 refine KL p T M s _ w _ ⟨rfl,rfl⟩ rfl h ?_
 intro a1 w1 hs1 k1 o6 hw;subst w1
 have e0:sl a1 0= .pointer (some ⟨p,0,none⟩):=(k1 0 (by decide)).trans rfl
 unfold St.asks
 refine fK o6 (fun hb=> ?_) (fun hb=> ?_)
 ·rw[if_pos (of_decide_eq_true hb)]
  refine KM p T M s a1 w _ hs1 e0 h ?_
  intro a2 w2 hs2 k2 hN
  exact bodyPost_end (results_none rfl _ _ _) hs2.defers ⟨rfl,hN⟩
 ·rw[if_neg (of_decide_eq_false hb)]
  refine K0 p T M s a1 w _ hs1 e0 h ?_
  intro a2 w2 hs2 k2 hN
  exact bodyPost_end (results_none rfl _ _ _) hs2.defers ⟨rfl,hN⟩
def ngF (u:Nat→Value):Act:=⟨#[u 0,u 1,u 2,u 3,u 4,u 5,u 6,u 7,u 8,u 9,u 10,u 11,u 12,u 13,u 14,u 15,u 16,u 17,u 18,u 19,u 20,u 21,u 22],[]⟩
set_option maxRecDepth 100000 in
theorem GG (u:Nat→Value):ngF u=frN 23 u:=rfl
theorem Aj {a:Act} (h:Sz 23 a):a=ngF (sl a):=h.eq.trans (GG _).symm
theorem KK (p T:Nat) (M:bQ) (s:St) (l:Nat) (a:Act) (w:World) (K:KT) (hs:Sz 23 a)
 (h0:sl a 0= .pointer (some ⟨p,0,none⟩)) (h1:sl a 1= .int .i64 (l:Int)) (h:aA w p T M s)
 (hK:∀a' w',Sz 23 a'→Kp [0] a a'→aA w' p T M {s with lease:=l}→Fr (bX p M) w w'→K .normal a' w'):
 (aB Tryz.f62 0).wp Tryz.prog K a w:=by
 refine rgE hK (Aj hs) fun HK=> ?_;clear hK hs
 simp only[ngF,h0,h1]
 have c_:=h.g22
 have hfz:=h.fr
 go_wp2_with fail
 exact HK.out _ _ ⟨rfl,rfl⟩ kZ (h.set1 22 (.int .i64 (l:Int)) {s with lease:=l} rfl rfl rfl rfl rfl rfl {h.ok with}) (gO p M w 22 _)
theorem KX (p T:Nat) (M:bQ) (s:St) (a:Act) (w:World) (K:KT) (hs:Sz 23 a)
 (h0:sl a 0= .pointer (some ⟨p,0,none⟩)) (h:aA w p T M s)
 (hK:∀a' w',Sz 23 a'→Kp [0] a a'→aA w' p T M {s with lsends:=1}→Fr (bX p M) w w'→K .normal a' w'):
 (aB Tryz.f62 1).wp Tryz.prog K a w:=by
 refine rgE hK (Aj hs) fun HK=> ?_;clear hK hs
 simp only[ngF,h0]
 have c_:=h.g33
 have hfz:=h.fr
 go_wp2_with fail
 exact HK.out _ _ ⟨rfl,rfl⟩ kZ (h.set1 33 (.int .i64 ((1:Nat):Int)) {s with lsends:=1} rfl rfl rfl rfl rfl rfl {h.ok with lsends:=show 1≤4 by decide}) (gO p M w 33 _)
theorem KZ (p T:Nat) (M:bQ) (s:St) (a:Act) (w:World) (K:KT) (hs:Sz 23 a)
 (h0:sl a 0= .pointer (some ⟨p,0,none⟩)) (h:aA w p T M s)
 (hK:∀a' w',Sz 23 a'→Kp [0] a a'→aA w' p T M {s with lagain:=wrap64 (s.now+s.wait 0)}→Fr (bX p M) w w'→K .normal a' w'):
 (aB Tryz.f62 2).wp Tryz.prog K a w:=by
 refine rgE hK (Aj hs) fun HK=> ?_;clear hK hs
 have qw:=iQ (s.now+s.wait 0)
 simp only[ngF,h0]
 refine wpr (fun w'=>aA w' p T M s∧Fr noB w w') [10] (.p 0 (.p 1 (.p 2 (.p 3 (.p 5 (.q 4 (.e 6 (.p 7 (.p 8 (.p 9 (.e 10 (.nil)))))))))))) (⟨h.drew,(Fr.refl _ _).drew⟩) ?_
 intro ops Q' hO hQ' wr1 hR1
 iterate 5 refine pP hO ?_
 refine pQ hO rfl rfl (fun w' hS=>by obtain⟨hB,hF⟩:=hS;have c16:=hB.g16;exact qd) ?_
 refine fJ hO rfl rfl rfl (fun K hK=> ?_)
 go_simp
 refine(xN p T M s 0 (by decide) _ hR1.1).mono ?_
 rintro e w2 ⟨rfl,hw2⟩
 subst w2
 refine hK _ _ (hR1) (fun hR_6=> ?_)
 clear hK K
 iterate 3 refine pP hO ?_
 refine gC hO rfl rfl rfl (fun K hK=> ?_)
 have cc:=hR_6.1.g32
 have hfz:=hR_6.1.fr
 go_simp
 have hq:=hR_6.1.set1 32 (.int .i64 (wrap64 (s.now+s.wait 0))) {s with lagain:=wrap64 (s.now+s.wait 0)} rfl rfl rfl rfl rfl rfl {hR_6.1.ok with}
 have hpre:=hR_6.2
 refine hK _ _ ?_
 clear hK K
 refine bV (hQ' _ _ ?_)
 exact HK.out _ _ ⟨rfl,rfl⟩ kZ hq ((hpre.of_no _).trans (gO p M _ 32 _))
theorem J4 (p T:Nat) (M:bQ) (s:St) (a:Act) (w:World) (K:KT) (hs:Sz 23 a)
 (h0:sl a 0= .pointer (some ⟨p,0,none⟩)) (h:aA w p T M s)
 (hK:∀a' w',Sz 23 a'→Kp [0] a a'→bE p T M w s.asks w'→K .normal a' w'):
 (aB Tryz.f62 3).wp Tryz.prog K a w:=by
 refine rgE hK (Aj hs) fun HK=> ?_;clear hK hs
 simp only[ngF,h0]
 go_wp2_with fail
 refine(Cy p T M s _ h).mono ?_
 rintro e w1 ⟨rfl,hN⟩
 go_wp2_with fail
 exact HK.out _ _ ⟨rfl,rfl⟩ kZ hN
theorem BF (p T:Nat) (M:bQ) (s:St) (l:Nat) (w:World) (h:aA w p T M s):Calls Tryz.prog 62 #[.pointer (some ⟨p,0,none⟩),.int .i64 (l:Int)] w fun e w'=>e= .returned (.tuple #[])∧bE p T M w (s.goes l) w':=by
 go_enter Tryz.func62,Tryz.ntmps62
 refine wp_seq ?_
 refine KK p T M s l _ w _ ⟨rfl,rfl⟩ rfl rfl h ?_
 intro a1 w1 hs1 k1 h1 f1
 have e0:sl a1 0= .pointer (some ⟨p,0,none⟩):=(k1 0 (by decide)).trans rfl
 refine wp_seq ?_
 refine KX p T M _ a1 w1 _ hs1 e0 h1 ?_
 intro a2 w2 hs2 k2 h2 f2
 have e0:=k2.t e0
 refine wp_seq ?_
 refine KZ p T M _ a2 w2 _ hs2 e0 h2 ?_
 intro a3 w3 hs3 k3 h3 f3
 have e0:=k3.t e0
 refine J4 p T M _ a3 w3 _ hs3 e0 h3 ?_
 intro a4 w4 hs4 k4 hN
 exact bodyPost_end (results_none rfl _ _ _) hs4.defers ⟨rfl,bE.comp (fun _ hb=> .inl hb) ((f1.trans f2).trans f3) hN⟩
end Go.Proofs.YtcllkmllflheiaaGreatDoor
namespace Go.Proofs.YtcllkmllflheiaaGreatDoor
open Go.RowKit Go.Proofs
attribute [local simp] lF ibq ibn eqN ltN leN eqL ltL gtL leL geL
theorem tQ (p T:Nat) (M:bQ) (s:St) (w:World) (h:aA w p T M s) (hl:s.lease≤3) (h3:s.lease=3→s.now<s.lagain):Calls Tryz.prog 44 #[.pointer (some ⟨p,0,none⟩)] w fun e w'=>e= .returned (.tuple #[])∧bE p T M w s.leases w':=by
 obtain⟨r,hr⟩:∃r,r=s.leases:=⟨_,rfl⟩
 rw[←hr]
 unfold St.leases at hr
 refine en Tryz.func44 Tryz.ntmps44 ?_
 by_cases a0:s.lease=0
 ·rw[if_pos a0]at hr
  clear h3 hl
  refine W ?_
  refine sMo {s with xid:=s.draw} {h.ok with xid:=h.ok.draw} h ?_
  intro w1 h1 f1
  clear a0
  refine W ?_
  refine sC (BF p T M _ 1 w1 h1) ?_
  intro w2 h2
  refine W ?_
  exact⟨rfl,by rw[hr];exact .comp (fun _=> .inl) f1 h2⟩
 rw[if_neg a0]at hr
 by_cases a3:s.lease=3
 ·rw[if_neg (by omega),if_pos a3,if_pos (h3 a3)]at hr
  have h3:¬s.lagain≤s.now:=Int.not_le.2 (h3 a3)
  clear hl a0
  refine W ?_
  refine dI h [] (up 9 0) (h:= ?_)
  intro w1 h1 f1
  refine D ?_
  refine W ?_
  exact⟨rfl,by rw[hr];exact .of h1 (f1.of_no _)⟩
 clear h3
 rw[if_pos (by omega)]at hr
 by_cases a5:s.lagain≤s.now
 rotate_left
 ·rw[if_pos (Int.not_le.1 a5)]at hr
  obtain a1|a1:s.lease=1∨s.lease=2:=by omega
  all_goals
   clear hl a0 a3
   refine W ?_
   refine dI h [] (up 16 0) (h:= ?_)
   intro w1 h1 f1
   refine D ?_
   refine W ?_
   refine dI (An h1 f1) [] (up 9 0) (h:= ?_)
   intro w2 h2 _
   refine D ?_
   refine W ?_
   exact⟨rfl,by rw[hr];exact .of h2.1 (h2.2.of_no _)⟩
 rw[if_neg (Int.not_lt.2 a5)]at hr
 by_cases a4:s.lsends=4
 ·rw[if_pos a4]at hr
  obtain a1|a1:s.lease=1∨s.lease=2:=by omega
  all_goals
   clear hl a0 a3
   refine W ?_
   refine dI h [] (up 16 0) (h:= ?_)
   intro w1 h1 f1
   refine D ?_
   refine W ?_
   refine sC (xL p T M s w1 h1) ?_
   intro w2 h2
   refine W ?_
   exact⟨rfl,by rw[hr];exact .pre f1 h2⟩
 rw[if_neg a4]at hr
 have hls:=h.ok.lsends
 have Hi:=Lib.hid (show wrap64 ((s.lsends:Int)+1)=((s.lsends+1:Nat):Int) by rw[IntWalk.wrap64_in _ ⟨by omega,by omega⟩];omega)
 have Hls:=Lib.hid (And.intro hls a4)
 obtain a1|a1:s.lease=1∨s.lease=2:=by omega
 all_goals
  clear hl a0 a3 hls
  refine W ?_
  refine dI h [] (up 16 0) (h:= ?_)
  intro w1 h1 f1
  refine D ?_
  refine W ?_
  refine dI (An h1 f1) [] (up 9 0) (h:= ?_)
  intro w2 h2 _
  refine D ?_
  refine W ?_
  refine dI h2 [14] (up 15 0) (h:= ?_)
  rintro w3 h3 _
  refine D ?_
  refine dQe ((xN p T M s s.lsends Hls.out.1 w3 h3.1).mono fun e w' x=>⟨x.1,x.2.symm⟩) h3 ?_
  refine D ?_
  rw[iQ]
  refine dMo {s with lagain:=wrap64 (s.now+s.wait s.lsends)} {h3.1.ok with} h3.1 ?_
  intro w4 h4 f4
  replace f4:=(h3.2.of_no (bX p M)).trans f4
  clear h h1 h2 h3 f1
  refine D ?_
  refine W ?_
  rw[iQ,Hi.out]
  refine sMo {s with lagain:=wrap64 (s.now+s.wait s.lsends),lsends:=s.lsends+1} {h4.ok with lsends:=by have:=Hls.out;show s.lsends+1≤4;omega} h4 ?_
  intro w5 h5 f5
  clear a1 a5
  refine W ?_
  refine sC (Cy p T M _ w5 h5) ?_
  intro w6 h6
  refine W ?_
  exact⟨rfl,by rw[hr];exact .comp (fun _=> .inl) (f4.trans f5) h6⟩
end Go.Proofs.YtcllkmllflheiaaGreatDoor
namespace Go.Proofs.YtcllkmllflheiaaGreatDoor
open Go.RowKit Go.Proofs
def Ar (d:kF) (A:Option Addr) (n cap:Nat):Array Value:= #[.bool d.reply,.int .u32 (d.xid:Int),.int .u32 (d.client:Int),.int .u32 (d.yours:Int),.int .u32 (d.next:Int),.int .u8 (d.mac.1.toNat:Int),.int .u8 (d.mac.2.1.toNat:Int),.int .u8 (d.mac.2.2.1.toNat:Int),.int .u8 (d.mac.2.2.2.1.toNat:Int),.int .u8 (d.mac.2.2.2.2.1.toNat:Int),.int .u8 (d.mac.2.2.2.2.2.toNat:Int),.slice A n cap]
def FW (w:World) (p:Nat) (M:bQ) (d:kF) (A:Option Addr) (n:Nat):Prop:=d.os.length=n∧SlR w (bX p M) 2 A n (eA d.os)∧wtO d.os≤1099511627776∧d.yours<4294967296∧d.next<4294967296
instance (p:Nat) (M:bQ) (d:kF) (A:Option Addr) (n:Nat):Kp0 fun w=>FW w p M d A n:=⟨fun _ _ h f=>⟨h.1,h.2.1.keep (f.of_no _),h.2.2⟩⟩
attribute [local simp] Ar ibq ibn eqN ltN leN eqL ltL gtL leL geL
attribute [local go_sem] aG aD aE aF
theorem wX {os:List aX} {code:UInt8} {x:Nat} (h:St.number os code=some x):x<4294967296:=by
 unfold St.number at h
 split at h
 ·next d hd=>
  split at h
  ·next hl=>cases h;have:=uN d;rw[hl]at this;exact this
  ·cases h
 ·cases h
theorem BQ (d:kF) (A:Option Addr) (cap n:Nat) (code:UInt8) (w:World) (hn:d.os.length=n) (hA:SlR w noB 2 A n (eA d.os)) (hwt:wtO d.os≤1099511627776):Calls Tryz.prog 121 #[.agg (Ar d A n cap),.int .u8 (code.toNat:Int)] w fun e w'=>e= .returned (.tuple #[.int .i64 (((St.number d.os code).getD 0:Nat):Int),.bool (St.number d.os code).isSome])∧Fr noB w w':=by
 obtain⟨z,hz⟩:∃z,St.number d.os code=z:=⟨_,rfl⟩
 rw[hz]
 unfold St.number at hz
 have hwl:=dO d.os
 refine en Tryz.func121 Tryz.ntmps121 ?_
 refine W ?_
 refine sA ?_
 intro w1 hG f1
 refine W ?_
 refine sC (jJ noB A n cap d.os code w1 (hA.keep f1) (by omega)) ?_
 intro w2 f2
 have f:=f1.none f2
 cases ho:bF d.os code with
 |none=>
  rw[ho]at hz
  subst hz
  refine W ?_
  exact⟨rfl,f⟩
 |some x=>
  rw[ho]at hz
  dsimp only at hz
  by_cases hx:x.length=4
  ·rw[if_pos hx]at hz
   subst hz
   refine W ?_
   refine sC (nB x w2 (by omega)) ?_
   intro w3 f3
   refine W ?_
   exact⟨rfl,by first|exact f.none f3|(subst f3;exact f)⟩
  ·rw[if_neg hx]at hz
   subst hz
   refine W ?_
   exact⟨rfl,f⟩
end Go.Proofs.YtcllkmllflheiaaGreatDoor
namespace Go.Proofs.YtcllkmllflheiaaGreatDoor
open Go.RowKit Go.Proofs
attribute [local go_sem] aG aD cV aF
attribute [local simp] xY xQ ibq ibn eqN ltN leN eqL ltL gtL leL geL
theorem wN (l:List UInt8) (w:World) (hl:l.length≤9223372036854775807):
 Calls Tryz.prog 71 #[.string (bs l)] w (sO l w):=by
 obtain⟨z,hz⟩:∃z,aO l=z:=⟨_,rfl⟩
 unfold sO
 rw[hz]
 unfold aO at hz
 refine en Tryz.func71 Tryz.ntmps71 ?_
 refine W ?_
 refine sA ?_
 intro w1 hB f1
 have hg0:=hB.lt
 split at hz<;>rename_i h0
 rotate_left
 have b6:6≤l.length:=by omega
 have b12:12≤l.length:=by omega
 have b14:14≤l.length:=by omega
 have e0:=Io l 12 14
 have q1:=kP l
 have q2:=kP (sub l 6 l.length)
 have q3:=nB (sub l 12 14)
 obtain⟨x,hx⟩:∃x:De,⟨fX l,fX (sub l 6 l.length),num (sub l 12 14),sub l 14 l.length⟩=x:=⟨_,rfl⟩
 refine W ?_
 refine cY (fun g=>[(0,.string (bs l)),(2,.pointer (some ⟨w.heap.size,0,none⟩)),(4,.pointer (some ⟨g,0,none⟩))]) (fun g w'=>Bk w' g 118 (xY x)∧(Bk w' w.heap.size 118 (xY ER)∧Fr noB w w')∧w.heap.size<g) ?_ ?_
 ·clear hz
  refine dI (An hB f1) [13] [0,2,3,5,6,9,10,2000,1,2000,4,2000,7,8,11,12,13,3000,12,7,8,11,13,3000,12,4,7,8,11,13,3000,12,1,4,7,8,11,13] (h:= ?_)
  rintro w2 hS _
  clear hB f1
  refine D2 ?_
  repeat' (first
   |refine dF2 ?_ ?_
   |(refine dQc (q1 _ (by omega) hl) hS ?_;intro _ f hS;(try replace hG:=hG.keep f id);refine D2 ?_)
   |(refine dQc (q2 _ (by rw[bSz];omega) (by rw[bSz];omega)) hS ?_;intro _ f hS;(try replace hG:=hG.keep f id);refine D2 ?_)
   |(refine dQe (q3 _ (by rw[bSz];omega)) hS ?_;refine D2 ?_)
   |(have hgl:=hS.1.lt;refine dA2 (by infer_instance) hS ?_;intro _ hS hG _;refine D2 ?_))
  all_goals
   refine dZ ?_
   intro _ hG f2
   refine D2 ?_
   refine tN ?_
   subst hx
   exact⟨_,mt ⟨hG,⟨hS.1.keep f2 fun e=>by have e':w.heap.size=_:=e;omega,bA hS.2 (Nat.le_of_lt hgl) f2⟩,hgl⟩⟩
 clear hB f1 q1 q2 q3 e0
 rintro g u w2 ⟨hG,⟨hB,f1⟩,hgl⟩
 obtain⟨x1,x2,n,r⟩:=x
 have y1:=congrArg De.ty hx
 have y2:=congrArg De.by' hx
 dsimp only at y1 y2
 rw[hx,y1,y2]at hz
 clear hx y1 y2
 split at hz<;>rename_i h1
 rotate_left
 split at hz<;>rename_i h2
 rotate_left
 refine W ?_
 refine sT ?_
 intro w3 hB f2
 refine W ?_
 refine zQ hB Tryz.underlying118 ?_
 subst hz
 exact⟨rfl,f1.trans' f2 fun b hb e=>by have e':b=w.heap.size:=e;omega⟩
 all_goals
  subst hz
  refine W ?_
  refine sT ?_
  intro w3 hB f2
  refine W ?_
  refine zQ hB Tryz.underlying118 ?_
  exact⟨rfl,f1.trans' f2 fun b hb e=>by have e':b=w.heap.size:=e;omega⟩
end Go.Proofs.YtcllkmllflheiaaGreatDoor
namespace Go.Proofs.YtcllkmllflheiaaGreatDoor
open Go.RowKit Go.Proofs
attribute [local go_sem] aG aD cV aF
attribute [local simp] oX xQ ibq ibn eqN ltN leN eqL ltL gtL leL geL
theorem Av (l:List UInt8) (w:World) (hl:l.length≤9223372036854775807):
 Calls Tryz.prog 72 #[.string (bs l)] w (sY l w):=by
 obtain⟨z,hz⟩:∃z,bJ l=z:=⟨_,rfl⟩
 unfold sY
 rw[hz]
 unfold bJ at hz
 refine en Tryz.func72 Tryz.ntmps72 ?_
 refine W ?_
 refine sA ?_
 intro w1 hB f1
 split at hz<;>rename_i h0
 rotate_left
 have b6:6≤l.length:=by omega
 have b8:8≤l.length:=by omega
 have b14:14≤l.length:=by omega
 have b18:18≤l.length:=by omega
 have b24:24≤l.length:=by omega
 have b28:28≤l.length:=by omega
 refine W ?_
 refine sCe (nB (sub l 6 8) _ (by have:=iM l 6 8;omega)) ?_
 have e0:=Io l 6 8
 have q2:=kP (sub l 8 l.length)
 have q3:=kP (sub l 18 l.length)
 generalize num (sub l 6 8)=n at*
 obtain⟨b,hb⟩:∃b,decide (sub l 0 6=[0,1,8,0,6,4]∧(n=1∨n=2))=b:=⟨_,rfl⟩
 refine V ?_
 refine cS (cS ?_)
 refine cM [0,2,4] [(22,.bool (!b))] (fun w'=>w'=w1) ?_ ?_
 ·clear hz q2 q3 e0
  by_cases h1:sub l 0 6=[0,1,8,0,6,4]
  ·have h1b:(sub l 0 6==[0,1,8,0,6,4])=true:=by simpa using h1
   by_cases h2:n=0
   ·obtain rfl:b=false:=by rw[←hb];simp[h2]
    clear hb h1
    refine W ?_
    exact mt rfl
   by_cases h3:2<n
   ·obtain rfl:b=false:=by rw[←hb];simp;omega
    clear hb h1
    refine W ?_
    exact mt rfl
   ·obtain rfl:b=true:=by rw[←hb];simp[h1];omega
    clear hb h1
    refine W ?_
    exact mt rfl
  ·have h1b:(sub l 0 6==[0,1,8,0,6,4])=false:=by simpa using h1
   obtain rfl:b=false:=by rw[←hb];simp[h1]
   clear hb h1
   refine W ?_
   exact mt rfl
 rintro u w2 rfl
 split at hz<;>rename_i h1
 rotate_left
 obtain rfl:b=false:=by rw[←hb];exact decide_eq_false h1
 rotate_right
 obtain rfl:b=true:=by rw[←hb];exact decide_eq_true h1
 clear hb h1
 refine W ?_
 refine dI (An hB f1) [15] ([0,1,2,3,5,6,8,9,11,12,4,7,10,13,14,15,16]) (h:= ?_)
 rintro w3 hS _
 clear hB f1
 refine D2 ?_
 refine dQc (q2 _ (by rw[bSz];omega) (by rw[bSz];omega)) hS ?_
 intro w4 _ hS
 refine D2 ?_
 refine dQe (iZ (sub l 14 18) _ (by rw[bSz];omega)) hS ?_
 refine D2 ?_
 refine dQc (q3 _ (by rw[bSz];omega) (by rw[bSz];omega)) hS ?_
 intro w5 _ hS
 refine D2 ?_
 refine dQe (iZ (sub l 24 28) _ (by rw[bSz];omega)) hS ?_
 have hB:=hS.1
 refine D2 ?_
 refine dZ ?_
 intro w6 hB f2
 refine D2 ?_
 refine W ?_
 refine zQ hB Tryz.underlying125 ?_
 subst hz
 exact⟨rfl,hS.2.trans' f2 fun b hb e=>by have e':b=w.heap.size:=e;omega⟩
 all_goals
  subst hz
  refine W ?_
  refine sT ?_
  intro w2 hB f2
  refine W ?_
  refine zQ hB Tryz.underlying125 ?_
  exact⟨rfl,bA f1 (Nat.le_refl _) f2⟩
end Go.Proofs.YtcllkmllflheiaaGreatDoor
namespace Go.Proofs.YtcllkmllflheiaaGreatDoor
open Go.RowKit Go.Proofs
attribute [local go_sem] aG aD cV aF
attribute [local simp] ipC ibq ibn eqN ltN leN eqL ltL gtL leL geL
theorem Ei (l:List UInt8) (i:Nat) (h:i<l.length):num (sub l i (i+1))=l[i].toNat:=by
 have e:sub l i (i+1)=[l[i]]:=by
  unfold sub
  rw[List.take_succ_eq_append_getElem h,List.drop_append_of_le_length (by simp;omega)]
  simp[List.drop_eq_nil_of_le]
 rw[e];simp[num]
theorem nK (l:List UInt8) (i:Nat) (h:i<l.length):∃c:UInt8,(∀h:i<(bs l).size,(bs l)[i]'h=c)∧num (sub l i (i+1))=c.toNat∧c.toNat<256:=
 ⟨l[i],fun h=>gW l i h,Ei l i h,UInt8.toNat_lt _⟩
theorem Cb (l:List UInt8) (w:World) (hl:l.length≤1000000):
 Calls Tryz.prog 74 #[.string (bs l)] w (zV l w):=by
 obtain⟨z,hz⟩:∃z,aV l=z:=⟨_,rfl⟩
 unfold zV
 rw[hz]
 unfold aV at hz
 refine en Tryz.func74 Tryz.ntmps74 ?_
 refine W ?_
 refine sA ?_
 intro w1 hB f1
 split at hz<;>rename_i h0
 rotate_left
 obtain⟨c0,hg0,s0,hb0⟩:=nK l 0 (by omega)
 obtain⟨c8,hg8,s8,hb8⟩:=nK l 8 (by omega)
 obtain⟨c9,hg9,s9,hb9⟩:=nK l 9 (by omega)
 rw[s0,s8,s9]at hz
 clear s0 s8 s9
 have l0:0<l.length:=by omega
 have l2:2≤l.length:=by omega
 have l4:4≤l.length:=by omega
 have l6:6≤l.length:=by omega
 have l8:8≤l.length:=by omega
 have l20:20≤l.length:=by omega
 have l12:12≤l.length:=by omega
 have l16:16≤l.length:=by omega
 have i8:8<l.length:=by omega
 have i9:9<l.length:=by omega
 obtain⟨hi,hhi⟩:∃k,c0.toNat/16=k:=⟨_,rfl⟩
 obtain⟨lo,hlo⟩:∃k,c0.toNat%16=k:=⟨_,rfl⟩
 have e1:(c0.toNat:Int)/16=hi:=by omega
 have e2:(c0.toNat:Int).tmod 16=lo:=by rw[Int.tmod_eq_emod_of_nonneg (by omega)];omega
 have e3:IntKind.i64.wrap (c0.toNat:Int)=c0.toNat:=IntWalk.i64_in _ (by omega)
 have e6:IntKind.u8.wrap (hi:Int)=hi:=by rw[IntKind.wrap_u8];omega
 have e7:IntKind.u8.wrap 4=4:=by decide
 rw[hhi,hlo]at hz
 clear hhi hlo
 refine W ?_
 refine sCe (nB (sub l 2 4) _ (by rw[bSz];omega)) ?_
 refine W ?_
 refine sCe (nB (sub l 6 8) _ (by rw[bSz];omega)) ?_
 have n1:num (sub l 2 4)<65536:=kW ..
 have n2:num (sub l 6 8)<65536:=kW ..
 have e4:=Io l 4 6
 generalize num (sub l 2 4)=n at*
 generalize num (sub l 6 8)=f at*
 obtain⟨fr,hfr⟩:∃k,f%16384=k:=⟨_,rfl⟩
 have e5:(f:Int).tmod 16384=fr:=by rw[Int.tmod_eq_emod_of_nonneg (by omega)];omega
 rw[hfr]at hz
 clear hfr
 by_cases t1:hi=4
 rotate_left
 rw[if_pos (.inl t1)]at hz
 rotate_right
 by_cases t2:lo<5
 rw[if_pos (.inr t2)]at hz
 rotate_left
 rw[if_neg (by omega)]at hz
 by_cases t3:5<lo
 rw[if_pos t3]at hz
 rotate_left
 rw[if_neg t3]at hz
 by_cases t4:n<20
 rw[if_pos t4]at hz
 rotate_left
 rw[if_neg t4]at hz
 by_cases t5:l.length<n
 rw[if_pos t5]at hz
 rotate_left
 rw[if_neg t5]at hz
 refine W ?_
 refine sC (gE (sub l 0 20) _ (by rw[bSz];omega)) ?_
 intro w2 f2
 replace hB:=hB.keep f2 id
 replace f1:=f1.none f2
 clear f2
 generalize fB (sub l 0 20)=ck at*
 by_cases t6:ck=0
 rotate_left
 rw[if_pos t6]at hz
 rotate_right
 rw[if_neg (fun x=>x t6)]at hz
 by_cases t7:32768≤f
 rw[if_pos (.inl t7)]at hz
 rotate_left
 by_cases t8:c8.toNat=0
 rw[if_pos (.inr t8)]at hz
 rotate_left
 rw[if_neg (by omega)]at hz
 by_cases t9:fr=0
 rotate_left
 rw[if_pos t9]at hz
 rotate_right
 rw[if_neg (fun x=>x t9)]at hz
 have k1:n≤l.length:=by omega
 have k2:20≤n:=by omega
 refine W ?_
 refine dI (An hB f1) [18] ([0,1]++up 6 4++[11,12,14,15,16,2,3,10,13,17,18,19]) (h:= ?_)
 rintro w3 hS _
 clear hB f1
 have q1:=nB (sub l 4 6) w3 (by rw[bSz];omega)
 refine D2 ?_
 refine dQe q1 hS ?_
 refine D2 ?_
 refine dQe (iZ (sub l 12 16) _ (by rw[bSz];omega)) hS ?_
 refine D2 ?_
 refine dQe (iZ (sub l 16 20) _ (by rw[bSz];omega)) hS ?_
 have hB:=hS.1
 refine D2 ?_
 refine dZ ?_
 intro w6 hB f2
 refine D2 ?_
 refine W ?_
 refine zQ hB Tryz.underlying130 ?_
 subst hz
 exact⟨rfl,hS.2.trans' f2 fun b hb e=>by have e':b=w.heap.size:=e;omega⟩
 all_goals
  subst hz
  refine W ?_
  refine sT ?_
  intro w3 hB f2
  refine W ?_
  refine zQ hB Tryz.underlying130 ?_
  exact⟨rfl,f1.trans' f2 fun b hb e=>by have e':b=w.heap.size:=e;omega⟩
end Go.Proofs.YtcllkmllflheiaaGreatDoor
namespace Go.Proofs.YtcllkmllflheiaaGreatDoor
open Go.RowKit Go.Proofs
attribute [local go_sem] aG aD cV aF
attribute [local simp] AW ibq ibn eqN ltN leN eqL ltL gtL leL geL
theorem Bj (l:List UInt8) (fi ti:Nat) (w:World) (hfi:fi<4294967296) (hti:ti<4294967296) (hl:l.length≤900000):
 Calls Tryz.prog 75 #[.string (bs l),.int .u32 (fi:Int),.int .u32 (ti:Int)] w (rB l fi ti w):=by
 obtain⟨z,hz⟩:∃z,bB l fi ti=z:=⟨_,rfl⟩
 unfold rB
 rw[hz]
 unfold bB at hz
 refine en Tryz.func75 Tryz.ntmps75 ?_
 refine W ?_
 refine sA ?_
 intro w1 hB f1
 by_cases h8:l.length<8
 ·rw[if_pos h8]at hz
  subst hz
  refine W ?_
  refine sT ?_
  intro w2 hB f2
  refine W ?_
  refine zQ hB Tryz.underlying134 ?_
  exact⟨rfl,bA f1 (Nat.le_refl _) f2⟩
 rw[if_neg h8]at hz
 have b2:2≤l.length:=by omega
 have b4:4≤l.length:=by omega
 have b6:6≤l.length:=by omega
 have b8:8≤l.length:=by omega
 refine W ?_
 refine sCe (nB (sub l 4 6) _ (by have:=iM l 4 6;omega)) ?_
 have n2:num (sub l 4 6)<65536:=kW ..
 generalize num (sub l 4 6)=x at*
 by_cases h1:x<8
 ·rw[if_pos h1]at hz
  subst hz
  refine W ?_
  refine sT ?_
  intro w2 hB f2
  refine W ?_
  refine zQ hB Tryz.underlying134 ?_
  exact⟨rfl,bA f1 (Nat.le_refl _) f2⟩
 rw[if_neg h1]at hz
 by_cases h2:l.length<x
 ·rw[if_pos h2]at hz
  subst hz
  refine W ?_
  refine sT ?_
  intro w2 hB f2
  refine W ?_
  refine zQ hB Tryz.underlying134 ?_
  exact⟨rfl,bA f1 (Nat.le_refl _) f2⟩
 rw[if_neg h2]at hz
 have h3:x≤l.length:=by omega
 have h4:8≤x:=by omega
 obtain⟨b,hb⟩:∃b,decide (num (sub l 6 8)≠0∧fB (bC fi ti x++sub l 0 x)≠0)=b:=⟨_,rfl⟩
 refine W ?_
 refine cM [0,6,8] [(39,.bool b)] (fun w'=>Bk w' w.heap.size 134 (AW Ep)∧Fr noB w w') ?_ ?_
 ·refine dI (An hB f1) [] (up 8 0++[9,10,11,8,12,13,14,15]) (h:= ?_)
  rintro w2 hS _
  clear hB f1 hz
  refine D2 ?_
  refine dQe (nB (sub l 6 8) _ (by have:=iM l 6 8;omega)) hS ?_
  generalize num (sub l 6 8)=n at*
  by_cases h0:n=0
  ·obtain rfl:b=false:=by rw[←hb];simp[h0]
   refine D2 ?_
   refine tN ?_
   exact mt hS
  refine D2 ?_
  refine dQc (uK fi ti (x:Int) _ hfi hti (by omega) (by omega)) hS ?_
  intro w3 _ hS
  rw[Int.toNat_natCast]
  have k1:(bC fi ti x).length=12:=by simp[bC,aH]
  have k2:=iM l 0 x
  refine D2 ?_
  refine dQc (gE (bC fi ti x++sub l 0 x) _ (by rw[List.length_append];omega)) hS ?_
  intro w4 _ hS
  generalize fB (bC fi ti x++sub l 0 x)=q at*
  obtain rfl:b=decide (q≠0):=by rw[←hb];simp[h0]
  refine D2 ?_
  refine tN ?_
  exact mt hS
 clear hB f1
 rintro u w2 ⟨hB,f1⟩
 cases b
 rotate_left
 ·rw[if_pos (of_decide_eq_true hb)]at hz
  subst hz
  refine W ?_
  refine sT ?_
  intro w3 hB f2
  refine W ?_
  refine zQ hB Tryz.underlying134 ?_
  exact⟨rfl,f1.trans' f2 fun b hb e=>by have e':b=w.heap.size:=e;omega⟩
 rw[if_neg (of_decide_eq_false hb)]at hz
 refine W ?_
 have e1:=Io l 0 2
 have e2:=Io l 2 4
 refine dI (An hB f1) [12] [0,1,4,5,8,9,10,2,3,6,7,11,12,13] (h:= ?_)
 rintro w3 hS _
 clear hB f1
 refine D2 ?_
 refine dQe (nB (sub l 0 2) _ (by have:=iM l 0 2;omega)) hS ?_
 refine D2 ?_
 refine dQe (nB (sub l 2 4) _ (by have:=iM l 2 4;omega)) hS ?_
 have hB:=hS.1
 refine D2 ?_
 refine dZ ?_
 intro w4 hB f2
 refine D2 ?_
 refine W ?_
 refine zQ hB Tryz.underlying134 ?_
 subst hz
 exact⟨rfl,hS.2.trans' f2 fun b hb e=>by have e':b=w.heap.size:=e;omega⟩
end Go.Proofs.YtcllkmllflheiaaGreatDoor
