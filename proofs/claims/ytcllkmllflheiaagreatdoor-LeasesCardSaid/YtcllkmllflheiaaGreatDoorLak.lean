/- Parts of the walk; written by programs, merged. -/
import Derived.Test.YtcllkmllflheiaaGreatDoorLaj
import Derived.Lib.SlBytesRow
import Derived.Deep.CutBlock
set_option linter.unusedSimpArgs false
set_option linter.unusedVariables false
set_option maxRecDepth 20000
set_option maxHeartbeats 8000000
namespace Go.Proofs.YtcllkmllflheiaaGreatDoor
open Go.RowKit Go.Proofs
attribute [local go_sem] aG aD aE aF
theorem lQ:∀(k:Nat) (c:UInt8) (d:List UInt8),d.length≤k→(lZ c d).length≤3*d.length+2
 |0,c,d,h=>by
  rw[iG c d (by omega)];simp;omega
 |k+1,c,d,h=>by
  rcases Nat.lt_or_ge 255 d.length with h1|h1
  ·rw[nS c d h1]
   have:=lQ k c (d.drop 255) (by rw[List.length_drop];omega)
   rw[List.length_drop]at this
   simp[List.length_take];omega
  ·rw[iG c d h1];simp;omega
def iP (os:List aX):List UInt8:=os.flatMap fun o=>lZ o.code o.data
theorem oL:∀os:List aX,(iP os).length≤3*wtO os
 |[]=>Nat.le_refl _
 |o::r=>by
  have h1:=lQ o.data.length o.code o.data (Nat.le_refl _)
  have h2:=oL r
  unfold iP at h2⊢
  rw[List.flatMap_cons,List.length_append]
  simp only[wtO];omega
theorem qC {os:List aX} {i:Nat} {o:aX} (h:os[i]? =some o):iP (os.take (i+1))=iP (os.take i)++lZ o.code o.data:=by
 have hi:i<os.length:=by
  rcases Nat.lt_or_ge i os.length with h1|h1
  ·exact h1
  ·rw[List.getElem?_eq_none h1]at h;cases h
 rw[List.getElem?_eq_getElem hi]at h
 cases h
 unfold iP
 rw[List.take_succ_eq_append_getElem hi,List.flatMap_append];simp
theorem tJ:∀(os:List aX) (i:Nat),wtO (os.take i)≤wtO os
 |[],i=>by simp
 |o::r,0=>Nat.zero_le _
 |o::r,i+1=>by have:=tJ r i;simp only[List.take_succ_cons,wtO];omega
theorem SlR.fresh {w:World} {S:Nat→Prop} {size n:Nat} {A:Option Addr} {xs:List Value} (h:SlR w S size A n xs):SlR w (fun k=>w.heap.size≤k) size A n xs:=
 ⟨h.1,fun hn=>by
  obtain⟨ad,e,hb,hS,hc⟩:=h.2 hn
  exact⟨ad,e,hb,fun x=>by omega,hc⟩⟩
def vN (os:List aX) (i:Nat):Prop:=∀j o,j<i→os[j]? =some o→iL o=false
theorem pW {os:List aX} (h:vN os os.length):os.any iL=false:=by
 rw[List.any_eq_false]
 intro o ho
 obtain⟨j,hj,e⟩:=List.getElem_of_mem ho
 have:=h j o hj (by rw[List.getElem?_eq_getElem hj,e])
 simp[this]
theorem C2 (rp:Bool) (xid client yours next:Nat) (m0 m1 m2 m3 m4 m5:UInt8) (os:List aX) (Ao:Option Addr) (cap:Nat) (w:World)
 (hxid:xid<4294967296) (hcl:client<4294967296) (hyo:yours<4294967296) (hnx:next<4294967296) (hA:SlR w noB 2 Ao os.length (eA os)) (hwt:wtO os≤2097152):
 Calls Tryz.prog 139 #[.agg #[.bool rp,.int .u32 (xid:Int),.int .u32 (client:Int),.int .u32 (yours:Int),.int .u32 (next:Int),.int .u8 (m0.toNat:Int),.int .u8 (m1.toNat:Int),.int .u8 (m2.toNat:Int),.int .u8 (m3.toNat:Int),.int .u8 (m4.toNat:Int),.int .u8 (m5.toNat:Int),.slice Ao os.length cap]] w (eL (fH rp xid client yours next [m0,m1,m2,m3,m4,m5] os) w):=by
 have hpa:=(Bk.new w 139 #[.bool rp,.int .u32 (xid:Int),.int .u32 (client:Int),.int .u32 (yours:Int),.int .u32 (next:Int),.int .u8 (m0.toNat:Int),.int .u8 (m1.toNat:Int),.int .u8 (m2.toNat:Int),.int .u8 (m3.toNat:Int),.int .u8 (m4.toNat:Int),.int .u8 (m5.toNat:Int),.slice Ao os.length cap]).alloc (.cells #[.slice none 0 0] 200)
 have hbw:=Bk.new (w.alloc (.cells #[.bool rp,.int .u32 (xid:Int),.int .u32 (client:Int),.int .u32 (yours:Int),.int .u32 (next:Int),.int .u8 (m0.toNat:Int),.int .u8 (m1.toNat:Int),.int .u8 (m2.toNat:Int),.int .u8 (m3.toNat:Int),.int .u8 (m4.toNat:Int),.int .u8 (m5.toNat:Int),.slice Ao os.length cap] 139)) 200 #[.slice none 0 0]
 rw[show(w.alloc (.cells #[.bool rp,.int .u32 (xid:Int),.int .u32 (client:Int),.int .u32 (yours:Int),.int .u32 (next:Int),.int .u8 (m0.toNat:Int),.int .u8 (m1.toNat:Int),.int .u8 (m2.toNat:Int),.int .u8 (m3.toNat:Int),.int .u8 (m4.toNat:Int),.int .u8 (m5.toNat:Int),.slice Ao os.length cap] 139)).heap.size=w.heap.size+1 by simp]at hbw
 have hpa0:=(Bk.new w 139 #[.bool rp,.int .u32 (xid:Int),.int .u32 (client:Int),.int .u32 (yours:Int),.int .u32 (next:Int),.int .u8 (m0.toNat:Int),.int .u8 (m1.toNat:Int),.int .u8 (m2.toNat:Int),.int .u8 (m3.toNat:Int),.int .u8 (m4.toNat:Int),.int .u8 (m5.toNat:Int),.slice Ao os.length cap]).cells
 obtain⟨n,hn⟩:∃n,os.length=n:=⟨_,rfl⟩
 rw[hn]at hA hpa hbw hpa0⊢
 go_enter Tryz.func139,Tryz.ntmps139
 go_upto_if 12 with fail
 go_cut [4]from 11 (fun s4 wx=>s4= .int .u8 ((if rp then(2:UInt8)else 1).toNat:Int)∧wx=w.alloc (.cells #[.bool rp,.int .u32 (xid:Int),.int .u32 (client:Int),.int .u32 (yours:Int),.int .u32 (next:Int),.int .u8 (m0.toNat:Int),.int .u8 (m1.toNat:Int),.int .u8 (m2.toNat:Int),.int .u8 (m3.toNat:Int),.int .u8 (m4.toNat:Int),.int .u8 (m5.toNat:Int),.slice Ao n cap] 139))
 case first=>
  cases rp
  ·go_wp2_with fail
   go_meet
   case rel=>exact⟨rfl,rfl⟩
  ·go_wp2_with fail
   go_meet
   case rel=>exact⟨rfl,rfl⟩
 case rest=>
 obtain⟨rfl,rfl⟩:=hcut
 clear hpa0
 go_upto_region 5 with fail
 have hf0:Fr noB w ((w.alloc (.cells #[.bool rp,.int .u32 (xid:Int),.int .u32 (client:Int),.int .u32 (yours:Int),.int .u32 (next:Int),.int .u8 (m0.toNat:Int),.int .u8 (m1.toNat:Int),.int .u8 (m2.toNat:Int),.int .u8 (m3.toNat:Int),.int .u8 (m4.toNat:Int),.int .u8 (m5.toNat:Int),.slice Ao n cap] 139)).alloc (.cells #[.slice none 0 0] 200)):=((Fr.refl _ _).alloc _).alloc _
 have hsz:((w.alloc (.cells #[.bool rp,.int .u32 (xid:Int),.int .u32 (client:Int),.int .u32 (yours:Int),.int .u32 (next:Int),.int .u8 (m0.toNat:Int),.int .u8 (m1.toNat:Int),.int .u8 (m2.toNat:Int),.int .u8 (m3.toNat:Int),.int .u8 (m4.toNat:Int),.int .u8 (m5.toNat:Int),.slice Ao n cap] 139)).alloc (.cells #[.slice none 0 0] 200)).heap.size=w.heap.size+2:=by simp
 have hA1:=hA.keep hf0
 generalize(w.alloc (.cells #[.bool rp,.int .u32 (xid:Int),.int .u32 (client:Int),.int .u32 (yours:Int),.int .u32 (next:Int),.int .u8 (m0.toNat:Int),.int .u8 (m1.toNat:Int),.int .u8 (m2.toNat:Int),.int .u8 (m3.toNat:Int),.int .u8 (m4.toNat:Int),.int .u8 (m5.toNat:Int),.slice Ao n cap] 139)).alloc (.cells #[.slice none 0 0] 200)=w1 at*
 have hwr0:=Chn.start0 (Wr.zero hbw) rfl
 refine xU (c:=aB Tryz.f139 5) (by kernel_rfl) (K1 w.heap.size rp xid client yours next n cap Ao m0 m1 m2 m3 m4 m5 (if rp then 2 else 1) w1 (w.heap.size+1) w1.heap.size none [] _ _ _ ⟨rfl,rfl⟩ rfl rfl rfl hpa (by omega) hxid hcl hyo hnx hwr0 (by simp) ?_)
 intro a5 w5 A5 hs5 kp5 hch5
 obtain⟨l5,hl5⟩:∃l,([]++[(if rp then(2:UInt8)else 1),1,6,0]++big 4 (xid:Int).toNat++bG 2 [0]:List UInt8)=l:=⟨_,rfl⟩
 rw[hl5]at hch5
 have hn5:l5.length=10:=by rw[←hl5];simp[aH,aN]
 have Hl5:=Lib.hid hl5
 clear hl5 hwr0 hbw
 have hp5:w1.heap.size=w.heap.size+2:=hsz
 have Hsz:=Lib.hid hsz
 clear hsz hp5
 have e1:sl a5 1= .pointer (some ⟨w.heap.size,0,none⟩):=kp5 1 (by decide)
 have e2:sl a5 2= .string ⟨#[]⟩:=kp5 2 (by decide)
 have e3:sl a5 3= .int .i64 0:=kp5 3 (by decide)
 have e5:sl a5 5= .pointer (some ⟨w.heap.size+1,0,none⟩):=kp5 5 (by decide)
 rw[zJ hs5]
 simp only[dwF,e1,e2,e3,e5]
 clear kp5 hs5 e1 e2 e3 e5
 generalize sl a5=z
 have hc5:=(hpa.keep hch5.fr (by unfold aJ;omega)).cells
 go_upto_if 26 with fail
 clear hc5
 go_cut []from 11 (fun wx=>∃A,Chn w1 (w.heap.size+1) w1.heap.size A (l5++(if client=0 then [128,0]else [0,0])) wx)
 case first=>
  rename_i J K' hJ hK'
  by_cases hc:client=0
  ·have hci:(client:Int)=0:=by omega
   rw[if_pos hc]at hJ
   clear hc
   go_upto_region 7 with fail
   refine xU (c:=aB Tryz.f139 7) (by kernel_rfl) (JU w1 (w.heap.size+1) w1.heap.size A5 l5 _ _ _ ⟨rfl,rfl⟩ rfl hch5 (by omega) ?_)
   intro a6 w6 A6 hs6 kp6 hch6
   refine hK' _ _ (Met.intro (hJ _ _ ?_))
   rw[zJ hs6]
   simp only[dwF,kp6 0 (by decide),kp6 1 (by decide),kp6 2 (by decide),kp6 3 (by decide),kp6 4 (by decide),kp6 5 (by decide),kp6 6 (by decide),kp6 7 (by decide),kp6 8 (by decide),kp6 9 (by decide),kp6 10 (by decide)]
   repeat apply Exists.intro
   exact⟨⟨A6,hch6⟩,rfl⟩
  ·have hci:¬(client:Int)=0:=by omega
   rw[if_neg hc]at hJ
   clear hc
   go_upto_region 8 with fail
   refine xU (c:=aB Tryz.f139 8) (by kernel_rfl) (K5 w1 (w.heap.size+1) w1.heap.size A5 l5 _ _ _ ⟨rfl,rfl⟩ rfl hch5 (by omega) ?_)
   intro a6 w6 A6 hs6 kp6 hch6
   refine hK' _ _ (Met.intro (hJ _ _ ?_))
   rw[zJ hs6]
   simp only[dwF,kp6 0 (by decide),kp6 1 (by decide),kp6 2 (by decide),kp6 3 (by decide),kp6 4 (by decide),kp6 5 (by decide),kp6 6 (by decide),kp6 7 (by decide),kp6 8 (by decide),kp6 9 (by decide),kp6 10 (by decide)]
   repeat apply Exists.intro
   exact⟨⟨A6,hch6⟩,rfl⟩
 case rest=>
 obtain⟨A6,hch6⟩:=hcut
 rename_i w6
 go_upto_region 9 with fail
 refine xU (c:=aB Tryz.f139 9) (by kernel_rfl) (JW w.heap.size rp xid client yours next n cap Ao m0 m1 m2 m3 m4 m5 w1 (w.heap.size+1) w1.heap.size A6 _ _ _ _ ⟨rfl,rfl⟩ rfl rfl hpa (by omega) hxid hcl hyo hnx hch6 (by simp only[List.length_append,hn5];split<;>simp) ?_)
 intro a9 w9 A9 hs9 kp9 hch9
 have hhead:(l5++(if client=0 then [128,0]else [0,0])++bG 4 [(client:Int),(yours:Int),(next:Int),0]++List.flatMap cG [(m0,m1,m2,m3,m4,m5)]++
  List.replicate (236-List.length (α:=UInt8) (l5++(if client=0 then [128,0]else [0,0])++bG 4 [(client:Int),(yours:Int),(next:Int),0]++List.flatMap cG [(m0,m1,m2,m3,m4,m5)])) (0:UInt8)++List.flatten [[99,130,83,99]])=gK rp xid client yours next [m0,m1,m2,m3,m4,m5]:=by
  rw[←Hl5.out]
  unfold gK mT
  have e0:([]++[(if rp then(2:UInt8)else 1),1,6,0]++big 4 (xid:Int).toNat++bG 2 [0]++(if client=0 then [128,0]else [0,0])++bG 4 [(client:Int),(yours:Int),(next:Int),0]++List.flatMap cG [(m0,m1,m2,m3,m4,m5)]:List UInt8)=
   [if rp then 2 else 1,1,6,0]++big 4 xid++[0,0]++(if client=0 then [128,0]else [0,0])++big 4 client++big 4 yours++big 4 next++big 4 0++[m0,m1,m2,m3,m4,m5]:=by
   simp[bG,cG,big]
  rw[e0]
  simp
 rw[hhead]at hch9
 obtain⟨l9,hl9⟩:∃l,gK rp xid client yours next [m0,m1,m2,m3,m4,m5]=l:=⟨_,rfl⟩
 have hn9:l9.length=240:=by rw[←hl9];exact kC _ _ _ _ _ _ rfl
 rw[hl9]at hch9
 have Hl9:=Lib.hid hl9
 clear hl9 hhead hch6 Hl5 hn5
 have e1:sl a9 1= .pointer (some ⟨w.heap.size,0,none⟩):=kp9 1 (by decide)
 have e2:sl a9 2= .string ⟨#[]⟩:=kp9 2 (by decide)
 have e3:sl a9 3= .int .i64 0:=kp9 3 (by decide)
 have e5:sl a9 5= .pointer (some ⟨w.heap.size+1,0,none⟩):=kp9 5 (by decide)
 rw[zJ hs9]
 simp only[dwF,e1,e2,e3,e5]
 clear kp9 hs9 e1 e2 e3 e5
 generalize sl a9=z
 have hc9:=(hpa.keep hch9.fr (by unfold aJ;omega)).cells
 go_wp2_with fail
 have hlw:=dO os
 have hAf:SlR w1 (fun k=>w.heap.size≤k) 2 Ao n (eA os):=hA.fresh.keep (hf0.of_no _)
 go_loopw [52] (fun iv wr=>∃(i:Nat) (A:Option Addr),i≤n∧iv= .int .i64 (i:Int)∧Chn w1 (w.heap.size+1) w1.heap.size A (l9++iP (os.take i)) wr∧vN os i) (fun iv _=>n-(intOf iv).toNat)
 case atStart=>exact⟨0,A9,by omega,rfl,by simpa[iP]using hch9,fun j o h=>absurd h (by omega)⟩
 case round=>
  obtain⟨i,A,hi,rfl,hch,hgood⟩:=hrel
  have hbl:(l9++iP (os.take i)).length≤20000000:=by
   have h1:=oL (os.take i)
   have h2:=tJ os i
   rw[List.length_append];omega
  by_cases hlt:i<n
  ·obtain⟨o,ho⟩:∃o,os[i]? =some o:=⟨_,List.getElem?_eq_getElem (by omega)⟩
   obtain⟨ad,rfl,c1,c2⟩:=(hAf.keep (hch.fr.mono (by rintro b _ rfl;omega))).optAt ho
   have hol:=uM os i o ho
   have hxo:=AlS.beside hch 157 #[.int .u8 (o.code.toNat:Int),.string (bs o.data)]
   have hch2:=hch.alloc (.cells #[.int .u8 (o.code.toNat:Int),.string (bs o.data)] 157)
   have Ho:=Lib.hid ho
   have Hgood:=Lib.hid hgood
   have Hch2:=Lib.hid hch2
   have Hxo:=Lib.hid hxo
   clear ho hgood hch2 hxo hc9
   have hfb:Fr noB w (wr.alloc (.cells #[.int .u8 (o.code.toNat:Int),.string (bs o.data)] 157)):=(hf0.trans' hch.fr (by rintro b hb rfl;omega)).alloc _
   have hbadP:iL o=true→fH rp xid client yours next [m0,m1,m2,m3,m4,m5] os=([],2):=by
    intro hb;unfold fH;rw[if_pos (List.any_eq_true.2 ⟨o,List.mem_of_getElem? Ho.out,hb⟩)]
   have HbadP:=Lib.hid hbadP
   clear hbadP
   have hk:o.code=0∨o.code=255∨o.code=52∨(o.code≠0∧o.code≠255∧o.code≠52):=by
    by_cases h1:o.code=0
    ·exact .inl h1
    ·by_cases h2:o.code=255
     ·exact .inr (.inl h2)
     ·by_cases h3:o.code=52
      ·exact .inr (.inr (.inl h3))
      ·exact .inr (.inr (.inr ⟨h1,h2,h3⟩))
   rcases hk with hk|hk|hk|⟨k1,k2,k3⟩
   ·have hki:(o.code.toNat:Int)=0:=by rw[hk];decide
    have Hno:=Lib.hid (HbadP.out (by unfold iL;rw[hk];decide))
    rw[hki]at hfb
    clear hk HbadP Hxo Hch2
    go_wp2_with fail
    go_ret2
    exact⟨by rw[Hno.out];rfl,hfb⟩
   ·have hki:(o.code.toNat:Int)=255:=by rw[hk];decide
    have Hno:=Lib.hid (HbadP.out (by unfold iL;rw[hk];decide))
    rw[hki]at hfb
    clear hk HbadP Hxo Hch2
    go_wp2_with fail
    go_ret2
    exact⟨by rw[Hno.out];rfl,hfb⟩
   ·have hki:(o.code.toNat:Int)=52:=by rw[hk];decide
    have Hno:=Lib.hid (HbadP.out (by unfold iL;rw[hk];decide))
    rw[hki]at hfb
    clear hk HbadP Hxo Hch2
    go_wp2_with fail
    go_ret2
    exact⟨by rw[Hno.out];rfl,hfb⟩
   ·have k1i:((o.code.toNat:Int)==0)=false:=BE k1
    have k2i:((o.code.toNat:Int)==255)=false:=BE k2
    have k3i:((o.code.toNat:Int)==52)=false:=BE k3
    have Hg1:Hid (vN os (i+1)):=Lib.hid (by
     intro j o' hj h2
     rcases Nat.lt_or_ge j i with h3|h3
     ·exact Hgood.out j o' h3 h2
     ·obtain rfl:j=i:=by omega
      rw[Ho.out]at h2;cases h2
      unfold iL;simp[k1,k2,k3])
    clear k1 k2 k3 HbadP hfb
    go_wp2_with fail
    obtain⟨go,hgo⟩:∃go,wr.heap.size=go:=⟨_,rfl⟩
    rw[hgo]at Hxo
    rw[hgo]
    obtain⟨w4,hw4⟩:∃w4,wr.alloc (.cells #[.int .u8 (o.code.toNat:Int),.string (bs o.data)] 157)=w4:=⟨_,rfl⟩
    rw[hw4]at Hch2 Hxo
    rw[hw4]
    have hch4:=Hch2.out
    have hxo4:=Hxo.out
    clear hgo hw4 Hch2 Hxo c1 c2 hch
    obtain⟨lb,hlb⟩:∃lb,l9++iP (os.take i)=lb:=⟨_,rfl⟩
    rw[hlb]at hch4 hbl
    have Hlb:=Lib.hid hlb
    clear hlb
    have hcl:=lQ o.data.length o.code o.data (Nat.le_refl _)
    go_loopw [8] (fun dv wx=>∃(d l:List UInt8) (A':Option Addr),dv= .string (bs d)∧Chn w1 (w.heap.size+1) w1.heap.size A' l wx∧AlS true (.slice (some ⟨go,0,none⟩) 0 0) 0 157 #[.int .u8 (o.code.toNat:Int),.string (bs o.data)] w1.heap.size A' wx∧
     l++lZ o.code d=lb++lZ o.code o.data∧d.length≤o.data.length) (fun dv _=>match dv with| .string s=>s.size|_=>0)
    case atStart=>exact⟨o.data,lb,A,rfl,hch4,hxo4,rfl,Nat.le_refl _⟩
    case round=>
     obtain⟨d,l,A',rfl,hchd,hxd,hld,hdl⟩:=hrel
     have hll:l.length≤30000000:=by
      have h1:=congrArg List.length hld
      rw[List.length_append,List.length_append]at h1
      omega
     rcases Nat.lt_or_ge 255 d.length with h255|h255
     ·have hmin:min (d.length:Int) 255=((255:Nat):Int):=by omega
      have hne:(d.drop 255==[])=false:=by rw[beq_eq_false_iff_ne];intro h;have:=congrArg List.length h;simp at this;omega
      go_upto_region 17 with fail
      refine xU (c:=aB Tryz.f139 17) (by kernel_rfl) (GX go 255 o.code o.data d w1 (w.heap.size+1) w1.heap.size A' l _ _ _ ⟨rfl,rfl⟩ rfl rfl rfl rfl (by omega) (by omega) (by omega) hxd hchd (by omega) ?_)
      intro a17 w17 A17 hs17 kp17 hch17 hx17
      rw[kp17.eq_put (n:=101) [74,75,76,77,78,79,80,81,82,83,84,85] ⟨rfl,rfl⟩ hs17 (by decide) (by decide)]
      simp only[List.foldl,Act.put,List.setIfInBounds_toArray,List.set_cons_succ,List.set_cons_zero]
      generalize sl a17=z17
      go_wp2_with fail
      refine⟨⟨d.drop 255,_,A17,rfl,hch17,hx17,?_,by rw[List.length_drop];omega⟩,by simp[aG];omega⟩
      rw[←hld,nS o.code d h255]
      simp
     ·have hmin:min (d.length:Int) 255=(d.length:Int):=by omega
      have hne:(d.drop d.length==[])=true:=by rw[List.drop_length];rfl
      go_upto_region 17 with fail
      refine xU (c:=aB Tryz.f139 17) (by kernel_rfl) (GX go d.length o.code o.data d w1 (w.heap.size+1) w1.heap.size A' l _ _ _ ⟨rfl,rfl⟩ rfl rfl rfl rfl (by omega) (by omega) (by omega) hxd hchd (by omega) ?_)
      intro a17 w17 A17 hs17 kp17 hch17 hx17
      rw[kp17.eq_put (n:=101) [74,75,76,77,78,79,80,81,82,83,84,85] ⟨rfl,rfl⟩ hs17 (by decide) (by decide)]
      simp only[List.foldl,Act.put,List.setIfInBounds_toArray,List.set_cons_succ,List.set_cons_zero]
      generalize sl a17=z17
      go_wp2_with fail
      refine⟨⟨i+1,A17,by omega,by rw[Int.natCast_add];rfl,?_,Hg1.out⟩,by simp only[intOf];omega⟩
      have e:l9++iP (os.take (i+1))=l++[o.code,UInt8.ofNat d.length]++List.flatten [List.take d.length d]:=by
       rw[qC Ho.out,←List.append_assoc,Hlb.out,←hld,iG o.code d h255]
       simp
      rw[e]
      exact hch17
  ·obtain rfl:i=n:=by omega
   rw[List.take_of_length_le (by omega)]at hch hbl
   have hg:os.any iL=false:=pW (by rw[hn];exact hgood)
   have Hg:=Lib.hid hg
   clear hg hgood
   go_upto_region 21 with fail
   refine xU (c:=aB Tryz.f139 21) (by kernel_rfl) (IS w1 (w.heap.size+1) w1.heap.size A _ _ _ _ ⟨rfl,rfl⟩ rfl hch (by omega) ?_)
   intro a21 w21 A21 hs21 kp21 ho10 hch21
   obtain⟨lf,hlf⟩:∃lf,mN (gK rp xid client yours next [m0,m1,m2,m3,m4,m5]) os=lf:=⟨_,rfl⟩
   have e10:sl a21 10= .string (bs lf):=by
    rw[ho10,←hlf,Hl9.out]
    unfold mN mT iP
    rfl
   have hsp:fH rp xid client yours next [m0,m1,m2,m3,m4,m5] os=if 1472<lf.length then([],7)else(lf,0):=by
    unfold fH
    rw[Hg.out,hlf]
    rfl
   have Hsp:=Lib.hid hsp
   have hfr:Fr noB w w21:=hf0.trans' hch21.fr (by rintro b hb rfl;omega)
   clear hlf ho10 hsp
   rw[kp21.eq_put (n:=101) [92,93,94,95,96,10] ⟨rfl,rfl⟩ hs21 (by decide) (by decide)]
   simp only[List.foldl,Act.put,List.setIfInBounds_toArray,List.set_cons_succ,List.set_cons_zero,e10]
   generalize sl a21=z21
   by_cases hlen:1472<lf.length
   ·have hli:(1472:Int)<(lf.length:Int):=by omega
    have Hr:Hid (fH rp xid client yours next [m0,m1,m2,m3,m4,m5] os=([],7)):=Lib.hid (by rw[Hsp.out,if_pos hlen])
    clear hlen
    go_wp2_with fail
    go_ret2
    exact⟨by rw[Hr.out];rfl,hfr⟩
   ·have hli:¬(1472:Int)<(lf.length:Int):=by omega
    have Hr:Hid (fH rp xid client yours next [m0,m1,m2,m3,m4,m5] os=(lf,0)):=Lib.hid (by rw[Hsp.out,if_neg hlen])
    clear hlen
    go_wp2_with fail
    go_ret2
    exact⟨by rw[Hr.out];rfl,hfr⟩
end Go.Proofs.YtcllkmllflheiaaGreatDoor
namespace Go.Proofs.YtcllkmllflheiaaGreatDoor
open Go.RowKit Go.Proofs
theorem Ec {P:Program} (w:World) (src dst e:TypeId) (g:Nat) (c:UInt8) (hs:P.underlying src=some (.slice e)) (he:P.underlying e=some (.int .u8)) (hd:P.underlying dst=some .string) (hc:w.cell? ⟨g,0,none⟩=some (.int .u8 (c.toNat:Int))):
 (convert src dst (.slice (some ⟨g,0,none⟩) 1 1)).run P w= .ok (.string (bs [c])) w:=
 Lib.run_convert_whole w src e dst hs he hd g 0 (bs [c]) (fun i h=>by
  have h1:i<1:=h
  obtain rfl:i=0:=by omega
  exact hc) 1
end Go.Proofs.YtcllkmllflheiaaGreatDoor
namespace Go.Proofs.YtcllkmllflheiaaGreatDoor
open Go.RowKit Go.Proofs
def Fv (s:St) (A:Option Addr) (n cap:Nat):Array Value:= #[.bool false,.int .u32 (s.xid:Int),.int .u32 (s.address:Int),.int .u32 0,.int .u32 0,.int .u8 (s.c.card.1.toNat:Int),.int .u8 (s.c.card.2.1.toNat:Int),.int .u8 (s.c.card.2.2.1.toNat:Int),.int .u8 (s.c.card.2.2.2.1.toNat:Int),.int .u8 (s.c.card.2.2.2.2.1.toNat:Int),.int .u8 (s.c.card.2.2.2.2.2.toNat:Int),.slice A n cap]
attribute [local simp] eC Fv ibq ibn eqN ltN leN eqL ltL gtL leL geL
attribute [local go_sem] aG aD aE aF
theorem pV (rp:Bool) (a b c d:Nat) (m:List UInt8) (os:List aX):(fH rp a b c d m os).1.length≤1472:=by
 unfold fH
 split
 ·simp
 ·split
  ·simp
  ·simp only[];omega
theorem yZ:∀a b:List aX,eA (a++b)=eA a++eA b
 |[],b=>rfl
 |o::r,b=>by simp only[List.cons_append,eA,yZ r b]
theorem Bv {w:World} {base:Nat} {e t:TypeId} {size n cap p:Nat} {A:Option Addr} {xs:List Value} {cs:Array Value} (h:w.ownsRow base e size (.slice A n cap) n xs) (hp:Bk w p t cs) (ht:t≠e):∀a,A=some a→p≠a.block:=by
 rintro a rfl rfl
 obtain⟨_,⟨h2,_⟩|⟨g',cap',cur,hv,hb,hg,_⟩⟩:=h
 ·cases h2
 ·cases hv
  rw[Bk,hg]at hp
  cases hp
  exact ht rfl
theorem yI:∀(a b:List aX),wtO (a++b)=wtO a+wtO b
 |[],b=>by simp[wtO]
 |o::r,b=>by simp only[List.cons_append,wtO,yI r b];omega
theorem rX (L:Lay) (s:St) (kind:UInt8) (rn:Bool) (os:List aX) (A:Option Addr) (cap n:Nat) (w:World) (h:aC w L s) (hn:os.length=n) (hA:SlR w noB 2 A n (eA os)) (hwt:wtO os≤1000):
 Calls Tryz.prog 85 #[.pointer (some ⟨L.p,0,none⟩),.int .u8 (kind.toNat:Int),.bool rn,.slice A n cap] w (cH L (s.say kind rn os) (.tuple #[]) w):=by
 obtain⟨mb,hmb⟩:∃mb,(fH false s.xid s.address 0 0 [s.c.card.1,s.c.card.2.1,s.c.card.2.2.1,s.c.card.2.2.2.1,s.c.card.2.2.2.2.1,s.c.card.2.2.2.2.2] (St.msgO kind os)).1=mb:=⟨_,rfl⟩
 have hmbl:mb.length≤1472:=by rw[←hmb];exact pV _ _ _ _ _ _ _
 have hsay:s.say kind rn os=if rn then s.udp s.server 68 67 mb else s.took.send (255,255,255,255,255,255) 2048 (s.packet 4294967295 68 67 mb):=by rw[←hmb];cases rn<;>rfl
 have hadr:s.address<4294967296:=by unfold St.address;split;exact h.ok.addr;omega
 have hnw:n≤1000:=by have:=dO os;omega
 have Hn:=Lib.hid hn
 have Hmb:=Lib.hid hmb
 have Hsay:=Lib.hid hsay
 have Hk:=Lib.hid (And.intro hmbl (And.intro hadr (And.intro hnw hwt)))
 clear hmb hsay hn hmbl hadr hnw hwt
 obtain⟨w0,hw⟩:∃x,x=w:=⟨_,rfl⟩
 have f0:Fr noB w0 w:=hw▸Fr.refl _ _
 rw[show cH L (s.say kind rn os) (.tuple #[]) w=cH L (s.say kind rn os) (.tuple #[]) w0 by rw[hw]]
 have h0:aC w0 L s:=hw▸h
 clear hw
 refine en Tryz.func85 Tryz.ntmps85 ?_
 refine W ?_
 refine cY (fun g=>[(8,.pointer (some ⟨g,0,none⟩)),(0,.pointer (some ⟨L.p,0,none⟩)),(1,.int .u8 (kind.toNat:Int)),(2,.bool rn),(3,.slice A n cap)]) (fun g w'=>aC w' L s∧SlR w' noB 2 A n (eA os)∧w0.heap.size≤g∧Bk w' g 139 (Fv s none 0 0)∧Fr noB w0 w') ?_ ?_
 ·refine dI (An h (An hA f0)) [14] [0,1,2,3,5,7,8,9,10,4,11,2000,6,12,13,14,3000,13,6,12,14] (h:= ?_)
  intro w1 h1 _
  refine D ?_
  have done:∀w2 w3,Fr noB w1 w2→Bk w3 w1.heap.size 139 (Fv s none 0 0)→Fr (aJ w1.heap.size) w2 w3→aC w3 L s∧SlR w3 noB 2 A n (eA os)∧w0.heap.size≤w1.heap.size∧Bk w3 w1.heap.size 139 (Fv s none 0 0)∧Fr noB w0 w3:=fun w2 w3 f2 hB f3=>by
   have f4:=bA f2 (Nat.le_refl _) f3
   exact⟨h1.1.none f4,h1.2.1.keep f4,h1.2.2.size,hB,h1.2.2.none f4⟩
  refine dF (tB:=[13,6,12,14]) ?_ ?_
  ·refine dC (aY L s w1 h1.1) ?_ ?_
   ·rintro _ rfl
    exact h1
   rintro _ rfl _
   refine D ?_
   refine dA2 (by infer_instance) h1 ?_
   intro w2 h2 hB f2
   refine D ?_
   refine dZ ?_
   intro w3 hB f3
   refine D ?_
   exact⟨_,mt (done _ _ f2 hB f3)⟩
  ·refine dA2 (by infer_instance) h1 ?_
   intro w2 h2 hB f2
   refine D ?_
   refine dC (aY L s w2 h2.1) ?_ ?_
   ·rintro _ rfl
    exact h2
   rintro _ rfl _
   refine D ?_
   refine dZ ?_
   intro w3 hB f3
   refine D ?_
   exact⟨_,mt (done _ _ f2 hB f3)⟩
 rintro g u w1 ⟨h1,hA1,hg,hB,f1⟩
 clear h hA f0 h1
 have hs1:=f1.size
 refine W ?_
 refine sA ?_
 intro w2 hK2 f2
 have hcv:=Ec (P:=Tryz.prog) w2 55 9 5 w1.heap.size kind Tryz.underlying55 Tryz.underlying5 Tryz.underlying9 (hK2.cells 0)
 refine W ?_
 have hs2:=f2.size
 have hO1:=World.ownsRow_lit (base:=w0.heap.size) (e:=157) (size:=2) w2 #[.int .u8 53,.string (bs [kind])] 1 (by omega) (by decide) rfl
 have f3:Fr noB w1 (w2.alloc (.cells #[.int .u8 53,.string (bs [kind])] 157)):=f2.alloc _
 refine sW (h:= ?_)
 have hgl:=hB.lt
 generalize w2.alloc (.cells #[.int .u8 53,.string (bs [kind])] 157)=w3 at*
 clear hcv hK2
 have hs3:=f3.size
 have Hs:=Lib.hid (And.intro hs1 (And.intro hs2 (And.intro hs3 (And.intro hg hgl))))
 clear hs1 hs2 hs3 hg hgl
 refine W ?_
 refine sP (base:=w0.heap.size) (hi:=jS) hO1 (hA1.keep f3) jM Tryz.underlying137 (by have:=Hk.out;unfold maxLen;omega) (by have:=Hk.out;omega) (by have:=Hs.out;omega) ?_
 intro A3 cap3 w4 ha
 have f4:Fr noB w1 w4:=f3.trans' ha.fr (by rintro b hb ⟨a,e,e2⟩;cases e;have:=Hs.out;simp only at e2;omega)
 have hB4:=hB.keep f4 id
 have hBf:=hB4.frees
 have hBc:=hB4.cells
 have hO4:=mL ha.own (p:=⟨g,11,none⟩) hB4 (by decide) (.slice A3 (1+n) cap3)
 have hB5:Bk (w4.setCell ⟨g,11,none⟩ (.slice A3 (1+n) cap3)) g 139 (Fv s A3 (1+n) cap3):=hB4.set 11 (.slice A3 (1+n) cap3)
 have f5:=(f1.none f4).setCell (p:=⟨g,11,none⟩) (fun x=>absurd x (by have:=Hs.out;show ¬g<w0.heap.size;omega)) (.slice A3 (1+n) cap3)
 clear hO1 hA1 ha hB f2 f3 f4 hB4
 refine W ?_
 refine sS (h:= ?_)
 clear hBf hBc
 generalize w4.setCell ⟨g,11,none⟩ (.slice A3 (1+n) cap3)=w5 at*
 replace Hs:=Lib.hid (And.intro Hs.out.2.2.2.1 f5.size)
 refine W ?_
 refine cY (fun(q:Option Addr×Nat)=>[(8,.pointer (some ⟨g,0,none⟩)),(0,.pointer (some ⟨L.p,0,none⟩)),(2,.bool rn)]) (fun q w'=>Bk w' g 139 (Fv s q.1 (St.msgO kind os).length q.2)∧SlR w' noB 2 q.1 (St.msgO kind os).length (eA (St.msgO kind os))∧Fr noB w0 w') ?_ ?_
 ·by_cases a1:kind.toNat=4
  ·have hm:St.msgO kind os=[⟨53,[kind]⟩]++os:=by unfold St.msgO;rw[if_pos (UInt8.toNat_inj.1 a1),List.append_nil]
   have hN:1+n=(St.msgO kind os).length:=by rw[hm,List.length_append,Hn.out];rfl
   have hO5:=lU hO4
   rw[show #[.int .u8 53,.string (bs [kind])].toList++eA os=eA (St.msgO kind os) by rw[hm];rfl,hN]at hO5
   rw[hN]at hB5
   clear hm hN hO4
   refine W ?_
   exact⟨(A3,cap3),mt ⟨hB5,hO5,f5⟩⟩
  ·have hm:St.msgO kind os=([⟨53,[kind]⟩]++os)++[⟨55,[1,3,51,54,58,59]⟩]:=by unfold St.msgO;rw[if_neg (fun e=>a1 (UInt8.toNat_inj.2 e))]
   have hN:(1+n)+1=(St.msgO kind os).length:=by rw[hm,List.length_append,List.length_append,Hn.out];rfl
   have Hm:=Lib.hid (And.intro hm hN)
   have hblk:=jD hO4
   have hgne:=Bv hO4 hB5 (by decide)
   clear hm hN
   refine W ?_
   have hO5:=hO4.alloc (.cells #[.int .u8 55,.string ⟨#[1,3,51,54,58,59]⟩] 157)
   have hsr:SlR (w5.alloc (.cells #[.int .u8 55,.string ⟨#[1,3,51,54,58,59]⟩] 157)) noB 2 (some ⟨w5.heap.size,0,none⟩) 1 (eA [⟨55,[1,3,51,54,58,59]⟩]):=SlR.of_bk (Bk.new w5 157 #[.int .u8 55,.string ⟨#[1,3,51,54,58,59]⟩]) (fun x=>x) rfl
   have f6:=f5.alloc (.cells #[.int .u8 55,.string ⟨#[1,3,51,54,58,59]⟩] 157)
   have hB6:=hB5.alloc (.cells #[.int .u8 55,.string ⟨#[1,3,51,54,58,59]⟩] 157)
   refine sW (h:= ?_)
   generalize hz:w5.heap.size=z at hsr⊢
   generalize w5.alloc (.cells #[.int .u8 55,.string ⟨#[1,3,51,54,58,59]⟩] 157)=w6 at*
   clear hO4 hB5 f5 hz
   refine W ?_
   refine sP (base:=w0.heap.size) (hi:=jS) hO5 hsr jM Tryz.underlying137 (by have:=Hk.out;unfold maxLen;omega) (by have:=Hk.out;omega) f6.size ?_
   intro A4 cap4 w7 ha
   have f7:Fr noB w0 w7:=f6.trans' ha.fr (by rintro b hb ⟨a,e,e2⟩;have:=hblk a e;omega)
   have hB7:=hB6.keep ha.fr (by rintro⟨a,e,e2⟩;exact hgne a e e2.symm)
   have hBf:=hB7.frees
   have hBc:=hB7.cells
   have hO8:=lU (mL ha.own (p:=⟨g,11,none⟩) hB7 (by decide) (.slice A4 (1+n+1) cap4))
   have hB8:Bk (w7.setCell ⟨g,11,none⟩ (.slice A4 (1+n+1) cap4)) g 139 (Fv s A4 (1+n+1) cap4):=hB7.set 11 (.slice A4 (1+n+1) cap4)
   have f8:=f7.setCell (p:=⟨g,11,none⟩) (fun x=>absurd x (by have:=Hs.out;show ¬g<w0.heap.size;omega)) (.slice A4 (1+n+1) cap4)
   clear hO5 hsr ha hB6 f6 f7 hB7 hblk hgne
   refine W ?_
   refine sS (h:= ?_)
   clear hBf hBc
   generalize w7.setCell ⟨g,11,none⟩ (.slice A4 (1+n+1) cap4)=w8 at*
   rw[show(#[.int .u8 53,.string (bs [kind])].toList++eA os)++eA [⟨55,[1,3,51,54,58,59]⟩]=eA (St.msgO kind os) by rw[Hm.out.1,yZ];rfl,Hm.out.2]at hO8
   rw[Hm.out.2]at hB8
   refine W ?_
   exact⟨(A4,cap4),mt ⟨hB8,hO8,f8⟩⟩
 rintro⟨A4,cap4⟩ u w6 ⟨hB,hO,f6⟩
 dsimp only at hB hO⊢
 clear hO4 hB5 f5 f1
 have hwt:wtO (St.msgO kind os)≤2097152:=by
  have:=Hk.out
  unfold St.msgO
  split<;>simp only[yI,wtO,List.length_cons,List.length_nil]<;>omega
 refine W ?_
 refine sC (C2 false s.xid s.address 0 0 s.c.card.1 s.c.card.2.1 s.c.card.2.2.1 s.c.card.2.2.2.1 s.c.card.2.2.2.2.1 s.c.card.2.2.2.2.2 (St.msgO kind os) A4 cap4 w6 h0.ok.xid Hk.out.2.1 (by decide) (by decide) hO hwt) ?_
 intro w7 f7
 rw[Hmb.out]
 replace f7:=f6.none f7
 have h7:=h0.none f7
 clear hB hO f6 hwt h0
 cases rn
 rotate_left
 ·refine W ?_
  refine sC (DW L s s.server 68 67 mb w7 h7 h7.ok.server (by decide) (by decide) (by have:=Hk.out.1;omega)) ?_
  rintro w8 ⟨h8,f8⟩
  refine W ?_
  rw[Hsay.out,if_pos rfl]
  exact⟨rfl,h8,(f7.of_no _).trans f8⟩
 have hpl:=hZ s 4294967295 68 67 mb
 replace Hsay:=Lib.hid (Hsay.out.trans (if_neg (by decide)))
 obtain⟨pk,hpk⟩:∃pk,s.packet 4294967295 68 67 mb=pk:=⟨_,rfl⟩
 have hP:=fun(w:World) (h:aC w L s)=>oB L s 4294967295 68 67 mb w h (by decide) (by decide) (by decide) (by have:=Hk.out.1;omega)
 rw[hpk]at hpl hP Hsay
 have hpl2:pk.length≤9223372036854775807:=by have:=Hk.out.1;omega
 have Hpl:=Lib.hid hpl2
 have HP:=Lib.hid hP
 clear hpk hpl hP hpl2
 refine W ?_
 refine dI (An h7 f7) [4,5] [0,2,3,2000,4001,4,5,3000,4,4001,5] (h:= ?_)
 intro w8 h8 _
 clear h7 f7
 refine D ?_
 refine dF (tB:=[4,4001,5]) ?_ ?_
 ·have HB:=h8.1
  have o0:=HB.gb.all.2 0 _ rfl;have o1:=HB.gb.all.2 1 _ rfl;have o2:=HB.gb.all.2 2 _ rfl;have o3:=HB.gb.all.2 3 _ rfl;have o4:=HB.gb.all.2 4 _ rfl;have o5:=HB.gb.all.2 5 _ rfl
  refine dU (fun _=>h8) (h:= ?_)
  refine D ?_
  refine dD (HP.out w8 h8.1) ?_
  rintro w9 ⟨h9,f9⟩
  refine D ?_
  refine dD (jC L s.took 255 255 255 255 255 255 2048 pk w9 h9 (by decide) Hpl.out) ?_
  rintro w10 ⟨h10,f10⟩
  refine D ?_
  refine W ?_
  rw[Hsay.out]
  exact⟨rfl,h10,(h8.2.of_no _).trans (f9.trans f10)⟩
 ·refine dD (HP.out w8 h8.1) ?_
  rintro w9 ⟨h9,f9⟩
  have HB:=h9
  have o0:=HB.gb.all.2 0 _ rfl;have o1:=HB.gb.all.2 1 _ rfl;have o2:=HB.gb.all.2 2 _ rfl;have o3:=HB.gb.all.2 3 _ rfl;have o4:=HB.gb.all.2 4 _ rfl;have o5:=HB.gb.all.2 5 _ rfl
  refine D ?_
  refine dU (fun e=>by cases e) (h:= ?_)
  refine D ?_
  refine dD (jC L s.took 255 255 255 255 255 255 2048 pk w9 h9 (by decide) Hpl.out) ?_
  rintro w10 ⟨h10,f10⟩
  refine D ?_
  refine W ?_
  rw[Hsay.out]
  exact⟨rfl,h10,(h8.2.of_no _).trans (f9.trans f10)⟩
end Go.Proofs.YtcllkmllflheiaaGreatDoor
namespace Go.Proofs.YtcllkmllflheiaaGreatDoor
open Go.RowKit Go.Proofs
attribute [local go_sem] aG aD aE aF
theorem Ej (cb co b:Nat) (l:List aS) (w:World) (hc:w.cell? ⟨cb,co,none⟩=some (.map (some b))) (hm:dR w b l) (hl4:l.length≤4):
 Calls Tryz.prog 50 #[.pointer (some ⟨cb,co,none⟩)] w fun e w'=>e= .returned (.int .i64 (l.length:Int))∧Fr noB w w':=by
 obtain⟨D,hown,hrep⟩:=hm
 go_enter Tryz.func50,Tryz.ntmps50
 go_wp2_with fail
 rw[hown.len Tryz.underlying77 3,hrep.size]
 go_wp2_with fail
 go_ret
 exact⟨rfl,Fr.refl _ _⟩
end Go.Proofs.YtcllkmllflheiaaGreatDoor
namespace Go.Proofs.YtcllkmllflheiaaGreatDoor
open Go.RowKit Go.Proofs
attribute [local go_sem] aG aD aE aF
theorem nJ (ip:Nat) (w:World) (hip:ip<4294967296):
 Calls Tryz.prog 86 #[.int .u32 (ip:Int)] w fun e w'=>e= .returned (.string (bs (big 4 ip)))∧Fr noB w w':=by
 have hf0:Fr noB w ((w.alloc (.cells #[.slice none 0 0] 200)).alloc (.cells #[.int .u32 (ip:Int)] 53)):=((Fr.refl _ _).alloc _).alloc _
 have hbw:=(Bk.new w 200 #[.slice none 0 0]).alloc (.cells #[.int .u32 (ip:Int)] 53)
 have hbs:=Bk.new (w.alloc (.cells #[.slice none 0 0] 200)) 53 #[.int .u32 (ip:Int)]
 rw[show(w.alloc (.cells #[.slice none 0 0] 200)).heap.size=w.heap.size+1 by simp]at hbs
 have hwr:=Wr.zero hbw
 have hcall:=wIP w.heap.size none [] _ (some ⟨w.heap.size+1,0,none⟩) 1 1 [(ip:Int)] hwr (SlR.of_bk hbs (by rintro(h|⟨a,h,_⟩);omega;cases h) rfl) (by simp;omega) (by decide) (by simp)
 have Hcall:=Lib.hid hcall
 clear hcall
 go_enter Tryz.func86,Tryz.ntmps86
 go_wp2_with fail
 refine Hcall.out.mono ?_
 rintro e w2 ⟨rfl,A',hw2,hf2,ha2⟩
 go_wp2_with fail
 refine(kH w.heap.size A' _ w2 hw2).mono ?_
 rintro e w3 ⟨rfl,rfl⟩
 go_wp2_with fail
 go_ret
 refine⟨by simp[bG],hf0.trans' hf2 ?_⟩
 rintro b hb (rfl|⟨a,h,_⟩)
 ·exact absurd hb (Nat.lt_irrefl _)
 ·cases h
end Go.Proofs.YtcllkmllflheiaaGreatDoor
namespace Go.Proofs.YtcllkmllflheiaaGreatDoor
open Go.RowKit Go.Proofs
attribute [local go_sem] aG aD aE aF
theorem qK (cb co:Nat) (v:Value) (w:World) (hc:w.cell? ⟨cb,co,none⟩=some v) (hfz:w.frozen? ⟨cb,co,none⟩=false):
 Calls Tryz.prog 29 #[.pointer (some ⟨cb,co,none⟩)] w fun e w'=>e= .returned (.tuple #[])∧w'=(w.alloc (.map #[] 0)).setCell ⟨cb,co,none⟩ (.map (some w.heap.size)):=by
 have hlt:=bK hc
 have hc2:(w.alloc (.map #[] 0)).cell? ⟨cb,co,none⟩=some v:=by
  rw[show(w.alloc (.map #[] 0)).cell? ⟨cb,co,none⟩=w.cell? ⟨cb,co,none⟩from by unfold World.cell?;rw[Below.heap_alloc w _ cb hlt]]
  exact hc
 have hf2:(w.alloc (.map #[] 0)).frozen? ⟨cb,co,none⟩=false:=by
  rw[show(w.alloc (.map #[] 0)).frozen? ⟨cb,co,none⟩=w.frozen? ⟨cb,co,none⟩from by unfold World.frozen?;rw[Below.heap_alloc w _ cb hlt]]
  exact hfz
 have hmm:= @run_makeMap Tryz.prog
 go_enter Tryz.func29,Tryz.ntmps29
 go_wp2_with fail
 exact bodyPost_end (results_none rfl _ _ _) rfl ⟨rfl,rfl⟩
theorem Cn {w:World} {cb co:Nat} (hlt:cb<w.heap.size):dR ((w.alloc (.map #[] 0)).setCell ⟨cb,co,none⟩ (.map (some w.heap.size))) w.heap.size []:=by
 have h1:dR (w.alloc (.map #[] 0)) w.heap.size []:=⟨_,w.ownsMap_made _ _ _,Rep.nil⟩
 have hf:Fr (aJ cb) (w.alloc (.map #[] 0)) ((w.alloc (.map #[] 0)).setCell ⟨cb,co,none⟩ (.map (some w.heap.size))):=(Fr.refl (aJ cb) (w.alloc (.map #[] 0))).setCell (p:=⟨cb,co,none⟩) (fun _=>rfl) (.map (some w.heap.size))
 exact h1.keep hf (fun x=>by have x':w.heap.size=cb:=x;omega)
end Go.Proofs.YtcllkmllflheiaaGreatDoor
namespace Go.Proofs.YtcllkmllflheiaaGreatDoor
open Go.RowKit Go.Proofs
attribute [local go_sem] aG aD aE aF
theorem Ce {w:World} (h:Glb w):∀b,glB b→b<w.heap.size:=by
 rintro b (rfl|rfl|rfl|rfl|rfl|rfl)
 ·exact h.all.1
 ·exact h.rounds.1
 ·exact h.begin.1
 ·exact h.tabs.lt.1
 ·exact h.tabs.lt.2
 ·exact E0 h.pow JN
def bP (L:Lay) (s:St) (r:Value) (w:World) (e:Ending) (w':World):Prop:=e= .returned r∧∃L':Lay,L'.p=L.p∧(∀b,bW L' b→bW L b∨w.heap.size≤b)∧aC w' L' s∧Fr (bW L) w w'
theorem cH.two {L:Lay} {s:St} {r:Value} {w w':World} {e:Ending} (h:cH L s r w e w'):bP L s r w e w':=⟨h.1,L,rfl,fun b hb=> .inl hb,h.2⟩
theorem bP.comp {L L1:Lay} {s:St} {r:Value} {w w1 w':World} {e:Ending} (hp:L1.p=L.p) (ho:∀b,bW L1 b→bW L b∨w.heap.size≤b) (hf:Fr (bW L) w w1) (h:bP L1 s r w1 e w'):bP L s r w e w':=by
 obtain⟨h1,L',h2,h3,h4,h5⟩:=h
 refine⟨h1,L',h2.trans hp,fun b hb=> ?_,h4,hf.trans' h5 fun b hb hx=> ?_⟩
 ·rcases h3 b hb with h|h
  ·exact ho b h
  ·exact .inr (Nat.le_trans hf.size h)
 ·rcases ho b hx with h|h
  ·exact h
  ·omega
theorem sQ {s:St} (h:s.Ok):s.drop.Ok where
 rx0:=h.rx0
 rx1:=h.rx1
 tx0:=h.tx0
 tx1:=h.tx1
 draw:=h.draw
 xid:=by simp[St.drop]
 addr:=by simp[St.drop]
 mask:=by simp[St.drop]
 router:=by simp[St.drop]
 server:=by simp[St.drop]
 source:=by simp[St.drop]
 lsends:=by simp[St.drop]
 tsends:=by simp[St.drop]
 port:=by simp[St.drop]
 peer:=by simp[St.drop]
 goal:=by simp[St.drop]
 last:=by simp[St.drop]
 name:=h.name
 cap:=h.cap
 block:=h.block
 window:=h.window
 blk:=by simp[St.drop]
 wind:=by simp[St.drop]
 next:=by simp[St.drop]
 image:=by simp[St.drop]
 waits:=by simp[St.drop]
 cache:=by simp[St.drop]
 now0:=h.now0
 now1:=h.now1
 dues:=by simp[St.drop]
theorem wD (L:Lay) (s:St) (w:World) (h:aC w L s):
 Calls Tryz.prog 59 #[.pointer (some ⟨L.p,0,none⟩)] w (bP L s.drop (.tuple #[]) w):=by
 obtain⟨w1,hw1⟩:∃w1,((((((((((((((((((((((((w.setCell ⟨L.p,21,none⟩ (.int .i64 0)).setCell ⟨L.p,22,none⟩ (.int .u32 0)).setCell ⟨L.p,23,none⟩ (.int .u32 0)).setCell ⟨L.p,24,none⟩ (.int .u32 0)).setCell ⟨L.p,25,none⟩ (.int .u32 0)).setCell ⟨L.p,26,none⟩ (.int .u32 0)).setCell ⟨L.p,27,none⟩ (.int .u32 0)).setCell ⟨L.p,28,none⟩ (.int .i64 0)).setCell ⟨L.p,29,none⟩ (.int .i64 0)).setCell ⟨L.p,30,none⟩ (.int .i64 0)).setCell ⟨L.p,31,none⟩ (.int .i64 0)).setCell ⟨L.p,32,none⟩ (.int .i64 0)).setCell ⟨L.p,33,none⟩ (.int .i64 0)).setCell ⟨L.p,34,none⟩ (.int .u16 0)).setCell ⟨L.p,35,none⟩ (.int .u16 0)).setCell ⟨L.p,36,none⟩ (.int .u16 0)).setCell ⟨L.p,37,none⟩ (.int .i64 0)).setCell ⟨L.p,38,none⟩ (.int .i64 0)).setCell ⟨L.p,39,none⟩ (.int .u16 0)).setCell ⟨L.p,40,none⟩ (.int .i64 0)).setCell ⟨L.p,41,none⟩ (.int .i64 0)).setCell ⟨L.p,42,none⟩ (.int .i64 0)).setCell ⟨L.p,43,none⟩ (.string ⟨#[]⟩)).setCell ⟨L.p,44,none⟩ (.slice none 0 0))=w1:=⟨_,rfl⟩
 have hce0:(((((((((((((((((((((((((eC s L).setIfInBounds 21 (.int .i64 0)).setIfInBounds 22 (.int .u32 0)).setIfInBounds 23 (.int .u32 0)).setIfInBounds 24 (.int .u32 0)).setIfInBounds 25 (.int .u32 0)).setIfInBounds 26 (.int .u32 0)).setIfInBounds 27 (.int .u32 0)).setIfInBounds 28 (.int .i64 0)).setIfInBounds 29 (.int .i64 0)).setIfInBounds 30 (.int .i64 0)).setIfInBounds 31 (.int .i64 0)).setIfInBounds 32 (.int .i64 0)).setIfInBounds 33 (.int .i64 0)).setIfInBounds 34 (.int .u16 0)).setIfInBounds 35 (.int .u16 0)).setIfInBounds 36 (.int .u16 0)).setIfInBounds 37 (.int .i64 0)).setIfInBounds 38 (.int .i64 0)).setIfInBounds 39 (.int .u16 0)).setIfInBounds 40 (.int .i64 0)).setIfInBounds 41 (.int .i64 0)).setIfInBounds 42 (.int .i64 0)).setIfInBounds 43 (.string ⟨#[]⟩)).setIfInBounds 44 (.slice none 0 0))=eC s.drop {L with img:=none,icap:=0}:=by
  unfold eC
  simp only[List.setIfInBounds_toArray,List.set_cons_zero,List.set_cons_succ]
  rfl
 have hb1:Bk w1 L.p 86 (eC s.drop {L with img:=none,icap:=0}):=by rw[←hw1,←hce0];exact((((((((((((((((((((((((h.bk.set 21 (.int .i64 0)).set 22 (.int .u32 0)).set 23 (.int .u32 0)).set 24 (.int .u32 0)).set 25 (.int .u32 0)).set 26 (.int .u32 0)).set 27 (.int .u32 0)).set 28 (.int .i64 0)).set 29 (.int .i64 0)).set 30 (.int .i64 0)).set 31 (.int .i64 0)).set 32 (.int .i64 0)).set 33 (.int .i64 0)).set 34 (.int .u16 0)).set 35 (.int .u16 0)).set 36 (.int .u16 0)).set 37 (.int .i64 0)).set 38 (.int .i64 0)).set 39 (.int .u16 0)).set 40 (.int .i64 0)).set 41 (.int .i64 0)).set 42 (.int .i64 0)).set 43 (.string ⟨#[]⟩)).set 44 (.slice none 0 0))
 clear hce0
 have hf1:Fr (aJ L.p) w w1:=by rw[←hw1];exact(((((((((((((((((((((((((Fr.refl (aJ L.p) w).setCell (p:=⟨L.p,21,none⟩) (fun _=>rfl) (.int .i64 0)).setCell (p:=⟨L.p,22,none⟩) (fun _=>rfl) (.int .u32 0)).setCell (p:=⟨L.p,23,none⟩) (fun _=>rfl) (.int .u32 0)).setCell (p:=⟨L.p,24,none⟩) (fun _=>rfl) (.int .u32 0)).setCell (p:=⟨L.p,25,none⟩) (fun _=>rfl) (.int .u32 0)).setCell (p:=⟨L.p,26,none⟩) (fun _=>rfl) (.int .u32 0)).setCell (p:=⟨L.p,27,none⟩) (fun _=>rfl) (.int .u32 0)).setCell (p:=⟨L.p,28,none⟩) (fun _=>rfl) (.int .i64 0)).setCell (p:=⟨L.p,29,none⟩) (fun _=>rfl) (.int .i64 0)).setCell (p:=⟨L.p,30,none⟩) (fun _=>rfl) (.int .i64 0)).setCell (p:=⟨L.p,31,none⟩) (fun _=>rfl) (.int .i64 0)).setCell (p:=⟨L.p,32,none⟩) (fun _=>rfl) (.int .i64 0)).setCell (p:=⟨L.p,33,none⟩) (fun _=>rfl) (.int .i64 0)).setCell (p:=⟨L.p,34,none⟩) (fun _=>rfl) (.int .u16 0)).setCell (p:=⟨L.p,35,none⟩) (fun _=>rfl) (.int .u16 0)).setCell (p:=⟨L.p,36,none⟩) (fun _=>rfl) (.int .u16 0)).setCell (p:=⟨L.p,37,none⟩) (fun _=>rfl) (.int .i64 0)).setCell (p:=⟨L.p,38,none⟩) (fun _=>rfl) (.int .i64 0)).setCell (p:=⟨L.p,39,none⟩) (fun _=>rfl) (.int .u16 0)).setCell (p:=⟨L.p,40,none⟩) (fun _=>rfl) (.int .i64 0)).setCell (p:=⟨L.p,41,none⟩) (fun _=>rfl) (.int .i64 0)).setCell (p:=⟨L.p,42,none⟩) (fun _=>rfl) (.int .i64 0)).setCell (p:=⟨L.p,43,none⟩) (fun _=>rfl) (.string ⟨#[]⟩)).setCell (p:=⟨L.p,44,none⟩) (fun _=>rfl) (.slice none 0 0))
 have Hw1:=Lib.hid hw1
 clear hw1
 have hlt:=h.lt
 have c21:=h.g21
 have c22:=h.g22
 have c23:=h.g23
 have c24:=h.g24
 have c25:=h.g25
 have c26:=h.g26
 have c27:=h.g27
 have c28:=h.g28
 have c29:=h.g29
 have c30:=h.g30
 have c31:=h.g31
 have c32:=h.g32
 have c33:=h.g33
 have c34:=h.g34
 have c35:=h.g35
 have c36:=h.g36
 have c37:=h.g37
 have c38:=h.g38
 have c39:=h.g39
 have c40:=h.g40
 have c41:=h.g41
 have c42:=h.g42
 have c43:=h.g43
 have c44:=h.g44
 have hfz:=h.fr
 have hcall:=qK L.p 15 (.map (some L.mp)) w1 (hb1.cell 15) (hb1.free 15)
 have Hcall:=Lib.hid hcall
 clear hcall
 go_enter Tryz.func59,Tryz.ntmps59
 go_wp2_with fail
 rw[Hw1.out]
 refine Hcall.out.mono ?_
 rintro e w3 ⟨rfl,rfl⟩
 have hfr:Fr (aJ L.p) w ((w1.alloc (.map #[] 0)).setCell ⟨L.p,15,none⟩ (.map (some w1.heap.size))):=(hf1.alloc _).setCell (p:=⟨L.p,15,none⟩) (fun _=>rfl) _
 have hpl:L.p<w1.heap.size:=hb1.lt
 have hmp:=Cn (w:=w1) (cb:=L.p) (co:=15) hpl
 have hbk:Bk ((w1.alloc (.map #[] 0)).setCell ⟨L.p,15,none⟩ (.map (some w1.heap.size))) L.p 86 (eC s.drop ⟨L.p,L.rx,L.rxs,L.tx,L.txs,w1.heap.size,none,0⟩):=(hb1.alloc _).set 15 _
 generalize hw3:(w1.alloc (.map #[] 0)).setCell ⟨L.p,15,none⟩ (.map (some w1.heap.size))=w3 at*
 have hs1:=hf1.size
 have hn:=h.ne
 have hgl:=Ce h.gb
 have q0:=hlt _ (.inl (show L.p∈L.blocks by simp[Lay.blocks]))
 have q1:=hlt _ (.inl (show L.rx∈L.blocks by simp[Lay.blocks]))
 have q2:=hlt _ (.inl (show L.rxs∈L.blocks by simp[Lay.blocks]))
 have q3:=hlt _ (.inl (show L.tx∈L.blocks by simp[Lay.blocks]))
 have q4:=hlt _ (.inl (show L.txs∈L.blocks by simp[Lay.blocks]))
 simp only[Lay.blocks,List.nodup_cons,List.mem_cons,List.not_mem_nil,or_false,not_or]at hn
 obtain⟨⟨n1,n2,n3,n4,n5⟩,⟨m2,m3,m4,m5⟩,⟨k3,k4,k5⟩,⟨j4,j5⟩,i5,_⟩:=hn
 have hown:∀b,bW ⟨L.p,L.rx,L.rxs,L.tx,L.txs,w1.heap.size,none,0⟩ b→(bW L b∨b=w1.heap.size):=by
  rintro b (hb|⟨a,ha,_⟩)
  ·simp only[Lay.blocks,List.mem_cons,List.not_mem_nil,or_false]at hb
   rcases hb with rfl|rfl|rfl|rfl|rfl|rfl
   ·exact .inl (.inl (by simp[Lay.blocks]))
   ·exact .inl (.inl (by simp[Lay.blocks]))
   ·exact .inl (.inl (by simp[Lay.blocks]))
   ·exact .inl (.inl (by simp[Lay.blocks]))
   ·exact .inl (.inl (by simp[Lay.blocks]))
   ·exact .inr rfl
  ·cases ha
 go_wp2_with fail
 refine bodyPost_end (results_none rfl _ _ _) rfl ⟨rfl,⟨L.p,L.rx,L.rxs,L.tx,L.txs,w1.heap.size,none,0⟩,rfl,fun b hb=> ?_,?_,hfr.mono fun b _ hb=>by obtain rfl:b=L.p:=hb;exact mH L⟩
 ·rcases hown b hb with hb|rfl
  ·exact .inl hb
  ·exact .inr hs1
 ·refine⟨hbk,h.rx.keep hfr (fun x=>n1 x.symm) (fun x=>n2 x.symm),h.tx.keep hfr (fun x=>n3 x.symm) (fun x=>n4 x.symm),hmp,⟨by simp[u8s,St.drop],.inl ⟨rfl,rfl⟩⟩,?_,(fun a ha=>by cases ha),sQ h.ok,h.gb.keep hfr (fun b hb x=>h.gd _ (mH L) (x▸hb)),fun b hb=> ?_⟩
  ·simp only[Lay.blocks,List.nodup_cons,List.mem_cons,List.not_mem_nil,or_false,not_or]
   exact⟨⟨n1,n2,n3,n4,by omega⟩,⟨m2,m3,m4,by omega⟩,⟨k3,k4,by omega⟩,⟨j4,by omega⟩,by omega,by simp⟩
  ·rcases hown b hb with hb|rfl
   ·exact h.gd b hb
   ·intro hx;have:=hgl _ hx;omega
end Go.Proofs.YtcllkmllflheiaaGreatDoor
namespace Go.Proofs.YtcllkmllflheiaaGreatDoor
open Go.RowKit Go.Proofs
attribute [local go_sem] aG aD aE aF
theorem oK (L:Lay) (s:St) (w:World) (h:aC w L s):
 Calls Tryz.prog 39 #[.pointer (some ⟨L.p,0,none⟩)] w (bP L s.fail (.tuple #[]) w):=by
 have hcall:=wD L s w h
 have Hcall:=Lib.hid hcall
 clear hcall
 go_enter Tryz.func39,Tryz.ntmps39
 go_wp2_with fail
 refine Hcall.out.mono ?_
 rintro e w1 ⟨rfl,⟨p',rx',rxs',tx',txs',mp',im',ic'⟩,hp,ho,hB,hF⟩
 have hp':p'=L.p:=hp
 subst hp'
 have c18:=hB.g18
 have c33:=hB.g33
 have hfz:=hB.fr
 dsimp only at c18 c33 hfz
 have hs:s.drop.boots=s.boots:=rfl
 have hph:s.drop.phase=0:=rfl
 rw[hs]at c18
 rw[hph]at c33
 have hown:∀b,b<w.heap.size→bW ⟨L.p,rx',rxs',tx',txs',mp',im',ic'⟩ b→bW L b:=fun b hb hx=>by
  rcases ho b hx with h|h
  ·exact h
  ·omega
 have hw:=iQ (s.boots+1)
 by_cases h3:wrap64 (s.boots+1)=3
 ·have hu:s.fail={s.drop with boots:=wrap64 (s.boots+1),phase:=4}:=by unfold St.fail;rw[if_pos h3]
  rw[h3]at hw hu
  have Hu:=Lib.hid hu
  clear hu h3 hs hph
  go_wp2_with fail
  refine bodyPost_end (results_none rfl _ _ _) rfl ⟨rfl,⟨L.p,rx',rxs',tx',txs',mp',im',ic'⟩,rfl,ho,?_,?_⟩
  ·rw[Hu.out]
   have hf:=((Fr.refl (aJ L.p) w1).setCell (p:=⟨L.p,18,none⟩) (fun _=>rfl) (.int .i64 3)).setCell (p:=⟨L.p,33,none⟩) (fun _=>rfl) (.int .i64 4)
   exact hB.turn _ hf ((hB.bk.set 18 _).set 33 _) rfl rfl rfl rfl rfl {sQ h.ok with}
  ·exact hF.trans' (((Fr.refl (bW ⟨L.p,rx',rxs',tx',txs',mp',im',ic'⟩) w1).setCell (p:=⟨L.p,18,none⟩) (fun _=>mH ⟨L.p,rx',rxs',tx',txs',mp',im',ic'⟩) _).setCell (p:=⟨L.p,33,none⟩) (fun _=>mH ⟨L.p,rx',rxs',tx',txs',mp',im',ic'⟩) _) hown
 ·have hu:s.fail={s.drop with boots:=wrap64 (s.boots+1)}:=by unfold St.fail;rw[if_neg h3]
  have h3b:(wrap64 (s.boots+1)==3)=false:=by rw[beq_eq_false_iff_ne];exact h3
  have Hu:=Lib.hid hu
  clear hu h3 hs hph
  go_wp2_with fail
  refine bodyPost_end (results_none rfl _ _ _) rfl ⟨rfl,⟨L.p,rx',rxs',tx',txs',mp',im',ic'⟩,rfl,ho,?_,?_⟩
  ·rw[Hu.out]
   have hf:=(Fr.refl (aJ L.p) w1).setCell (p:=⟨L.p,18,none⟩) (fun _=>rfl) (.int .i64 (wrap64 (s.boots+1)))
   exact hB.turn _ hf (hB.bk.set 18 _) rfl rfl rfl rfl rfl {sQ h.ok with}
  ·exact hF.trans' ((Fr.refl (bW ⟨L.p,rx',rxs',tx',txs',mp',im',ic'⟩) w1).setCell (p:=⟨L.p,18,none⟩) (fun _=>mH ⟨L.p,rx',rxs',tx',txs',mp',im',ic'⟩) _) hown
end Go.Proofs.YtcllkmllflheiaaGreatDoor
namespace Go.Proofs.YtcllkmllflheiaaGreatDoor
open Go.RowKit Go.Proofs
attribute [local go_sem] aG aD aE aF
theorem rU (s:St):wtO s.both≤1000:=by simp[St.both,wtO,aH]
theorem vQ (L:Lay) (s:St) (w:World) (h:aC w L s):
 Calls Tryz.prog 56 #[.pointer (some ⟨L.p,0,none⟩)] w (cH L s.asks (.tuple #[]) w):=by
 have c21:=h.g21
 by_cases hl:s.lease=1
 ·have hu:s.asks=s.say 1 false []:=by unfold St.asks;rw[if_pos hl]
  have b1:((s.lease:Int)==1)=true:=by rw[hl];rfl
  have hcall:=rX L s 1 false [] none 0 0 w h rfl SlR.nil (by decide)
  have Hcall:=Lib.hid hcall
  have Hu:=Lib.hid hu
  clear hcall hu hl
  go_enter Tryz.func56,Tryz.ntmps56
  go_wp2_with fail
  refine Hcall.out.mono ?_
  rintro e w2 ⟨rfl,hM,f2⟩
  go_wp2_with fail
  refine bodyPost_end (results_none rfl _ _ _) rfl ?_
  rw[Hu.out]
  exact⟨rfl,hM,f2⟩
 ·have hu:s.asks=s.say 3 false s.both:=by unfold St.asks;rw[if_neg hl]
  have b1:((s.lease:Int)==1)=false:=by simp;omega
  have Hu:=Lib.hid hu
  clear hu hl
  go_enter Tryz.func56,Tryz.ntmps56
  go_upto_region 2 with fail
  refine wpr (fun w'=>aC w' L s∧Fr noB w w') [16] (.p 0 (.p 1 (.p 2 (.p 3 (.p 4 (.p 8 (.p 9 (.p 10 (.p 11 (.q 5 (.q 12 (.e 6 (.p 7 (.e 13 (.p 14 (.e 15 (.e 16 (.nil)))))))))))))))))) (⟨h.drew,(Fr.refl _ _).drew⟩) ?_
  intro ops Q' hO hQ' wr1 hR1
  iterate 9 refine pP hO ?_
  iterate 2 (refine pQ hO rfl rfl (fun w' hS=>by obtain⟨hB,hF⟩:=hS;have c23:=hB.g23;have c26:=hB.g26;exact qd) ?_)
  refine fJ hO rfl rfl rfl (fun K hK=> ?_)
  go_simp
  refine(nJ s.addr _ h.ok.addr).mono ?_
  rintro e w2 ⟨rfl,fw2⟩
  refine hK _ _ (⟨hR1.1.none fw2,hR1.2.none fw2⟩) (fun hR_6=> ?_)
  clear hK K
  refine pP hO ?_
  refine fJ hO rfl rfl rfl (fun K hK=> ?_)
  go_simp
  refine(nJ s.server _ h.ok.server).mono ?_
  rintro e w3 ⟨rfl,fw3⟩
  refine hK _ _ (⟨hR_6.1.none fw3,hR_6.2.none fw3⟩) (fun hR_13=> ?_)
  clear hK K
  refine pP hO ?_
  refine fJ hO rfl rfl rfl (fun K hK=> ?_)
  go_simp
  refine hK _ _ (⟨hR_13.1.none ((Fr.refl _ _).alloc _),hR_13.2.none ((Fr.refl _ _).alloc _)⟩) (fun hR_15=> ?_)
  clear hK K
  refine gC hO rfl rfl rfl (fun K hK=> ?_)
  go_simp
  refine(rX L s 3 false s.both (some ⟨w3.heap.size,0,none⟩) 2 2 _ hR_15.1 rfl (SlR.of_bk (Bk.new w3 157 #[.int .u8 50,.string (bs (big 4 s.addr)),.int .u8 54,.string (bs (big 4 s.server))]) (fun x=>x) rfl) (rU s)).mono ?_
  rintro e w4 ⟨rfl,hM4,f4⟩
  refine hK _ _ ?_
  clear hK K
  refine bV (hQ' _ _ ?_)
  go_wp2_with fail
  refine bodyPost_end (results_none rfl _ _ _) rfl ?_
  rw[Hu.out]
  exact⟨rfl,hM4,(hR_15.2.of_no (bW L)).trans f4⟩
theorem uV (L:Lay) (s:St) (l:Nat) (w:World) (h:aC w L s):
 Calls Tryz.prog 55 #[.pointer (some ⟨L.p,0,none⟩),.int .i64 (l:Int)] w (cH L (s.goes l) (.tuple #[]) w):=by
 obtain⟨s2,hs2⟩:∃s2:St,{s with lease:=l,lsends:=1}=s2:=⟨_,rfl⟩
 have hM2:aC ((w.setCell ⟨L.p,21,none⟩ (.int .i64 (l:Int))).setCell ⟨L.p,32,none⟩ (.int .i64 1)) L s2:=by
  rw[←hs2]
  exact(h.set1 21 (.int .i64 (l:Int)) {s with lease:=l} rfl rfl rfl rfl rfl rfl {h.ok with}).set1 32 (.int .i64 1) {s with lease:=l,lsends:=1} rfl rfl rfl rfl rfl rfl {h.ok with lsends:=by show 1≤4;decide}
 have f2:Fr (bW L) w ((w.setCell ⟨L.p,21,none⟩ (.int .i64 (l:Int))).setCell ⟨L.p,32,none⟩ (.int .i64 1)):=(mD L w _ _).trans (mD L _ _ _)
 have c21:=h.g21
 have c32:=h.g32
 have hfz:=h.fr
 go_enter Tryz.func55,Tryz.ntmps55
 go_upto_region 2 with fail
 generalize(w.setCell ⟨L.p,21,none⟩ (.int .i64 (l:Int))).setCell ⟨L.p,32,none⟩ (.int .i64 1)=w2 at*
 have q:=iQ (s2.now+s2.wait 0)
 refine wpr (fun w'=>aC w' L s2∧Fr noB w2 w') [11] (.p 0 (.p 1 (.p 2 (.p 3 (.p 5 (.q 4 (.e 6 (.p 7 (.p 8 (.p 9 (.p 10 (.e 11 (.nil))))))))))))) (⟨hM2.drew,(Fr.refl _ _).drew⟩) ?_
 intro ops Q' hO hQ' wr1 hR1
 iterate 5 refine pP hO ?_
 refine pQ hO rfl rfl (fun w' hS=>by obtain⟨hB,hF⟩:=hS;have c16:=hB.g16;exact qd) ?_
 refine fJ hO rfl rfl rfl (fun K hK=> ?_)
 go_simp
 refine(rR L s2 0 (by decide) _ hR1.1).mono ?_
 rintro e w5 ⟨rfl,fw5⟩
 refine hK _ _ (⟨hR1.1.none fw5,hR1.2.none fw5⟩) (fun hR_6=> ?_)
 clear hK K
 iterate 4 refine pP hO ?_
 refine gC hO rfl rfl rfl (fun K hK=> ?_)
 have c31:=hR_6.1.g31
 have hfz:=hR_6.1.fr
 go_simp
 refine hK _ _ ?_
 clear hK K
 refine bV (hQ' _ _ ?_)
 have hM6:=hR_6.1.set1 31 (.int .i64 (wrap64 (s2.now+s2.wait 0))) {s2 with lagain:=wrap64 (s2.now+s2.wait 0)} rfl rfl rfl rfl rfl rfl {hR_6.1.ok with}
 have f6:=mD L w5 31 (.int .i64 (wrap64 (s2.now+s2.wait 0)))
 generalize w5.setCell ⟨L.p,31,none⟩ (.int .i64 (wrap64 (s2.now+s2.wait 0)))=w6 at*
 go_wp2_with fail
 refine(vQ L _ _ hM6).mono ?_
 rintro e w7 ⟨rfl,hM7,f7⟩
 go_wp2_with fail
 refine bodyPost_end (results_none rfl _ _ _) rfl ?_
 exact⟨rfl,by rw[←hs2]at hM7;exact hM7,f2.trans ((hR_6.2.of_no (bW L)).trans (f6.trans f7))⟩
theorem wS (L:Lay) (s:St) (w:World) (h:aC w L s):
 Calls Tryz.prog 108 #[.pointer (some ⟨L.p,0,none⟩)] w (bP L s.decline (.tuple #[]) w):=by
 go_enter Tryz.func108,Tryz.ntmps108
 go_upto_region 0 with fail
 refine wpr (fun w'=>aC w' L s∧Fr noB w w') [16] (.p 0 (.p 1 (.p 2 (.p 3 (.p 4 (.p 8 (.p 9 (.p 10 (.p 11 (.q 5 (.q 12 (.e 6 (.p 7 (.e 13 (.p 14 (.e 15 (.e 16 (.nil)))))))))))))))))) (⟨h.drew,(Fr.refl _ _).drew⟩) ?_
 intro ops Q' hO hQ' wr1 hR1
 iterate 9 refine pP hO ?_
 iterate 2 (refine pQ hO rfl rfl (fun w' hS=>by obtain⟨hB,hF⟩:=hS;have c23:=hB.g23;have c26:=hB.g26;exact qd) ?_)
 refine fJ hO rfl rfl rfl (fun K hK=> ?_)
 go_simp
 refine(nJ s.addr _ h.ok.addr).mono ?_
 rintro e w2 ⟨rfl,fw2⟩
 refine hK _ _ (⟨hR1.1.none fw2,hR1.2.none fw2⟩) (fun hR_6=> ?_)
 clear hK K
 refine pP hO ?_
 refine fJ hO rfl rfl rfl (fun K hK=> ?_)
 go_simp
 refine(nJ s.server _ h.ok.server).mono ?_
 rintro e w3 ⟨rfl,fw3⟩
 refine hK _ _ (⟨hR_6.1.none fw3,hR_6.2.none fw3⟩) (fun hR_13=> ?_)
 clear hK K
 refine pP hO ?_
 refine fJ hO rfl rfl rfl (fun K hK=> ?_)
 go_simp
 refine hK _ _ (⟨hR_13.1.none ((Fr.refl _ _).alloc _),hR_13.2.none ((Fr.refl _ _).alloc _)⟩) (fun hR_15=> ?_)
 clear hK K
 refine gC hO rfl rfl rfl (fun K hK=> ?_)
 go_simp
 refine(rX L s 4 false s.both (some ⟨w3.heap.size,0,none⟩) 2 2 _ hR_15.1 rfl (SlR.of_bk (Bk.new w3 157 #[.int .u8 50,.string (bs (big 4 s.addr)),.int .u8 54,.string (bs (big 4 s.server))]) (fun x=>x) rfl) (rU s)).mono ?_
 rintro e w4 ⟨rfl,hM4,f4⟩
 refine hK _ _ ?_
 clear hK K
 refine bV (hQ' _ _ ?_)
 have f5:=(hR_15.2.of_no (bW L)).trans f4
 go_wp2_with fail
 refine(oK L _ _ hM4).mono ?_
 intro e w6 hp
 obtain⟨rfl,hp⟩:=hp
 go_wp2_with fail
 refine bodyPost_end (results_none rfl _ _ _) rfl ?_
 exact bP.comp (L1:=L) rfl (fun b hb=> .inl hb) f5 ⟨rfl,hp⟩
end Go.Proofs.YtcllkmllflheiaaGreatDoor
namespace Go.Proofs.YtcllkmllflheiaaGreatDoor
open Go.RowKit Go.Proofs
attribute [local simp] eC ibq ibn eqN ltN leN eqL ltL gtL leL geL
theorem nD (L:Lay) (s:St) (w:World) (h:aC w L s) (hl:s.lease≤3) (h3:s.lease=3→s.now<s.lagain):
 Calls Tryz.prog 38 #[.pointer (some ⟨L.p,0,none⟩)] w (bP L s.leases (.tuple #[]) w):=by
 obtain⟨r,hr⟩:∃r,r=s.leases:=⟨_,rfl⟩
 rw[←hr]
 unfold St.leases at hr
 refine en Tryz.func38 Tryz.ntmps38 ?_
 by_cases a0:s.lease=0
 ·rw[if_pos a0]at hr
  clear h3 hl
  refine W ?_
  refine sB {s with xid:=s.draw} {h.ok with xid:=h.ok.draw} h ?_
  intro w1 h1 f1
  clear a0
  refine W ?_
  refine sC (uV L _ 1 w1 h1) ?_
  rintro w2 ⟨h2,f2⟩
  refine W ?_
  exact cH.two ⟨rfl,by rw[hr];exact h2,f1.trans f2⟩
 rw[if_neg a0]at hr
 by_cases a3:s.lease=3
 ·rw[if_neg (by omega),if_pos a3,if_pos (h3 a3)]at hr
  have h3:=h3 a3
  clear hl a0
  refine W ?_
  refine dI h [] (up 9 0) (h:= ?_)
  intro w1 h1 f1
  refine D ?_
  refine W ?_
  exact cH.two ⟨rfl,by rw[hr];exact h1,f1.of_no _⟩
 clear h3
 rw[if_pos (by omega)]at hr
 by_cases a5:s.now<s.lagain
 ·rw[if_pos a5]at hr
  obtain a1|a1:s.lease=1∨s.lease=2:=by omega
  all_goals
   clear hl a0 a3
   refine W ?_
   refine dI h [] (up 9 0) (h:= ?_)
   intro w1 h1 f1
   refine D ?_
   refine W ?_
   exact cH.two ⟨rfl,by rw[hr];exact h1,f1.of_no _⟩
 rw[if_neg a5]at hr
 by_cases a4:s.lsends=4
 ·rw[if_pos a4]at hr
  obtain a1|a1:s.lease=1∨s.lease=2:=by omega
  all_goals
   clear hl a0 a3
   refine W ?_
   refine dI h [] (up 9 0) (h:= ?_)
   intro w1 h1 f1
   refine D ?_
   refine W ?_
   refine sC (oK L s w1 h1) ?_
   intro w2 h2
   refine W ?_
   exact .comp (L1:=L) rfl (fun _=> .inl) (f1.of_no _) ⟨rfl,by rw[hr];exact h2⟩
 rw[if_neg a4]at hr
 have hls:=h.ok.lsends
 have Hi:=Lib.hid (show wrap64 ((s.lsends:Int)+1)=((s.lsends+1:Nat):Int) by rw[IntWalk.wrap64_in _ ⟨by omega,by omega⟩];omega)
 have Hls:=Lib.hid (And.intro hls a4)
 obtain a1|a1:s.lease=1∨s.lease=2:=by omega
 all_goals
  clear hl a0 a3 hls
  refine W ?_
  refine dI h [] (up 9 0) (h:= ?_)
  intro w1 h1 f1
  refine D ?_
  refine W ?_
  refine dI (An h1 f1) [14] (up 15 0) (h:= ?_)
  rintro w2 h2 _
  refine D ?_
  refine dC (rR L s s.lsends Hls.out.1 w2 h2.1) ?_ ?_
  ·intro w' fw
   exact⟨h2.1.none fw,h2.2.none fw⟩
  intro w3 _ h3
  refine D ?_
  rw[iQ]
  refine dB {s with lagain:=wrap64 (s.now+s.wait s.lsends)} {h3.1.ok with} h3.1 ?_
  intro w4 h4 f4
  replace f4:=(h3.2.of_no (bW L)).trans f4
  clear h h1 h2 h3 f1
  refine D ?_
  refine W ?_
  rw[iQ,Hi.out]
  refine sB {s with lagain:=wrap64 (s.now+s.wait s.lsends),lsends:=s.lsends+1} {h4.ok with lsends:=by have:=Hls.out;show s.lsends+1≤4;omega} h4 ?_
  intro w5 h5 f5
  clear a1 a5
  refine W ?_
  refine sC (vQ L _ w5 h5) ?_
  rintro w6 ⟨h6,f6⟩
  refine W ?_
  exact cH.two ⟨rfl,by rw[hr];exact h6,(f4.trans f5).trans f6⟩
end Go.Proofs.YtcllkmllflheiaaGreatDoor
namespace Go.Proofs.YtcllkmllflheiaaGreatDoor
open Go.RowKit Go.Proofs
def dg (v:S8) (i:Nat):List UInt8:=(JH v).take (4*i)++List.replicate (32-4*i) 0
end Go.Proofs.YtcllkmllflheiaaGreatDoor
