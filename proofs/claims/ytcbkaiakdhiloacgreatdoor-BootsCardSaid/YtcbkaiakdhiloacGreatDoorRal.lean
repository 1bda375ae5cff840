/- Parts of the walk; written by programs, merged. -/
import Derived.Test.YtcbkaiakdhiloacGreatDoorRak
import Derived.Lib.SlBytesRow
set_option linter.unusedSimpArgs false
set_option linter.unusedVariables false
set_option maxRecDepth 20000
set_option maxHeartbeats 8000000
namespace Go.Proofs.YtcbkaiakdhiloacGreatDoor
open Go.RowKit Go.Proofs
attribute [local go_sem] aG aD aC aE
theorem rB:∀(k:Nat) (c:UInt8) (d:List UInt8),d.length≤k→(kB c d).length≤3*d.length+2
 |0,c,d,h=>by
  rw[fK c d (by omega)];simp;omega
 |k+1,c,d,h=>by
  rcases Nat.lt_or_ge 255 d.length with h1|h1
  ·rw[nF c d h1]
   have:=rB k c (d.drop 255) (by rw[List.length_drop];omega)
   rw[List.length_drop]at this
   simp[List.length_take];omega
  ·rw[fK c d h1];simp;omega
def qA (os:List bK):List UInt8:=os.flatMap fun o=>kB o.code o.data
theorem zI:∀os:List bK,(qA os).length≤3*wtO os
 |[]=>Nat.le_refl _
 |o::r=>by
  have h1:=rB o.data.length o.code o.data (Nat.le_refl _)
  have h2:=zI r
  unfold qA at h2⊢
  rw[List.flatMap_cons,List.length_append]
  simp only[wtO];omega
theorem C0 {os:List bK} {i:Nat} {o:bK} (h:os[i]? =some o):qA (os.take (i+1))=qA (os.take i)++kB o.code o.data:=by
 have hi:i<os.length:=by
  rcases Nat.lt_or_ge i os.length with h1|h1
  ·exact h1
  ·rw[List.getElem?_eq_none h1]at h;cases h
 rw[List.getElem?_eq_getElem hi]at h
 cases h
 unfold qA
 rw[List.take_succ_eq_append_getElem hi,List.flatMap_append];simp
theorem Cq:∀(os:List bK) (i:Nat),wtO (os.take i)≤wtO os
 |[],i=>by simp
 |o::r,0=>Nat.zero_le _
 |o::r,i+1=>by have:=Cq r i;simp only[List.take_succ_cons,wtO];omega
theorem SlR.fresh {w:World} {S:Nat→Prop} {size n:Nat} {A:Option Addr} {xs:List Value} (h:SlR w S size A n xs):SlR w (fun k=>w.heap.size≤k) size A n xs:=
 ⟨h.1,fun hn=>by
  obtain⟨ad,e,hb,hS,hc⟩:=h.2 hn
  exact⟨ad,e,hb,fun x=>by omega,hc⟩⟩
def EF (os:List bK) (i:Nat):Prop:=∀j o,j<i→os[j]? =some o→lW o=false
theorem CH {os:List bK} (h:EF os os.length):os.any lW=false:=by
 rw[List.any_eq_false]
 intro o ho
 obtain⟨j,hj,e⟩:=List.getElem_of_mem ho
 have:=h j o hj (by rw[List.getElem?_eq_getElem hj,e])
 simp[this]
theorem yY (rp:Bool) (xid client yours next:Nat) (m0 m1 m2 m3 m4 m5:UInt8) (os:List bK) (Ao:Option Addr) (cap:Nat) (w:World)
 (hxid:xid<4294967296) (hcl:client<4294967296) (hyo:yours<4294967296) (hnx:next<4294967296) (hA:SlR w noB 2 Ao os.length (fY os)) (hwt:wtO os≤2097152):
 Calls Tryz.prog 161 #[.agg #[.bool rp,.int .u32 (xid:Int),.int .u32 (client:Int),.int .u32 (yours:Int),.int .u32 (next:Int),.int .u8 (m0.toNat:Int),.int .u8 (m1.toNat:Int),.int .u8 (m2.toNat:Int),.int .u8 (m3.toNat:Int),.int .u8 (m4.toNat:Int),.int .u8 (m5.toNat:Int),.slice Ao os.length cap]] w (fX (fP rp xid client yours next [m0,m1,m2,m3,m4,m5] os) w):=by
 have hpa:=(Bk.new w 62 #[.bool rp,.int .u32 (xid:Int),.int .u32 (client:Int),.int .u32 (yours:Int),.int .u32 (next:Int),.int .u8 (m0.toNat:Int),.int .u8 (m1.toNat:Int),.int .u8 (m2.toNat:Int),.int .u8 (m3.toNat:Int),.int .u8 (m4.toNat:Int),.int .u8 (m5.toNat:Int),.slice Ao os.length cap]).alloc (.cells #[.slice none 0 0] 226)
 have hbw:=Bk.new (w.alloc (.cells #[.bool rp,.int .u32 (xid:Int),.int .u32 (client:Int),.int .u32 (yours:Int),.int .u32 (next:Int),.int .u8 (m0.toNat:Int),.int .u8 (m1.toNat:Int),.int .u8 (m2.toNat:Int),.int .u8 (m3.toNat:Int),.int .u8 (m4.toNat:Int),.int .u8 (m5.toNat:Int),.slice Ao os.length cap] 62)) 226 #[.slice none 0 0]
 rw[show(w.alloc (.cells #[.bool rp,.int .u32 (xid:Int),.int .u32 (client:Int),.int .u32 (yours:Int),.int .u32 (next:Int),.int .u8 (m0.toNat:Int),.int .u8 (m1.toNat:Int),.int .u8 (m2.toNat:Int),.int .u8 (m3.toNat:Int),.int .u8 (m4.toNat:Int),.int .u8 (m5.toNat:Int),.slice Ao os.length cap] 62)).heap.size=w.heap.size+1 by simp]at hbw
 have hpa0:=(Bk.new w 62 #[.bool rp,.int .u32 (xid:Int),.int .u32 (client:Int),.int .u32 (yours:Int),.int .u32 (next:Int),.int .u8 (m0.toNat:Int),.int .u8 (m1.toNat:Int),.int .u8 (m2.toNat:Int),.int .u8 (m3.toNat:Int),.int .u8 (m4.toNat:Int),.int .u8 (m5.toNat:Int),.slice Ao os.length cap]).cells
 obtain⟨n,hn⟩:∃n,os.length=n:=⟨_,rfl⟩
 rw[hn]at hA hpa hbw hpa0⊢
 go_enter Tryz.func161,Tryz.ntmps161
 go_upto_if 12 with fail
 go_cut [4]from 11 (fun s4 wx=>s4= .int .u8 ((if rp then(2:UInt8)else 1).toNat:Int)∧wx=w.alloc (.cells #[.bool rp,.int .u32 (xid:Int),.int .u32 (client:Int),.int .u32 (yours:Int),.int .u32 (next:Int),.int .u8 (m0.toNat:Int),.int .u8 (m1.toNat:Int),.int .u8 (m2.toNat:Int),.int .u8 (m3.toNat:Int),.int .u8 (m4.toNat:Int),.int .u8 (m5.toNat:Int),.slice Ao n cap] 62))
 case first=>
  cases rp
  ·go_wp2_with fail
   go_meet
   case rel=>exact⟨rfl,rfl⟩
  ·go_wp2_with fail
   go_meet
   case rel=>exact⟨rfl,rfl⟩
 case rest=>
 obtain⟨rfl,rfl⟩:=hcut
 clear hpa0
 go_upto_region 5 with fail
 have hf0:Fr noB w ((w.alloc (.cells #[.bool rp,.int .u32 (xid:Int),.int .u32 (client:Int),.int .u32 (yours:Int),.int .u32 (next:Int),.int .u8 (m0.toNat:Int),.int .u8 (m1.toNat:Int),.int .u8 (m2.toNat:Int),.int .u8 (m3.toNat:Int),.int .u8 (m4.toNat:Int),.int .u8 (m5.toNat:Int),.slice Ao n cap] 62)).alloc (.cells #[.slice none 0 0] 226)):=((Fr.refl _ _).alloc _).alloc _
 have hsz:((w.alloc (.cells #[.bool rp,.int .u32 (xid:Int),.int .u32 (client:Int),.int .u32 (yours:Int),.int .u32 (next:Int),.int .u8 (m0.toNat:Int),.int .u8 (m1.toNat:Int),.int .u8 (m2.toNat:Int),.int .u8 (m3.toNat:Int),.int .u8 (m4.toNat:Int),.int .u8 (m5.toNat:Int),.slice Ao n cap] 62)).alloc (.cells #[.slice none 0 0] 226)).heap.size=w.heap.size+2:=by simp
 have hA1:=hA.keep hf0
 generalize(w.alloc (.cells #[.bool rp,.int .u32 (xid:Int),.int .u32 (client:Int),.int .u32 (yours:Int),.int .u32 (next:Int),.int .u8 (m0.toNat:Int),.int .u8 (m1.toNat:Int),.int .u8 (m2.toNat:Int),.int .u8 (m3.toNat:Int),.int .u8 (m4.toNat:Int),.int .u8 (m5.toNat:Int),.slice Ao n cap] 62)).alloc (.cells #[.slice none 0 0] 226)=w1 at*
 have hwr0:=Chn.start0 (Wr.zero hbw) rfl
 refine lH (c:=aH Tryz.f161 5) (by kernel_rfl) (Nf w.heap.size rp xid client yours next n cap Ao m0 m1 m2 m3 m4 m5 (if rp then 2 else 1) w1 (w.heap.size+1) w1.heap.size none [] _ _ _ ⟨rfl,rfl⟩ rfl rfl rfl hpa (by omega) hxid hcl hyo hnx hwr0 (by simp) ?_)
 intro a5 w5 A5 hs5 kp5 hch5
 obtain⟨l5,hl5⟩:∃l,([]++[(if rp then(2:UInt8)else 1),1,6,0]++big 4 (xid:Int).toNat++bQ 2 [0]:List UInt8)=l:=⟨_,rfl⟩
 rw[hl5]at hch5
 have hn5:l5.length=10:=by rw[←hl5];simp[aB,aU]
 have Hl5:=Lib.hid hl5
 clear hl5 hwr0 hbw
 have hp5:w1.heap.size=w.heap.size+2:=hsz
 have Hsz:=Lib.hid hsz
 clear hsz hp5
 have e1:sl a5 1= .pointer (some ⟨w.heap.size,0,none⟩):=kp5 1 (by decide)
 have e2:sl a5 2= .string ⟨#[]⟩:=kp5 2 (by decide)
 have e3:sl a5 3= .int .i64 0:=kp5 3 (by decide)
 have e5:sl a5 5= .pointer (some ⟨w.heap.size+1,0,none⟩):=kp5 5 (by decide)
 rw[BA hs5]
 simp only[dwF,e1,e2,e3,e5]
 clear kp5 hs5 e1 e2 e3 e5
 generalize sl a5=z
 have hc5:=(hpa.keep hch5.fr (by unfold aI;omega)).cells
 go_upto_if 26 with fail
 clear hc5
 go_cut []from 11 (fun wx=>∃A,Chn w1 (w.heap.size+1) w1.heap.size A (l5++(if client=0 then [128,0]else [0,0])) wx)
 case first=>
  rename_i J K' hJ hK'
  by_cases hc:client=0
  ·have hci:(client:Int)=0:=by omega
   rw[if_pos hc]at hJ
   clear hc
   go_upto_region 7 with fail
   refine lH (c:=aH Tryz.f161 7) (by kernel_rfl) (NG w1 (w.heap.size+1) w1.heap.size A5 l5 _ _ _ ⟨rfl,rfl⟩ rfl hch5 (by omega) ?_)
   intro a6 w6 A6 hs6 kp6 hch6
   refine hK' _ _ (Met.intro (hJ _ _ ?_))
   rw[BA hs6]
   simp only[dwF,kp6 0 (by decide),kp6 1 (by decide),kp6 2 (by decide),kp6 3 (by decide),kp6 4 (by decide),kp6 5 (by decide),kp6 6 (by decide),kp6 7 (by decide),kp6 8 (by decide),kp6 9 (by decide),kp6 10 (by decide)]
   repeat apply Exists.intro
   exact⟨⟨A6,hch6⟩,rfl⟩
  ·have hci:¬(client:Int)=0:=by omega
   rw[if_neg hc]at hJ
   clear hc
   go_upto_region 8 with fail
   refine lH (c:=aH Tryz.f161 8) (by kernel_rfl) (Nk w1 (w.heap.size+1) w1.heap.size A5 l5 _ _ _ ⟨rfl,rfl⟩ rfl hch5 (by omega) ?_)
   intro a6 w6 A6 hs6 kp6 hch6
   refine hK' _ _ (Met.intro (hJ _ _ ?_))
   rw[BA hs6]
   simp only[dwF,kp6 0 (by decide),kp6 1 (by decide),kp6 2 (by decide),kp6 3 (by decide),kp6 4 (by decide),kp6 5 (by decide),kp6 6 (by decide),kp6 7 (by decide),kp6 8 (by decide),kp6 9 (by decide),kp6 10 (by decide)]
   repeat apply Exists.intro
   exact⟨⟨A6,hch6⟩,rfl⟩
 case rest=>
 obtain⟨A6,hch6⟩:=hcut
 rename_i w6
 go_upto_region 9 with fail
 refine lH (c:=aH Tryz.f161 9) (by kernel_rfl) (Nr w.heap.size rp xid client yours next n cap Ao m0 m1 m2 m3 m4 m5 w1 (w.heap.size+1) w1.heap.size A6 _ _ _ _ ⟨rfl,rfl⟩ rfl rfl hpa (by omega) hxid hcl hyo hnx hch6 (by simp only[List.length_append,hn5];split<;>simp) ?_)
 intro a9 w9 A9 hs9 kp9 hch9
 have hhead:(l5++(if client=0 then [128,0]else [0,0])++bQ 4 [(client:Int),(yours:Int),(next:Int),0]++List.flatMap dO [(m0,m1,m2,m3,m4,m5)]++
  List.replicate (236-List.length (α:=UInt8) (l5++(if client=0 then [128,0]else [0,0])++bQ 4 [(client:Int),(yours:Int),(next:Int),0]++List.flatMap dO [(m0,m1,m2,m3,m4,m5)])) (0:UInt8)++List.flatten [[99,130,83,99]])=eD rp xid client yours next [m0,m1,m2,m3,m4,m5]:=by
  rw[←Hl5.out]
  unfold eD uK
  have e0:([]++[(if rp then(2:UInt8)else 1),1,6,0]++big 4 (xid:Int).toNat++bQ 2 [0]++(if client=0 then [128,0]else [0,0])++bQ 4 [(client:Int),(yours:Int),(next:Int),0]++List.flatMap dO [(m0,m1,m2,m3,m4,m5)]:List UInt8)=
   [if rp then 2 else 1,1,6,0]++big 4 xid++[0,0]++(if client=0 then [128,0]else [0,0])++big 4 client++big 4 yours++big 4 next++big 4 0++[m0,m1,m2,m3,m4,m5]:=by
   simp[bQ,dO,big]
  rw[e0]
  simp
 rw[hhead]at hch9
 obtain⟨l9,hl9⟩:∃l,eD rp xid client yours next [m0,m1,m2,m3,m4,m5]=l:=⟨_,rfl⟩
 have hn9:l9.length=240:=by rw[←hl9];exact lS _ _ _ _ _ _ rfl
 rw[hl9]at hch9
 have Hl9:=Lib.hid hl9
 clear hl9 hhead hch6 Hl5 hn5
 have e1:sl a9 1= .pointer (some ⟨w.heap.size,0,none⟩):=kp9 1 (by decide)
 have e2:sl a9 2= .string ⟨#[]⟩:=kp9 2 (by decide)
 have e3:sl a9 3= .int .i64 0:=kp9 3 (by decide)
 have e5:sl a9 5= .pointer (some ⟨w.heap.size+1,0,none⟩):=kp9 5 (by decide)
 rw[BA hs9]
 simp only[dwF,e1,e2,e3,e5]
 clear kp9 hs9 e1 e2 e3 e5
 generalize sl a9=z
 have hc9:=(hpa.keep hch9.fr (by unfold aI;omega)).cells
 go_wp2_with fail
 have hlw:=jO os
 have hAf:SlR w1 (fun k=>w.heap.size≤k) 2 Ao n (fY os):=hA.fresh.keep (hf0.of_no _)
 go_loopw [52] (fun iv wr=>∃(i:Nat) (A:Option Addr),i≤n∧iv= .int .i64 (i:Int)∧Chn w1 (w.heap.size+1) w1.heap.size A (l9++qA (os.take i)) wr∧EF os i) (fun iv _=>n-(intOf iv).toNat)
 case atStart=>exact⟨0,A9,by omega,rfl,by simpa[qA]using hch9,fun j o h=>absurd h (by omega)⟩
 case round=>
  obtain⟨i,A,hi,rfl,hch,hgood⟩:=hrel
  have hbl:(l9++qA (os.take i)).length≤20000000:=by
   have h1:=zI (os.take i)
   have h2:=Cq os i
   rw[List.length_append];omega
  by_cases hlt:i<n
  ·obtain⟨o,ho⟩:∃o,os[i]? =some o:=⟨_,List.getElem?_eq_getElem (by omega)⟩
   obtain⟨ad,rfl,c1,c2⟩:=(hAf.keep (hch.fr.mono (by rintro b _ rfl;omega))).optAt ho
   have hol:=Fu os i o ho
   have hxo:=AlS.beside hch 66 #[.int .u8 (o.code.toNat:Int),.string (bs o.data)]
   have hch2:=hch.alloc (.cells #[.int .u8 (o.code.toNat:Int),.string (bs o.data)] 66)
   have Ho:=Lib.hid ho
   have Hgood:=Lib.hid hgood
   have Hch2:=Lib.hid hch2
   have Hxo:=Lib.hid hxo
   clear ho hgood hch2 hxo hc9
   have hfb:Fr noB w (wr.alloc (.cells #[.int .u8 (o.code.toNat:Int),.string (bs o.data)] 66)):=(hf0.trans' hch.fr (by rintro b hb rfl;omega)).alloc _
   have hbadP:lW o=true→fP rp xid client yours next [m0,m1,m2,m3,m4,m5] os=([],2):=by
    intro hb;unfold fP;rw[if_pos (List.any_eq_true.2 ⟨o,List.mem_of_getElem? Ho.out,hb⟩)]
   have HbadP:=Lib.hid hbadP
   clear hbadP
   have hk:o.code=0∨o.code=255∨o.code=52∨(o.code≠0∧o.code≠255∧o.code≠52):=by
    by_cases h1:o.code=0
    ·exact .inl h1
    ·by_cases h2:o.code=255
     ·exact .inr (.inl h2)
     ·by_cases h3:o.code=52
      ·exact .inr (.inr (.inl h3))
      ·exact .inr (.inr (.inr ⟨h1,h2,h3⟩))
   rcases hk with hk|hk|hk|⟨k1,k2,k3⟩
   ·have hki:(o.code.toNat:Int)=0:=by rw[hk];decide
    have Hno:=Lib.hid (HbadP.out (by unfold lW;rw[hk];decide))
    rw[hki]at hfb
    clear hk HbadP Hxo Hch2
    go_wp2_with fail
    go_ret2
    exact⟨by rw[Hno.out];rfl,hfb⟩
   ·have hki:(o.code.toNat:Int)=255:=by rw[hk];decide
    have Hno:=Lib.hid (HbadP.out (by unfold lW;rw[hk];decide))
    rw[hki]at hfb
    clear hk HbadP Hxo Hch2
    go_wp2_with fail
    go_ret2
    exact⟨by rw[Hno.out];rfl,hfb⟩
   ·have hki:(o.code.toNat:Int)=52:=by rw[hk];decide
    have Hno:=Lib.hid (HbadP.out (by unfold lW;rw[hk];decide))
    rw[hki]at hfb
    clear hk HbadP Hxo Hch2
    go_wp2_with fail
    go_ret2
    exact⟨by rw[Hno.out];rfl,hfb⟩
   ·have k1i:((o.code.toNat:Int)==0)=false:=FM k1
    have k2i:((o.code.toNat:Int)==255)=false:=FM k2
    have k3i:((o.code.toNat:Int)==52)=false:=FM k3
    have Hg1:Hid (EF os (i+1)):=Lib.hid (by
     intro j o' hj h2
     rcases Nat.lt_or_ge j i with h3|h3
     ·exact Hgood.out j o' h3 h2
     ·obtain rfl:j=i:=by omega
      rw[Ho.out]at h2;cases h2
      unfold lW;simp[k1,k2,k3])
    clear k1 k2 k3 HbadP hfb
    go_wp2_with fail
    obtain⟨go,hgo⟩:∃go,wr.heap.size=go:=⟨_,rfl⟩
    rw[hgo]at Hxo
    rw[hgo]
    obtain⟨w4,hw4⟩:∃w4,wr.alloc (.cells #[.int .u8 (o.code.toNat:Int),.string (bs o.data)] 66)=w4:=⟨_,rfl⟩
    rw[hw4]at Hch2 Hxo
    rw[hw4]
    have hch4:=Hch2.out
    have hxo4:=Hxo.out
    clear hgo hw4 Hch2 Hxo c1 c2 hch
    obtain⟨lb,hlb⟩:∃lb,l9++qA (os.take i)=lb:=⟨_,rfl⟩
    rw[hlb]at hch4 hbl
    have Hlb:=Lib.hid hlb
    clear hlb
    have hcl:=rB o.data.length o.code o.data (Nat.le_refl _)
    go_loopw [8] (fun dv wx=>∃(d l:List UInt8) (A':Option Addr),dv= .string (bs d)∧Chn w1 (w.heap.size+1) w1.heap.size A' l wx∧AlS true (.slice (some ⟨go,0,none⟩) 0 0) 0 66 #[.int .u8 (o.code.toNat:Int),.string (bs o.data)] w1.heap.size A' wx∧
     l++kB o.code d=lb++kB o.code o.data∧d.length≤o.data.length) (fun dv _=>match dv with| .string s=>s.size|_=>0)
    case atStart=>exact⟨o.data,lb,A,rfl,hch4,hxo4,rfl,Nat.le_refl _⟩
    case round=>
     obtain⟨d,l,A',rfl,hchd,hxd,hld,hdl⟩:=hrel
     have hll:l.length≤30000000:=by
      have h1:=congrArg List.length hld
      rw[List.length_append,List.length_append]at h1
      omega
     rcases Nat.lt_or_ge 255 d.length with h255|h255
     ·have hmin:min (d.length:Int) 255=((255:Nat):Int):=by omega
      have hne:(d.drop 255==[])=false:=by rw[beq_eq_false_iff_ne];intro h;have:=congrArg List.length h;simp at this;omega
      go_upto_region 17 with fail
      refine lH (c:=aH Tryz.f161 17) (by kernel_rfl) (KM go 255 o.code o.data d w1 (w.heap.size+1) w1.heap.size A' l _ _ _ ⟨rfl,rfl⟩ rfl rfl rfl rfl (by omega) (by omega) (by omega) hxd hchd (by omega) ?_)
      intro a17 w17 A17 hs17 kp17 hch17 hx17
      rw[kp17.eq_put (n:=101) [74,75,76,77,78,79,80,81,82,83,84,85] ⟨rfl,rfl⟩ hs17 (by decide) (by decide)]
      simp only[List.foldl,Act.put,List.setIfInBounds_toArray,List.set_cons_succ,List.set_cons_zero]
      generalize sl a17=z17
      go_wp2_with fail
      refine⟨⟨d.drop 255,_,A17,rfl,hch17,hx17,?_,by rw[List.length_drop];omega⟩,by simp[aG];omega⟩
      rw[←hld,nF o.code d h255]
      simp
     ·have hmin:min (d.length:Int) 255=(d.length:Int):=by omega
      have hne:(d.drop d.length==[])=true:=by rw[List.drop_length];rfl
      go_upto_region 17 with fail
      refine lH (c:=aH Tryz.f161 17) (by kernel_rfl) (KM go d.length o.code o.data d w1 (w.heap.size+1) w1.heap.size A' l _ _ _ ⟨rfl,rfl⟩ rfl rfl rfl rfl (by omega) (by omega) (by omega) hxd hchd (by omega) ?_)
      intro a17 w17 A17 hs17 kp17 hch17 hx17
      rw[kp17.eq_put (n:=101) [74,75,76,77,78,79,80,81,82,83,84,85] ⟨rfl,rfl⟩ hs17 (by decide) (by decide)]
      simp only[List.foldl,Act.put,List.setIfInBounds_toArray,List.set_cons_succ,List.set_cons_zero]
      generalize sl a17=z17
      go_wp2_with fail
      refine⟨⟨i+1,A17,by omega,by rw[Int.natCast_add];rfl,?_,Hg1.out⟩,by simp only[intOf];omega⟩
      have e:l9++qA (os.take (i+1))=l++[o.code,UInt8.ofNat d.length]++List.flatten [List.take d.length d]:=by
       rw[C0 Ho.out,←List.append_assoc,Hlb.out,←hld,fK o.code d h255]
       simp
      rw[e]
      exact hch17
  ·obtain rfl:i=n:=by omega
   rw[List.take_of_length_le (by omega)]at hch hbl
   have hg:os.any lW=false:=CH (by rw[hn];exact hgood)
   have Hg:=Lib.hid hg
   clear hg hgood
   go_upto_region 21 with fail
   refine lH (c:=aH Tryz.f161 21) (by kernel_rfl) (Mm w1 (w.heap.size+1) w1.heap.size A _ _ _ _ ⟨rfl,rfl⟩ rfl hch (by omega) ?_)
   intro a21 w21 A21 hs21 kp21 ho10 hch21
   obtain⟨lf,hlf⟩:∃lf,iB (eD rp xid client yours next [m0,m1,m2,m3,m4,m5]) os=lf:=⟨_,rfl⟩
   have e10:sl a21 10= .string (bs lf):=by
    rw[ho10,←hlf,Hl9.out]
    unfold iB uK qA
    rfl
   have hsp:fP rp xid client yours next [m0,m1,m2,m3,m4,m5] os=if 1472<lf.length then([],7)else(lf,0):=by
    unfold fP
    rw[Hg.out,hlf]
    rfl
   have Hsp:=Lib.hid hsp
   have hfr:Fr noB w w21:=hf0.trans' hch21.fr (by rintro b hb rfl;omega)
   clear hlf ho10 hsp
   rw[kp21.eq_put (n:=101) [92,93,94,95,96,10] ⟨rfl,rfl⟩ hs21 (by decide) (by decide)]
   simp only[List.foldl,Act.put,List.setIfInBounds_toArray,List.set_cons_succ,List.set_cons_zero,e10]
   generalize sl a21=z21
   by_cases hlen:1472<lf.length
   ·have hli:(1472:Int)<(lf.length:Int):=by omega
    have Hr:Hid (fP rp xid client yours next [m0,m1,m2,m3,m4,m5] os=([],7)):=Lib.hid (by rw[Hsp.out,if_pos hlen])
    clear hlen
    go_wp2_with fail
    go_ret2
    exact⟨by rw[Hr.out];rfl,hfr⟩
   ·have hli:¬(1472:Int)<(lf.length:Int):=by omega
    have Hr:Hid (fP rp xid client yours next [m0,m1,m2,m3,m4,m5] os=(lf,0)):=Lib.hid (by rw[Hsp.out,if_neg hlen])
    clear hlen
    go_wp2_with fail
    go_ret2
    exact⟨by rw[Hr.out];rfl,hfr⟩
end Go.Proofs.YtcbkaiakdhiloacGreatDoor
namespace Go.Proofs.YtcbkaiakdhiloacGreatDoor
open Go.RowKit Go.Proofs
theorem GI {P:Program} (w:World) (src dst e:TypeId) (g:Nat) (c:UInt8) (hs:P.underlying src=some (.slice e)) (he:P.underlying e=some (.int .u8)) (hd:P.underlying dst=some .string) (hc:w.cell? ⟨g,0,none⟩=some (.int .u8 (c.toNat:Int))):
 (convert src dst (.slice (some ⟨g,0,none⟩) 1 1)).run P w= .ok (.string (bs [c])) w:=
 Lib.run_convert_whole w src e dst hs he hd g 0 (bs [c]) (fun i h=>by
  have h1:i<1:=h
  obtain rfl:i=0:=by omega
  exact hc) 1
end Go.Proofs.YtcbkaiakdhiloacGreatDoor
namespace Go.Proofs.YtcbkaiakdhiloacGreatDoor
open Go.RowKit Go.Proofs
def IE (s:St) (A:Option Addr) (n cap:Nat):Array Value:= #[.bool false,.int .u32 (s.xid:Int),.int .u32 (s.address:Int),.int .u32 0,.int .u32 0,.int .u8 (s.c.card.1.toNat:Int),.int .u8 (s.c.card.2.1.toNat:Int),.int .u8 (s.c.card.2.2.1.toNat:Int),.int .u8 (s.c.card.2.2.2.1.toNat:Int),.int .u8 (s.c.card.2.2.2.2.1.toNat:Int),.int .u8 (s.c.card.2.2.2.2.2.toNat:Int),.slice A n cap]
attribute [local simp] dM IE ibq ibn eqN ltN leN eqL ltL gtL leL geL
attribute [local go_sem] aG aD aC aE
theorem iW (rp:Bool) (a b c d:Nat) (m:List UInt8) (os:List bK):(fP rp a b c d m os).1.length≤1472:=by
 unfold fP
 split
 ·simp
 ·split
  ·simp
  ·simp only[];omega
theorem Cy:∀a b:List bK,fY (a++b)=fY a++fY b
 |[],b=>rfl
 |o::r,b=>by simp only[List.cons_append,fY,Cy r b]
theorem Ku {w:World} {base:Nat} {e t:TypeId} {size n cap p:Nat} {A:Option Addr} {xs:List Value} {cs:Array Value} (h:w.ownsRow base e size (.slice A n cap) n xs) (hp:Bk w p t cs) (ht:t≠e):∀a,A=some a→p≠a.block:=by
 rintro a rfl rfl
 obtain⟨_,⟨h2,_⟩|⟨g',cap',cur,hv,hb,hg,_⟩⟩:=h
 ·cases h2
 ·cases hv
  rw[Bk,hg]at hp
  cases hp
  exact ht rfl
theorem Fv:∀(a b:List bK),wtO (a++b)=wtO a+wtO b
 |[],b=>by simp[wtO]
 |o::r,b=>by simp only[List.cons_append,wtO,Fv r b];omega
theorem mS (L:Lay) (s:St) (kind:UInt8) (rn:Bool) (os:List bK) (A:Option Addr) (cap n:Nat) (w:World) (h:aA w L s) (hn:os.length=n) (hA:SlR w noB 2 A n (fY os)) (hwt:wtO os≤1000):
 Calls Tryz.prog 136 #[.pointer (some ⟨L.p,0,none⟩),.int .u8 (kind.toNat:Int),.bool rn,.slice A n cap] w (bH L (s.say kind rn os) (.tuple #[]) w):=by
 obtain⟨mb,hmb⟩:∃mb,(fP false s.xid s.address 0 0 [s.c.card.1,s.c.card.2.1,s.c.card.2.2.1,s.c.card.2.2.2.1,s.c.card.2.2.2.2.1,s.c.card.2.2.2.2.2] (St.msgO kind os)).1=mb:=⟨_,rfl⟩
 have hmbl:mb.length≤1472:=by rw[←hmb];exact iW _ _ _ _ _ _ _
 have hsay:s.say kind rn os=if rn then s.udp s.server 68 67 mb else s.took.send (255,255,255,255,255,255) 2048 (s.packet 4294967295 68 67 mb):=by rw[←hmb];cases rn<;>rfl
 have hadr:s.address<4294967296:=by unfold St.address;split;exact h.ok.addr;omega
 have hnw:n≤1000:=by have:=jO os;omega
 have Hn:=Lib.hid hn
 have Hmb:=Lib.hid hmb
 have Hsay:=Lib.hid hsay
 have Hk:=Lib.hid (And.intro hmbl (And.intro hadr (And.intro hnw hwt)))
 clear hmb hsay hn hmbl hadr hnw hwt
 obtain⟨w0,hw⟩:∃x,x=w:=⟨_,rfl⟩
 have f0:Fr noB w0 w:=hw▸Fr.refl _ _
 rw[show bH L (s.say kind rn os) (.tuple #[]) w=bH L (s.say kind rn os) (.tuple #[]) w0 by rw[hw]]
 have h0:aA w0 L s:=hw▸h
 clear hw
 refine en Tryz.func136 Tryz.ntmps136 ?_
 refine W ?_
 refine cY (fun g=>[(8,.pointer (some ⟨g,0,none⟩)),(0,.pointer (some ⟨L.p,0,none⟩)),(1,.int .u8 (kind.toNat:Int)),(2,.bool rn),(3,.slice A n cap)]) (fun g w'=>aA w' L s∧SlR w' noB 2 A n (fY os)∧w0.heap.size≤g∧Bk w' g 62 (IE s none 0 0)∧Fr noB w0 w') ?_ ?_
 ·refine dI (An h (An hA f0)) [14] [0,1,2,3,5,7,8,9,10,4,11,2000,6,12,13,14,3000,13,6,12,14] (h:= ?_)
  intro w1 h1 _
  refine D ?_
  have done:∀w2 w3,Fr noB w1 w2→Bk w3 w1.heap.size 62 (IE s none 0 0)→Fr (aI w1.heap.size) w2 w3→aA w3 L s∧SlR w3 noB 2 A n (fY os)∧w0.heap.size≤w1.heap.size∧Bk w3 w1.heap.size 62 (IE s none 0 0)∧Fr noB w0 w3:=fun w2 w3 f2 hB f3=>by
   have f4:=bP f2 (Nat.le_refl _) f3
   exact⟨h1.1.none f4,h1.2.1.keep f4,h1.2.2.size,hB,h1.2.2.none f4⟩
  refine dF (tB:=[13,6,12,14]) ?_ ?_
  ·refine dC (bI L s w1 h1.1) ?_ ?_
   ·rintro _ rfl
    exact h1
   rintro _ rfl _
   refine D ?_
   refine dA2 (by infer_instance) h1 ?_
   intro w2 h2 hB f2
   refine D ?_
   refine dZ ?_
   intro w3 hB f3
   refine D ?_
   exact⟨_,mt (done _ _ f2 hB f3)⟩
  ·refine dA2 (by infer_instance) h1 ?_
   intro w2 h2 hB f2
   refine D ?_
   refine dC (bI L s w2 h2.1) ?_ ?_
   ·rintro _ rfl
    exact h2
   rintro _ rfl _
   refine D ?_
   refine dZ ?_
   intro w3 hB f3
   refine D ?_
   exact⟨_,mt (done _ _ f2 hB f3)⟩
 rintro g u w1 ⟨h1,hA1,hg,hB,f1⟩
 clear h hA f0 h1
 have hs1:=f1.size
 refine W ?_
 refine sA ?_
 intro w2 hK2 f2
 have hcv:=GI (P:=Tryz.prog) w2 102 9 5 w1.heap.size kind Tryz.underlying102 Tryz.underlying5 Tryz.underlying9 (hK2.cells 0)
 refine W ?_
 have hs2:=f2.size
 have hO1:=World.ownsRow_lit (base:=w0.heap.size) (e:=66) (size:=2) w2 #[.int .u8 53,.string (bs [kind])] 1 (by omega) (by decide) rfl
 have f3:Fr noB w1 (w2.alloc (.cells #[.int .u8 53,.string (bs [kind])] 66)):=f2.alloc _
 refine sW (h:= ?_)
 have hgl:=hB.lt
 generalize w2.alloc (.cells #[.int .u8 53,.string (bs [kind])] 66)=w3 at*
 clear hcv hK2
 have hs3:=f3.size
 have Hs:=Lib.hid (And.intro hs1 (And.intro hs2 (And.intro hs3 (And.intro hg hgl))))
 clear hs1 hs2 hs3 hg hgl
 refine W ?_
 refine sP (base:=w0.heap.size) (hi:=pU) hO1 (hA1.keep f3) pL Tryz.underlying60 (by have:=Hk.out;unfold maxLen;omega) (by have:=Hk.out;omega) (by have:=Hs.out;omega) ?_
 intro A3 cap3 w4 ha
 have f4:Fr noB w1 w4:=f3.trans' ha.fr (by rintro b hb ⟨a,e,e2⟩;cases e;have:=Hs.out;simp only at e2;omega)
 have hB4:=hB.keep f4 id
 have hBf:=hB4.frees
 have hBc:=hB4.cells
 have hO4:=qU ha.own (p:=⟨g,11,none⟩) hB4 (by decide) (.slice A3 (1+n) cap3)
 have hB5:Bk (w4.setCell ⟨g,11,none⟩ (.slice A3 (1+n) cap3)) g 62 (IE s A3 (1+n) cap3):=hB4.set 11 (.slice A3 (1+n) cap3)
 have f5:=(f1.none f4).setCell (p:=⟨g,11,none⟩) (fun x=>absurd x (by have:=Hs.out;show ¬g<w0.heap.size;omega)) (.slice A3 (1+n) cap3)
 clear hO1 hA1 ha hB f2 f3 f4 hB4
 refine W ?_
 refine sS (h:= ?_)
 clear hBf hBc
 generalize w4.setCell ⟨g,11,none⟩ (.slice A3 (1+n) cap3)=w5 at*
 replace Hs:=Lib.hid (And.intro Hs.out.2.2.2.1 f5.size)
 refine W ?_
 refine cY (fun(q:Option Addr×Nat)=>[(8,.pointer (some ⟨g,0,none⟩)),(0,.pointer (some ⟨L.p,0,none⟩)),(2,.bool rn)]) (fun q w'=>Bk w' g 62 (IE s q.1 (St.msgO kind os).length q.2)∧SlR w' noB 2 q.1 (St.msgO kind os).length (fY (St.msgO kind os))∧Fr noB w0 w') ?_ ?_
 ·by_cases a1:kind.toNat=4
  ·have hm:St.msgO kind os=[⟨53,[kind]⟩]++os:=by unfold St.msgO;rw[if_pos (UInt8.toNat_inj.1 a1),List.append_nil]
   have hN:1+n=(St.msgO kind os).length:=by rw[hm,List.length_append,Hn.out];rfl
   have hO5:=mJ hO4
   rw[show #[.int .u8 53,.string (bs [kind])].toList++fY os=fY (St.msgO kind os) by rw[hm];rfl,hN]at hO5
   rw[hN]at hB5
   clear hm hN hO4
   refine W ?_
   exact⟨(A3,cap3),mt ⟨hB5,hO5,f5⟩⟩
  ·have hm:St.msgO kind os=([⟨53,[kind]⟩]++os)++[⟨55,[1,3,51,54,58,59]⟩]:=by unfold St.msgO;rw[if_neg (fun e=>a1 (UInt8.toNat_inj.2 e))]
   have hN:(1+n)+1=(St.msgO kind os).length:=by rw[hm,List.length_append,List.length_append,Hn.out];rfl
   have Hm:=Lib.hid (And.intro hm hN)
   have hblk:=I9 hO4
   have hgne:=Ku hO4 hB5 (by decide)
   clear hm hN
   refine W ?_
   have hO5:=hO4.alloc (.cells #[.int .u8 55,.string ⟨#[1,3,51,54,58,59]⟩] 66)
   have hsr:SlR (w5.alloc (.cells #[.int .u8 55,.string ⟨#[1,3,51,54,58,59]⟩] 66)) noB 2 (some ⟨w5.heap.size,0,none⟩) 1 (fY [⟨55,[1,3,51,54,58,59]⟩]):=SlR.of_bk (Bk.new w5 66 #[.int .u8 55,.string ⟨#[1,3,51,54,58,59]⟩]) (fun x=>x) rfl
   have f6:=f5.alloc (.cells #[.int .u8 55,.string ⟨#[1,3,51,54,58,59]⟩] 66)
   have hB6:=hB5.alloc (.cells #[.int .u8 55,.string ⟨#[1,3,51,54,58,59]⟩] 66)
   refine sW (h:= ?_)
   generalize hz:w5.heap.size=z at hsr⊢
   generalize w5.alloc (.cells #[.int .u8 55,.string ⟨#[1,3,51,54,58,59]⟩] 66)=w6 at*
   clear hO4 hB5 f5 hz
   refine W ?_
   refine sP (base:=w0.heap.size) (hi:=pU) hO5 hsr pL Tryz.underlying60 (by have:=Hk.out;unfold maxLen;omega) (by have:=Hk.out;omega) f6.size ?_
   intro A4 cap4 w7 ha
   have f7:Fr noB w0 w7:=f6.trans' ha.fr (by rintro b hb ⟨a,e,e2⟩;have:=hblk a e;omega)
   have hB7:=hB6.keep ha.fr (by rintro⟨a,e,e2⟩;exact hgne a e e2.symm)
   have hBf:=hB7.frees
   have hBc:=hB7.cells
   have hO8:=mJ (qU ha.own (p:=⟨g,11,none⟩) hB7 (by decide) (.slice A4 (1+n+1) cap4))
   have hB8:Bk (w7.setCell ⟨g,11,none⟩ (.slice A4 (1+n+1) cap4)) g 62 (IE s A4 (1+n+1) cap4):=hB7.set 11 (.slice A4 (1+n+1) cap4)
   have f8:=f7.setCell (p:=⟨g,11,none⟩) (fun x=>absurd x (by have:=Hs.out;show ¬g<w0.heap.size;omega)) (.slice A4 (1+n+1) cap4)
   clear hO5 hsr ha hB6 f6 f7 hB7 hblk hgne
   refine W ?_
   refine sS (h:= ?_)
   clear hBf hBc
   generalize w7.setCell ⟨g,11,none⟩ (.slice A4 (1+n+1) cap4)=w8 at*
   rw[show(#[.int .u8 53,.string (bs [kind])].toList++fY os)++fY [⟨55,[1,3,51,54,58,59]⟩]=fY (St.msgO kind os) by rw[Hm.out.1,Cy];rfl,Hm.out.2]at hO8
   rw[Hm.out.2]at hB8
   refine W ?_
   exact⟨(A4,cap4),mt ⟨hB8,hO8,f8⟩⟩
 rintro⟨A4,cap4⟩ u w6 ⟨hB,hO,f6⟩
 dsimp only at hB hO⊢
 clear hO4 hB5 f5 f1
 have hwt:wtO (St.msgO kind os)≤2097152:=by
  have:=Hk.out
  unfold St.msgO
  split<;>simp only[Fv,wtO,List.length_cons,List.length_nil]<;>omega
 refine W ?_
 refine sC (yY false s.xid s.address 0 0 s.c.card.1 s.c.card.2.1 s.c.card.2.2.1 s.c.card.2.2.2.1 s.c.card.2.2.2.2.1 s.c.card.2.2.2.2.2 (St.msgO kind os) A4 cap4 w6 h0.ok.xid Hk.out.2.1 (by decide) (by decide) hO hwt) ?_
 intro w7 f7
 rw[Hmb.out]
 replace f7:=f6.none f7
 have h7:=h0.none f7
 clear hB hO f6 hwt h0
 cases rn
 rotate_left
 ·refine W ?_
  refine sC (xD L s s.server 68 67 mb w7 h7 h7.ok.server (by decide) (by decide) (by have:=Hk.out.1;omega)) ?_
  rintro w8 ⟨h8,f8⟩
  refine W ?_
  rw[Hsay.out,if_pos rfl]
  exact⟨rfl,h8,(f7.of_no _).trans f8⟩
 have hpl:=kX s 4294967295 68 67 mb
 replace Hsay:=Lib.hid (Hsay.out.trans (if_neg (by decide)))
 obtain⟨pk,hpk⟩:∃pk,s.packet 4294967295 68 67 mb=pk:=⟨_,rfl⟩
 have hP:=fun(w:World) (h:aA w L s)=>rC L s 4294967295 68 67 mb w h (by decide) (by decide) (by decide) (by have:=Hk.out.1;omega)
 rw[hpk]at hpl hP Hsay
 have hpl2:pk.length≤9223372036854775807:=by have:=Hk.out.1;omega
 have Hpl:=Lib.hid hpl2
 have HP:=Lib.hid hP
 clear hpk hpl hP hpl2
 refine W ?_
 refine dI (An h7 f7) [4,5] [0,2,3,2000,4001,4,5,3000,4,4001,5] (h:= ?_)
 intro w8 h8 _
 clear h7 f7
 refine D ?_
 refine dF (tB:=[4,4001,5]) ?_ ?_
 ·have HB:=h8.1
  have o0:=HB.gb.all.2 0 _ rfl;have o1:=HB.gb.all.2 1 _ rfl;have o2:=HB.gb.all.2 2 _ rfl;have o3:=HB.gb.all.2 3 _ rfl;have o4:=HB.gb.all.2 4 _ rfl;have o5:=HB.gb.all.2 5 _ rfl
  refine dU (fun _=>h8) (h:= ?_)
  refine D ?_
  refine dD (HP.out w8 h8.1) ?_
  rintro w9 ⟨h9,f9⟩
  refine D ?_
  refine dD (kQ L s.took 255 255 255 255 255 255 2048 pk w9 h9 (by decide) Hpl.out) ?_
  rintro w10 ⟨h10,f10⟩
  refine D ?_
  refine W ?_
  rw[Hsay.out]
  exact⟨rfl,h10,(h8.2.of_no _).trans (f9.trans f10)⟩
 ·refine dD (HP.out w8 h8.1) ?_
  rintro w9 ⟨h9,f9⟩
  have HB:=h9
  have o0:=HB.gb.all.2 0 _ rfl;have o1:=HB.gb.all.2 1 _ rfl;have o2:=HB.gb.all.2 2 _ rfl;have o3:=HB.gb.all.2 3 _ rfl;have o4:=HB.gb.all.2 4 _ rfl;have o5:=HB.gb.all.2 5 _ rfl
  refine D ?_
  refine dU (fun e=>by cases e) (h:= ?_)
  refine D ?_
  refine dD (kQ L s.took 255 255 255 255 255 255 2048 pk w9 h9 (by decide) Hpl.out) ?_
  rintro w10 ⟨h10,f10⟩
  refine D ?_
  refine W ?_
  rw[Hsay.out]
  exact⟨rfl,h10,(h8.2.of_no _).trans (f9.trans f10)⟩
end Go.Proofs.YtcbkaiakdhiloacGreatDoor
namespace Go.Proofs.YtcbkaiakdhiloacGreatDoor
open Go.RowKit Go.Proofs
attribute [local go_sem] aG aD aC aE
theorem rQ (L:Lay) (s:St) (ld:List UInt8) (w:World) (h:aA w L s) (hld:ld.length≤4611686018427387000):
 Calls Tryz.prog 47 #[.pointer (some ⟨L.p,0,none⟩),.string (bs ld)] w (bH L (s.udp s.source s.port s.goal ld) (.tuple #[]) w):=by
 go_enter Tryz.func47,Tryz.ntmps47
 go_upto_region 0 with fail
 refine wpr (fun w'=>aA w' L s∧Fr noB w w') [17] (.p 0 (.p 1 (.p 2 (.p 3 (.p 4 (.p 6 (.p 7 (.p 8 (.p 9 (.p 11 (.p 12 (.p 13 (.p 14 (.p 16 (.q 5 (.q 10 (.q 15 (.e 17 (.nil))))))))))))))))))) (⟨h.drew,(Fr.refl _ _).drew⟩) ?_
 intro ops Q' hO hQ' wr1 hR1
 iterate 14 refine pP hO ?_
 iterate 3 (refine pQ hO rfl rfl (fun w' hS=>by obtain⟨hB,hF⟩:=hS;have c27:=hB.g27;have c34:=hB.g34;have c36:=hB.g36;exact qd) ?_)
 refine iL hO rfl rfl rfl (fun K hK=> ?_)
 go_simp
 refine(xD L s s.source s.port s.goal ld _ hR1.1 h.ok.source h.ok.port h.ok.goal hld).mono ?_
 rintro e w3 ⟨rfl,hB3,hf3⟩
 refine hK _ _ ?_
 clear hK K
 refine bL (hQ' _ _ ?_)
 go_wp2_with fail
 exact bodyPost_end (results_none rfl _ _ _) rfl ⟨rfl,hB3,(hR1.2.of_no (bM L)).trans hf3⟩
theorem Gw (cb co b:Nat) (l:List bD) (w:World) (hc:w.cell? ⟨cb,co,none⟩=some (.map (some b))) (hm:fD w b l) (hl4:l.length≤4):
 Calls Tryz.prog 37 #[.pointer (some ⟨cb,co,none⟩)] w fun e w'=>e= .returned (.int .i64 (l.length:Int))∧Fr noB w w':=by
 obtain⟨D,hown,hrep⟩:=hm
 go_enter Tryz.func37,Tryz.ntmps37
 go_wp2_with fail
 rw[hown.len Tryz.underlying97 3,hrep.size]
 go_wp2_with fail
 go_ret
 exact⟨rfl,Fr.refl _ _⟩
end Go.Proofs.YtcbkaiakdhiloacGreatDoor
namespace Go.Proofs.YtcbkaiakdhiloacGreatDoor
open Go.RowKit Go.Proofs
attribute [local go_sem] aG aD aC aE
def tcF (u:Nat→Value):Act:=⟨#[u 0,u 1,u 2,u 3,u 4,u 5,u 6,u 7,u 8,u 9,u 10,u 11,u 12,u 13,u 14,u 15,u 16,u 17,u 18,u 19,u 20,u 21,u 22,u 23,u 24,u 25,u 26,u 27,u 28,u 29,u 30,u 31,u 32,u 33,u 34,u 35,u 36,u 37,u 38,u 39,u 40,u 41,u 42,u 43,u 44,u 45,u 46,u 47,u 48,u 49,u 50,u 51,u 52,u 53,u 54,u 55,u 56,u 57,u 58,u 59,u 60,u 61,u 62,u 63,u 64,u 65,u 66,u 67,u 68,u 69,u 70,u 71,u 72,u 73,u 74,u 75,u 76,u 77,u 78,u 79,u 80,u 81,u 82,u 83,u 84,u 85,u 86,u 87,u 88,u 89,u 90,u 91,u 92,u 93,u 94,u 95,u 96,u 97,u 98,u 99,u 100,u 101,u 102,u 103,u 104,u 105,u 106,u 107,u 108,u 109,u 110,u 111,u 112,u 113,u 114],[]⟩
set_option maxRecDepth 100000 in
theorem J9 (u:Nat→Value):tcF u=frN 115 u:=rfl
theorem Ee {a:Act} (h:Sz 115 a):a=tcF (sl a):=h.eq.trans (J9 _).symm
theorem M5 (pa op bk n cap:Nat) (Ao:Option Addr) (tx dt:List UInt8) (w1:World) (p B:Nat) (A0:Option Addr) (l0:List UInt8) (a:Act) (w:World) (K:KT) (hs:Sz 115 a)
 (h1:sl a 1= .pointer (some ⟨pa,0,none⟩)) (h4:sl a 4= .pointer (some ⟨p,0,none⟩)) (hpa:Bk w1 pa 123 #[.int .u16 (op:Int),.int .u16 (bk:Int),.string (bs tx),.string (bs dt),.slice Ao n cap]) (hpn:pa≠p) (hop:op<65536) (hbk:bk<65536) (htx:tx.length≤1099511) (hdt:dt.length≤1099511)
  (hch0:Chn w1 p B A0 l0 w) (N00:l0.length≤50000000)
 (hK:∀a' w' A',Sz 115 a'→Kp (kx 115 [10,11,12,13,14]) a a'→Chn w1 p B A' (l0++bQ 2 [(op:Int)]) w'→K .normal a' w'):
 (aH Tryz.f170 2).wp Tryz.prog K a w:=by
 have hN:=xX (fs:=[(· ++bQ 2 [(op:Int)])]) N00 2000000 (by intro f hf l;simp at hf;rcases hf with rfl<;>simp[aU,dO,aB]<;>omega) (by simp)
 conv=>arg 2;whnf
 refine gG (lst:=jT l0 _) (ats:=[4]) (kn:=[(1,pt pa),(4,pt p)]) (ex:=[]) (sp:=[(10,.v (pt p)),(11,.v (pt pa)),(12,.v (.int .u16 (op:Int))),(13,.m 1 47 #[.int .u16 (op:Int)]),(14,.w 0)]) hs hch0 .nil (by simp[h1,h4])
  (okv []<|okv []<|okl [1] (fun w A l c x=>((hpa).keep c.fr (by unfold aI;have:=c.lt;omega)).cells)<|okm [2]<|oka 3 [0] rfl (fun w A g c s=>s.U16 c (hN 0) [(op:Int)])<|okn)
  (fun a' w' A' h1 h2 h3 h4 h5=>hK _ _ _ h1 (Kp.kx h2) h4) (by kernel_rfl) (by kernel_rfl) (by kernel_rfl) (by kernel_rfl)
theorem Mh (pa op bk n cap:Nat) (Ao:Option Addr) (tx dt:List UInt8) (w1:World) (p B:Nat) (A0:Option Addr) (l0:List UInt8) (a:Act) (w:World) (K:KT) (hs:Sz 115 a)
 (h1:sl a 1= .pointer (some ⟨pa,0,none⟩)) (h4:sl a 4= .pointer (some ⟨p,0,none⟩)) (hpa:Bk w1 pa 123 #[.int .u16 (op:Int),.int .u16 (bk:Int),.string (bs tx),.string (bs dt),.slice Ao n cap]) (hpn:pa≠p) (hop:op<65536) (hbk:bk<65536) (htx:tx.length≤1099511) (hdt:dt.length≤1099511)
  (hch0:Chn w1 p B A0 l0 w) (N00:l0.length≤50000000)
 (hK:∀a' w' A',Sz 115 a'→Kp (kx 115 [31,32,33,34,35]) a a'→Chn w1 p B A' (l0++List.flatten [tx,[0,111,99,116,101,116,0]]) w'→K .normal a' w'):
 (aH Tryz.f170 11).wp Tryz.prog K a w:=by
 have hN:=xX (fs:=[(· ++List.flatten [tx,[0,111,99,116,101,116,0]])]) N00 2000000 (by intro f hf l;simp at hf;rcases hf with rfl<;>simp[aU,dO,aB]<;>omega) (by simp)
 conv=>arg 2;whnf
 refine gG (lst:=jT l0 _) (ats:=[4]) (kn:=[(1,pt pa),(4,pt p)]) (ex:=[]) (sp:=[(31,.v (pt p)),(32,.v (.pointer (some ⟨pa,2,none⟩))),(33,.v (.string (bs tx))),(34,.m 2 9 #[.string (bs tx),.string (bs [0,111,99,116,101,116,0])]),(35,.w 0)]) hs hch0 .nil (by simp[h1,h4])
  (okv []<|okv []<|okl [1] (fun w A l c x=>((hpa).keep c.fr (by unfold aI;have:=c.lt;omega)).cells)<|okm [2]<|oka 3 [0] rfl (fun w A g c s=>s.STR c (hN 0) [tx,[0,111,99,116,101,116,0]])<|okn)
  (fun a' w' A' h1 h2 h3 h4 h5=>hK _ _ _ h1 (Kp.kx h2) h4) (by kernel_rfl) (by kernel_rfl) (by kernel_rfl) (by kernel_rfl)
theorem Mz (pa op bk n cap:Nat) (Ao:Option Addr) (tx dt:List UInt8) (w1:World) (p B:Nat) (A0:Option Addr) (l0:List UInt8) (a:Act) (w:World) (K:KT) (hs:Sz 115 a)
 (h1:sl a 1= .pointer (some ⟨pa,0,none⟩)) (h4:sl a 4= .pointer (some ⟨p,0,none⟩)) (hpa:Bk w1 pa 123 #[.int .u16 (op:Int),.int .u16 (bk:Int),.string (bs tx),.string (bs dt),.slice Ao n cap]) (hpn:pa≠p) (hop:op<65536) (hbk:bk<65536) (htx:tx.length≤1099511) (hdt:dt.length≤1099511)
  (hch0:Chn w1 p B A0 l0 w) (N00:l0.length≤50000000)
 (hK:∀a' w' A',Sz 115 a'→Kp (kx 115 [92,93,94,95,96]) a a'→Chn w1 p B A' (l0++bQ 2 [(bk:Int)]) w'→K .normal a' w'):
 (aH Tryz.f170 22).wp Tryz.prog K a w:=by
 have hN:=xX (fs:=[(· ++bQ 2 [(bk:Int)])]) N00 2000000 (by intro f hf l;simp at hf;rcases hf with rfl<;>simp[aU,dO,aB]<;>omega) (by simp)
 conv=>arg 2;whnf
 refine gG (lst:=jT l0 _) (ats:=[4]) (kn:=[(1,pt pa),(4,pt p)]) (ex:=[]) (sp:=[(92,.v (pt p)),(93,.v (.pointer (some ⟨pa,1,none⟩))),(94,.v (.int .u16 (bk:Int))),(95,.m 1 47 #[.int .u16 (bk:Int)]),(96,.w 0)]) hs hch0 .nil (by simp[h1,h4])
  (okv []<|okv []<|okl [1] (fun w A l c x=>((hpa).keep c.fr (by unfold aI;have:=c.lt;omega)).cells)<|okm [2]<|oka 3 [0] rfl (fun w A g c s=>s.U16 c (hN 0) [(bk:Int)])<|okn)
  (fun a' w' A' h1 h2 h3 h4 h5=>hK _ _ _ h1 (Kp.kx h2) h4) (by kernel_rfl) (by kernel_rfl) (by kernel_rfl) (by kernel_rfl)
theorem MP (pa op bk n cap:Nat) (Ao:Option Addr) (tx dt:List UInt8) (w1:World) (p B:Nat) (A0:Option Addr) (l0:List UInt8) (a:Act) (w:World) (K:KT) (hs:Sz 115 a)
 (h1:sl a 1= .pointer (some ⟨pa,0,none⟩)) (h4:sl a 4= .pointer (some ⟨p,0,none⟩)) (hpa:Bk w1 pa 123 #[.int .u16 (op:Int),.int .u16 (bk:Int),.string (bs tx),.string (bs dt),.slice Ao n cap]) (hpn:pa≠p) (hop:op<65536) (hbk:bk<65536) (htx:tx.length≤1099511) (hdt:dt.length≤1099511)
  (hch0:Chn w1 p B A0 l0 w) (N00:l0.length≤50000000)
 (hK:∀a' w' A',Sz 115 a'→Kp (kx 115 [79,80,81,82,83,84,85,86,87]) a a'→Chn w1 p B A' ((l0++bQ 2 [(bk:Int)])++List.flatten [dt]) w'→K .normal a' w'):
 (aH Tryz.f170 19).wp Tryz.prog K a w:=by
 have hN:=xX (fs:=[(· ++bQ 2 [(bk:Int)]),(· ++List.flatten [dt])]) N00 2000000 (by intro f hf l;simp at hf;rcases hf with rfl|rfl<;>simp[aU,dO,aB]<;>omega) (by simp)
 conv=>arg 2;whnf
 refine gG (lst:=jT l0 _) (ats:=[4,8]) (kn:=[(1,pt pa),(4,pt p)]) (ex:=[]) (sp:=[(79,.v (pt p)),(80,.v (.pointer (some ⟨pa,1,none⟩))),(81,.v (.int .u16 (bk:Int))),(82,.m 1 47 #[.int .u16 (bk:Int)]),(83,.w 0),(84,.v (.pointer (some ⟨pa,3,none⟩))),(85,.v (.string (bs dt))),(86,.m 1 9 #[.string (bs dt)]),(87,.w 1)]) hs hch0 .nil (by simp[h1,h4])
  (okv []<|okv []<|okl [1] (fun w A l c x=>((hpa).keep c.fr (by unfold aI;have:=c.lt;omega)).cells)<|okm [2]<|oka 3 [0] rfl (fun w A g c s=>s.U16 c (hN 0) [(bk:Int)])<|okv []<|okl [5] (fun w A l c x=>((hpa).keep c.fr (by unfold aI;have:=c.lt;omega)).cells)<|okm [6]<|oka 7 [4] rfl (fun w A g c s=>s.STR c (hN 1) [dt])<|okn)
  (fun a' w' A' h1 h2 h3 h4 h5=>hK _ _ _ h1 (Kp.kx h2) h4) (by kernel_rfl) (by kernel_rfl) (by kernel_rfl) (by kernel_rfl)
theorem Mp (pa op bk n cap:Nat) (Ao:Option Addr) (tx dt:List UInt8) (w1:World) (p B:Nat) (A0:Option Addr) (l0:List UInt8) (a:Act) (w:World) (K:KT) (hs:Sz 115 a)
 (h1:sl a 1= .pointer (some ⟨pa,0,none⟩)) (h4:sl a 4= .pointer (some ⟨p,0,none⟩)) (hpa:Bk w1 pa 123 #[.int .u16 (op:Int),.int .u16 (bk:Int),.string (bs tx),.string (bs dt),.slice Ao n cap]) (hpn:pa≠p) (hop:op<65536) (hbk:bk<65536) (htx:tx.length≤1099511) (hdt:dt.length≤1099511)
  (hch0:Chn w1 p B A0 l0 w) (N00:l0.length≤50000000)
 (hK:∀a' w' A',Sz 115 a'→Kp (kx 115 [100,101,102,103,104,105,106,107,108]) a a'→Chn w1 p B A' ((l0++bQ 2 [(bk:Int)])++List.flatten [tx,[0]]) w'→K .normal a' w'):
 (aH Tryz.f170 25).wp Tryz.prog K a w:=by
 have hN:=xX (fs:=[(· ++bQ 2 [(bk:Int)]),(· ++List.flatten [tx,[0]])]) N00 2000000 (by intro f hf l;simp at hf;rcases hf with rfl|rfl<;>simp[aU,dO,aB]<;>omega) (by simp)
 conv=>arg 2;whnf
 refine gG (lst:=jT l0 _) (ats:=[4,8]) (kn:=[(1,pt pa),(4,pt p)]) (ex:=[]) (sp:=[(100,.v (pt p)),(101,.v (.pointer (some ⟨pa,1,none⟩))),(102,.v (.int .u16 (bk:Int))),(103,.m 1 47 #[.int .u16 (bk:Int)]),(104,.w 0),(105,.v (.pointer (some ⟨pa,2,none⟩))),(106,.v (.string (bs tx))),(107,.m 2 9 #[.string (bs tx),.string (bs [0])]),(108,.w 1)]) hs hch0 .nil (by simp[h1,h4])
  (okv []<|okv []<|okl [1] (fun w A l c x=>((hpa).keep c.fr (by unfold aI;have:=c.lt;omega)).cells)<|okm [2]<|oka 3 [0] rfl (fun w A g c s=>s.U16 c (hN 0) [(bk:Int)])<|okv []<|okl [5] (fun w A l c x=>((hpa).keep c.fr (by unfold aI;have:=c.lt;omega)).cells)<|okm [6]<|oka 7 [4] rfl (fun w A g c s=>s.STR c (hN 1) [tx,[0]])<|okn)
  (fun a' w' A' h1 h2 h3 h4 h5=>hK _ _ _ h1 (Kp.kx h2) h4) (by kernel_rfl) (by kernel_rfl) (by kernel_rfl) (by kernel_rfl)
theorem LK (gf:Nat) (nm vl:List UInt8) (w1:World) (p B:Nat) (A0:Option Addr) (l0:List UInt8) (a:Act) (w:World) (K:KT) (hs:Sz 115 a)
 (h4:sl a 4= .pointer (some ⟨p,0,none⟩)) (h6:sl a 6= .pointer (some ⟨gf,0,none⟩)) (hnm:nm.length≤1099511) (hvl:vl.length≤1099511)
 (hxf:AlS true (.slice (some ⟨gf,0,none⟩) 0 0) 0 196 #[.string (bs nm),.string (bs vl)] B A0 w) (hch0:Chn w1 p B A0 l0 w) (N00:l0.length≤50000000)
 (hK:∀a' w' A',Sz 115 a'→Kp (kx 115 [71,72,73,74,75,76,77]) a a'→Chn w1 p B A' (l0++List.flatten [nm,[0],vl,[0]]) w'→AlS true (.slice (some ⟨gf,0,none⟩) 0 0) 0 196 #[.string (bs nm),.string (bs vl)] B A' w'→K .normal a' w'):
 (aH Tryz.f170 17).wp Tryz.prog K a w:=by
 have hN:=xX (fs:=[(· ++List.flatten [nm,[0],vl,[0]])]) N00 3000000 (by intro f hf l;simp at hf;rcases hf with rfl<;>simp[aU,dO,aB]<;>omega) (by simp)
 conv=>arg 2;whnf
 refine gG (lst:=jT l0 _) (ats:=[6]) (kn:=[(4,pt p),(6,pt gf)]) (ex:=[(gf,196,#[.string (bs nm),.string (bs vl)])]) (sp:=[(71,.v (pt p)),(72,.v (pt gf)),(73,.v (.string (bs nm))),(74,.v (.pointer (some ⟨gf,1,none⟩))),(75,.v (.string (bs vl))),(76,.m 4 9 #[.string (bs nm),.string (bs [0]),.string (bs vl),.string (bs [0])]),(77,.w 0)]) hs hch0 (.cons hxf .nil) (by simp[h4,h6])
  (okv []<|okv []<|okl [1] (fun w A l c x=>(x (gf,196,#[.string (bs nm),.string (bs vl)]) (by simp)).bk0.cells)<|okv []<|okl [3] (fun w A l c x=>(x (gf,196,#[.string (bs nm),.string (bs vl)]) (by simp)).bk0.cells)<|okm [2,4]<|oka 5 [0] rfl (fun w A g c s=>s.STR c (hN 0) [nm,[0],vl,[0]])<|okn)
  (fun a' w' A' h1 h2 h3 h4 h5=>hK _ _ _ h1 (Kp.kx h2) h4 (h5 (gf,196,#[.string (bs nm),.string (bs vl)]) (by simp))) (by kernel_rfl) (by kernel_rfl) (by kernel_rfl) (by kernel_rfl)
end Go.Proofs.YtcbkaiakdhiloacGreatDoor
