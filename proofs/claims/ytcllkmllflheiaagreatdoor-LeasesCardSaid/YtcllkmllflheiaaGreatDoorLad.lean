/- Parts of the walk; written by programs, merged. -/
import Derived.Test.YtcllkmllflheiaaGreatDoorLac
set_option linter.unusedSimpArgs false
set_option linter.unusedVariables false
set_option maxRecDepth 20000
set_option maxHeartbeats 8000000
namespace Go.Proofs.YtcllkmllflheiaaGreatDoor
open Go.RowKit Go.Proofs
attribute [local go_sem] aG aD cV aF
def gH (op:Nat) (fm:Mac) (fi:Nat) (tm:Mac) (ti:Nat):List UInt8:=[0,1,8,0,6,4]++big 2 op++cG fm++big 4 fi++cG tm++big 4 ti
def lC (op:Nat) (fm:Mac) (fi:Nat) (tm:Mac) (ti:Nat):List UInt8×Nat:=if op=1∨op=2 then(gH op fm fi tm ti,0)else([],2)
theorem Gb (op fi ti:Nat) (m n:Mac):([]++bG 2 [1,2048]++[6,4]++bG 2 [(op:Int)]++List.flatMap cG [m]++bG 4 [(fi:Int)]++List.flatMap cG [n]++bG 4 [(ti:Int)])=gH op m fi n ti:=by
 have e:bG 2 [1,2048]=[0,1,8,0]:=by decide
 rw[e]
 simp[gH,bG]
theorem oZ (op fi ti:Nat) (m0 m1 m2 m3 m4 m5 n0 n1 n2 n3 n4 n5:UInt8) (w:World) (ho:op<65536) (hfi:fi<4294967296) (hti:ti<4294967296):
 Calls Tryz.prog 83 #[.agg #[.int .u16 (op:Int),.int .u8 (m0.toNat:Int),.int .u8 (m1.toNat:Int),.int .u8 (m2.toNat:Int),.int .u8 (m3.toNat:Int),.int .u8 (m4.toNat:Int),.int .u8 (m5.toNat:Int),.int .u32 (fi:Int),.int .u8 (n0.toNat:Int),.int .u8 (n1.toNat:Int),.int .u8 (n2.toNat:Int),.int .u8 (n3.toNat:Int),.int .u8 (n4.toNat:Int),.int .u8 (n5.toNat:Int),.int .u32 (ti:Int)]] w (eL (lC op (m0,m1,m2,m3,m4,m5) fi (n0,n1,n2,n3,n4,n5) ti) w):=by
 have hpa:=(Bk.new w 125 #[.int .u16 (op:Int),.int .u8 (m0.toNat:Int),.int .u8 (m1.toNat:Int),.int .u8 (m2.toNat:Int),.int .u8 (m3.toNat:Int),.int .u8 (m4.toNat:Int),.int .u8 (m5.toNat:Int),.int .u32 (fi:Int),.int .u8 (n0.toNat:Int),.int .u8 (n1.toNat:Int),.int .u8 (n2.toNat:Int),.int .u8 (n3.toNat:Int),.int .u8 (n4.toNat:Int),.int .u8 (n5.toNat:Int),.int .u32 (ti:Int)]).alloc (.cells #[.slice none 0 0] 200)
 have hbw:=Bk.new (w.alloc (.cells #[.int .u16 (op:Int),.int .u8 (m0.toNat:Int),.int .u8 (m1.toNat:Int),.int .u8 (m2.toNat:Int),.int .u8 (m3.toNat:Int),.int .u8 (m4.toNat:Int),.int .u8 (m5.toNat:Int),.int .u32 (fi:Int),.int .u8 (n0.toNat:Int),.int .u8 (n1.toNat:Int),.int .u8 (n2.toNat:Int),.int .u8 (n3.toNat:Int),.int .u8 (n4.toNat:Int),.int .u8 (n5.toNat:Int),.int .u32 (ti:Int)] 125)) 200 #[.slice none 0 0]
 rw[show(w.alloc (.cells #[.int .u16 (op:Int),.int .u8 (m0.toNat:Int),.int .u8 (m1.toNat:Int),.int .u8 (m2.toNat:Int),.int .u8 (m3.toNat:Int),.int .u8 (m4.toNat:Int),.int .u8 (m5.toNat:Int),.int .u32 (fi:Int),.int .u8 (n0.toNat:Int),.int .u8 (n1.toNat:Int),.int .u8 (n2.toNat:Int),.int .u8 (n3.toNat:Int),.int .u8 (n4.toNat:Int),.int .u8 (n5.toNat:Int),.int .u32 (ti:Int)] 125)).heap.size=w.heap.size+1 by simp]at hbw
 have hpa0:=(Bk.new w 125 #[.int .u16 (op:Int),.int .u8 (m0.toNat:Int),.int .u8 (m1.toNat:Int),.int .u8 (m2.toNat:Int),.int .u8 (m3.toNat:Int),.int .u8 (m4.toNat:Int),.int .u8 (m5.toNat:Int),.int .u32 (fi:Int),.int .u8 (n0.toNat:Int),.int .u8 (n1.toNat:Int),.int .u8 (n2.toNat:Int),.int .u8 (n3.toNat:Int),.int .u8 (n4.toNat:Int),.int .u8 (n5.toNat:Int),.int .u32 (ti:Int)]).cells
 go_enter Tryz.func83,Tryz.ntmps83
 go_upto_region 1 with fail
 go_cut [12]from 5 to 12 (fun c wx=>c= .bool (!(decide (op=1)||decide (op=2)))∧wx=w.alloc (.cells #[.int .u16 (op:Int),.int .u8 (m0.toNat:Int),.int .u8 (m1.toNat:Int),.int .u8 (m2.toNat:Int),.int .u8 (m3.toNat:Int),.int .u8 (m4.toNat:Int),.int .u8 (m5.toNat:Int),.int .u32 (fi:Int),.int .u8 (n0.toNat:Int),.int .u8 (n1.toNat:Int),.int .u8 (n2.toNat:Int),.int .u8 (n3.toNat:Int),.int .u8 (n4.toNat:Int),.int .u8 (n5.toNat:Int),.int .u32 (ti:Int)] 125))
 case first=>
  by_cases h1:op=1
  ·have b1:((op:Int) !=1)=false:=by simp;omega
   have H1:=Lib.hid h1
   clear h1
   go_wp2_with fail
   go_meet
   case rel=>exact⟨by rw[H1.out];rfl,rfl⟩
  ·have b1:((op:Int) !=1)=true:=by simp;omega
   have H1:=Lib.hid h1
   clear h1
   by_cases h2:op=2
   ·have b2:((op:Int) !=2)=false:=by simp;omega
    have H2:=Lib.hid h2
    clear h2
    go_wp2_with fail
    go_meet
    case rel=>exact⟨by rw[H2.out];rfl,rfl⟩
   ·have b2:((op:Int) !=2)=true:=by simp;omega
    have H2:=Lib.hid h2
    clear h2
    go_wp2_with fail
    go_meet
    case rel=>exact⟨by simp[H1.out,H2.out],rfl⟩
 case rest=>
 obtain⟨rfl,rfl⟩:=hcut
 by_cases h:op=1∨op=2
 ·have hb:(!(decide (op=1)||decide (op=2)))=false:=by rcases h with rfl|rfl<;>rfl
  rw[hb]
  have hs:Hid (lC op (m0,m1,m2,m3,m4,m5) fi (n0,n1,n2,n3,n4,n5) ti=(gH op (m0,m1,m2,m3,m4,m5) fi (n0,n1,n2,n3,n4,n5) ti,0)):=by unfold Hid lC;rw[if_pos h]
  clear h hb hpa0
  go_upto_region 4 with fail
  have hf0:Fr noB w ((w.alloc (.cells #[.int .u16 (op:Int),.int .u8 (m0.toNat:Int),.int .u8 (m1.toNat:Int),.int .u8 (m2.toNat:Int),.int .u8 (m3.toNat:Int),.int .u8 (m4.toNat:Int),.int .u8 (m5.toNat:Int),.int .u32 (fi:Int),.int .u8 (n0.toNat:Int),.int .u8 (n1.toNat:Int),.int .u8 (n2.toNat:Int),.int .u8 (n3.toNat:Int),.int .u8 (n4.toNat:Int),.int .u8 (n5.toNat:Int),.int .u32 (ti:Int)] 125)).alloc (.cells #[.slice none 0 0] 200)):=((Fr.refl _ _).alloc _).alloc _
  have hsz:((w.alloc (.cells #[.int .u16 (op:Int),.int .u8 (m0.toNat:Int),.int .u8 (m1.toNat:Int),.int .u8 (m2.toNat:Int),.int .u8 (m3.toNat:Int),.int .u8 (m4.toNat:Int),.int .u8 (m5.toNat:Int),.int .u32 (fi:Int),.int .u8 (n0.toNat:Int),.int .u8 (n1.toNat:Int),.int .u8 (n2.toNat:Int),.int .u8 (n3.toNat:Int),.int .u8 (n4.toNat:Int),.int .u8 (n5.toNat:Int),.int .u32 (ti:Int)] 125)).alloc (.cells #[.slice none 0 0] 200)).heap.size=w.heap.size+2:=by simp
  generalize(w.alloc (.cells #[.int .u16 (op:Int),.int .u8 (m0.toNat:Int),.int .u8 (m1.toNat:Int),.int .u8 (m2.toNat:Int),.int .u8 (m3.toNat:Int),.int .u8 (m4.toNat:Int),.int .u8 (m5.toNat:Int),.int .u32 (fi:Int),.int .u8 (n0.toNat:Int),.int .u8 (n1.toNat:Int),.int .u8 (n2.toNat:Int),.int .u8 (n3.toNat:Int),.int .u8 (n4.toNat:Int),.int .u8 (n5.toNat:Int),.int .u32 (ti:Int)] 125)).alloc (.cells #[.slice none 0 0] 200)=w1 at*
  have hwr0:=Wr.zero hbw
  have hN:=BU (l0:=([]:List UInt8)) (fs:=[(· ++bG 2 [1,2048]),(· ++[6,4]),(· ++bG 2 [(op:Int)]),(· ++List.flatMap cG [(m0,m1,m2,m3,m4,m5)]),(· ++bG 4 [(fi:Int)]),(· ++List.flatMap cG [(n0,n1,n2,n3,n4,n5)]),(· ++bG 4 [(ti:Int)])]) (by simp) 1000000 (by intro f hf l;simp at hf;rcases hf with rfl|rfl|rfl|rfl|rfl|rfl|rfl<;>simp[aN,cG,aH]<;>omega) (by simp)
  refine jK (n:=41) (w1:=w1) (p:=(w.heap.size+1)) (lst:=jT ([]:List UInt8) _) (ats:=[2,4,8,12,16,20,24]) (kn:=[(4,pt (w.heap.size+1)),(1,.pointer (some ⟨w.heap.size,0,none⟩))]) (ex:=[]) (sp:=[(15,.v (pt (w.heap.size+1))),(16,.m 2 80 #[.int .u16 1,.int .u16 2048]),(17,.w 0),(18,.m 2 5 #[.int .u8 6,.int .u8 4]),(19,.w 1),(20,.v (.pointer (some ⟨w.heap.size,0,none⟩))),(21,.v (.int .u16 (op:Int))),(22,.m 1 80 #[.int .u16 (op:Int)]),(23,.w 2),(24,.v (.pointer (some ⟨w.heap.size,1,none⟩))),(25,.v (.agg #[.int .u8 (m0.toNat:Int),.int .u8 (m1.toNat:Int),.int .u8 (m2.toNat:Int),.int .u8 (m3.toNat:Int),.int .u8 (m4.toNat:Int),.int .u8 (m5.toNat:Int)])),(26,.m 1 26 #[.int .u8 (m0.toNat:Int),.int .u8 (m1.toNat:Int),.int .u8 (m2.toNat:Int),.int .u8 (m3.toNat:Int),.int .u8 (m4.toNat:Int),.int .u8 (m5.toNat:Int)]),(27,.w 3),(28,.v (.pointer (some ⟨w.heap.size,7,none⟩))),(29,.v (.int .u32 (fi:Int))),(30,.m 1 53 #[.int .u32 (fi:Int)]),(31,.w 4),(32,.v (.pointer (some ⟨w.heap.size,8,none⟩))),(33,.v (.agg #[.int .u8 (n0.toNat:Int),.int .u8 (n1.toNat:Int),.int .u8 (n2.toNat:Int),.int .u8 (n3.toNat:Int),.int .u8 (n4.toNat:Int),.int .u8 (n5.toNat:Int)])),(34,.m 1 26 #[.int .u8 (n0.toNat:Int),.int .u8 (n1.toNat:Int),.int .u8 (n2.toNat:Int),.int .u8 (n3.toNat:Int),.int .u8 (n4.toNat:Int),.int .u8 (n5.toNat:Int)]),(35,.w 5),(36,.v (.pointer (some ⟨w.heap.size,14,none⟩))),(37,.v (.int .u32 (ti:Int))),(38,.m 1 53 #[.int .u32 (ti:Int)]),(39,.w 6),(40,.s 7),(2,.v (.string (bs (jT ([]:List UInt8) [(· ++bG 2 [1,2048]),(· ++[6,4]),(· ++bG 2 [(op:Int)]),(· ++List.flatMap cG [(m0,m1,m2,m3,m4,m5)]),(· ++bG 4 [(fi:Int)]),(· ++List.flatMap cG [(n0,n1,n2,n3,n4,n5)]),(· ++bG 4 [(ti:Int)])] 7)))),(3,.v (.int .i64 0))]) ⟨rfl,rfl⟩ (Chn.start0 hwr0 rfl) .nil (by simp[sl])
   (okv []<|okm []<|oka 1 [0] rfl (fun _ _ _ c s=>s.U16 c (hN 0) [1,2048])<|okm []<|oka 3 [2] rfl (fun _ _ _ c s=>s.U8 c (hN 1) [6,4])<|okv []<|okl [5] (fun _ _ _ c x=>((hpa).keep c.fr (by unfold aJ;have:=c.lt;omega)).cells)<|okm [6]<|oka 7 [4] rfl (fun _ _ _ c s=>s.U16 c (hN 2) [(op:Int)])<|okv []<|okl [9] (fun _ _ _ c x=>((hpa).keep c.fr (by unfold aJ;have:=c.lt;omega)).cells)<|okm [10]<|oka 11 [8] rfl (fun _ _ _ c s=>s.MAC c (hN 3) [(m0,m1,m2,m3,m4,m5)])<|okv []<|okl [13] (fun _ _ _ c x=>((hpa).keep c.fr (by unfold aJ;have:=c.lt;omega)).cells)<|okm [14]<|oka 15 [12] rfl (fun _ _ _ c s=>s.IP c (hN 4) [(fi:Int)])<|okv []<|okl [17] (fun _ _ _ c x=>((hpa).keep c.fr (by unfold aJ;have:=c.lt;omega)).cells)<|okm [18]<|oka 19 [16] rfl (fun _ _ _ c s=>s.MAC c (hN 5) [(n0,n1,n2,n3,n4,n5)])<|okv []<|okl [21] (fun _ _ _ c x=>((hpa).keep c.fr (by unfold aJ;have:=c.lt;omega)).cells)<|okm [22]<|oka 23 [20] rfl (fun _ _ _ c s=>s.IP c (hN 6) [(ti:Int)])<|oks [24] (fun _ _ c=>kH _ _ _ _ c.wr)<|okv [25]<|okv []<|okn) ?_ (by kernel_rfl) (by kernel_rfl) (by kernel_rfl) (by kernel_rfl)
  intro a' w3 A' hs' hk' hv' hch _
  rw[Kp.eq_put (n:=41) [15,16,17,18,19,20,21,22,23,24,25,26,27,28,29,30,31,32,33,34,35,36,37,38,39,40,2,3] ⟨rfl,rfl⟩ hs' (Kp.kx hk':Kp (kx 41 [15,16,17,18,19,20,21,22,23,24,25,26,27,28,29,30,31,32,33,34,35,36,37,38,39,40,2,3]) _ _) rfl rfl]
  simp only[List.foldl,Act.put,List.setIfInBounds_toArray,List.set_cons_zero,List.set_cons_succ]
  rw[(hv' 26 2 _ rfl:sl a' 2= .string (bs (jT ([]:List UInt8) [(· ++bG 2 [1,2048]),(· ++[6,4]),(· ++bG 2 [(op:Int)]),(· ++List.flatMap cG [(m0,m1,m2,m3,m4,m5)]),(· ++bG 4 [(fi:Int)]),(· ++List.flatMap cG [(n0,n1,n2,n3,n4,n5)]),(· ++bG 4 [(ti:Int)])] 7)))]
  rw[(hv' 27 3 _ rfl:sl a' 3= .int .i64 0)]
  have hby:jT [] [(· ++bG 2 [1,2048]),(· ++[6,4]),(· ++bG 2 [(op:Int)]),(· ++List.flatMap cG [(m0,m1,m2,m3,m4,m5)]),(· ++bG 4 [(fi:Int)]),(· ++List.flatMap cG [(n0,n1,n2,n3,n4,n5)]),(· ++bG 4 [(ti:Int)])] 7=gH op (m0,m1,m2,m3,m4,m5) fi (n0,n1,n2,n3,n4,n5) ti:=Gb op fi ti _ _
  rw[hby]
  have hfr:=hf0.trans' hch.fr (fun b hb e=>by unfold aJ at e;omega)
  generalize gH op (m0,m1,m2,m3,m4,m5) fi (n0,n1,n2,n3,n4,n5) ti=R at*
  go_wp2_with fail
  go_ret2
  exact⟨by rw[hs.out];rfl,hfr⟩
 ·have hb:(!(decide (op=1)||decide (op=2)))=true:=by simp;omega
  rw[hb]
  have H:=Lib.hid h
  clear h hb
  go_wp2_with fail
  go_ret2
  exact⟨by rw[show lC op (m0,m1,m2,m3,m4,m5) fi (n0,n1,n2,n3,n4,n5) ti=([],2) by unfold lC;rw[if_neg H.out]];rfl,(Fr.refl _ _).alloc _⟩
end Go.Proofs.YtcllkmllflheiaaGreatDoor
namespace Go.Proofs.YtcllkmllflheiaaGreatDoor
open Go.RowKit Go.Proofs
def gx (u:Nat→Value):List (Nat×Value)→Nat→Value
 |[],k=>u k
 |x::r,k=>if x.1=k then x.2 else gx u r k
def F (n:Nat) (u:Nat→Value) (l:List (Nat×Value)):Act:=frN n (gx u l)
def unF (_:Nat):Value:=undef
def idx (k:Nat):List Value→List (Nat×Value)
 |[]=>[]
 |x::r=>(k,x)::idx (k+1) r
section
variable {n:Nat} {u:Nat→Value} {l:List (Nat×Value)} {k d:Nat} {v:Value}
@[simp] theorem iU:gx u ((k,v)::l) d=if k=d then v else gx u l d:=rfl
@[simp] theorem E7:gx u [] d=u d:=rfl
theorem AE (n:Nat) (u:Nat→Value) (l:List (Nat×Value)):F n u l=frN n (gx u l):=rfl
@[simp↓] theorem BO:(F n u l).eval (.tmp k)=if k<n then gx u l k else undef:=by
 by_cases h:k<n
 ·rw[if_pos h];exact G0 h
 ·rw[if_neg h];show(frN n (gx u l)).tmps.getD k undef=undef;simp[frN,Array.getD,h]
@[simp] theorem EH:(F n u l).tmps.getD k undef=if k<n then gx u l k else undef:=BO
@[simp] theorem JK:(F n u l).tmps[k]?.getD undef=if k<n then gx u l k else undef:=by rw[←EH,Array.getD_eq_getD_getElem?]
theorem oI {n:Nat} {u u':Nat→Value} (h:∀k,k<n→u k=u' k):frN n u=frN n u':=by
 unfold frN
 congr 2
 exact List.map_congr_left fun k hk=>h k (List.mem_range.1 hk)
@[simp↓] theorem eJ:(F n u l).put (some d) v=F n u ((d,v)::l):=by
 have h:Sz n ((F n u l).put (some d) v):=⟨by simp[F,frN,Act.put],rfl⟩
 rw[h.eq]
 refine oI fun k hk=> ?_
 rw[iU]
 show((frN n (gx u l)).tmps.setIfInBounds d v).getD k undef=_
 by_cases hd:d=k
 ·subst hd;rw[if_pos rfl];simp[frN,Array.getD,hk]
 ·rw[if_neg hd];simp[frN,Array.getD,hk,Array.getElem_setIfInBounds,hd]
@[simp↓] theorem HW:(F n u l).put none v=F n u l:=rfl
@[simp] theorem Ip:(F n u l).defers=[]:=rfl
theorem EY (u:Nat→Value):∀(xs:List Value) (k i:Nat),gx u (idx k xs) (k+i)=if i<xs.length then xs.getD i undef else u (k+i)
 |[],_,_=>rfl
 |x::r,k,0=>by unfold idx;rw[iU,if_pos (by omega)];rfl
 |x::r,k,i+1=>by
  unfold idx;rw[iU,if_neg (by omega),show k+(i+1)=k+1+i by omega,EY u r (k+1) i]
  simp
theorem ent {P:Program} {f:FuncId} {fn:Func} {c:Code} {xs:List Value} {w:World} {R:Ending→World→Prop} {l:List (Nat×Value)}
 (hf:P.funcs[f]? =some fn) (hb:fn.body=some c) (hn:fn.ntmps=n) (hl:idx 0 xs=l) (hx:Nat.ble xs.length n=true)
 (h:c.wp P (bodyPost P fn R) (F n unF l) w):Calls P f xs.toArray w R:=by
 refine calls_of_wp hf hb ?_
 subst hn hl
 have hx':xs.length≤fn.ntmps:=by simpa using hx
 have h0:Sz fn.ntmps {tmps:=xs.toArray++Array.replicate (fn.ntmps-xs.toArray.size) undef,defers:=[]}:=⟨by simp;omega,rfl⟩
 rw[h0.eq]
 rw[AE]at h
 refine(oI (fun k hk=> ?_):_=_)▸h
 have:=EY unF xs 0 k
 rw[Nat.zero_add]at this
 rw[this]
 by_cases hk2:k<xs.length
 ·rw[if_pos hk2];simp[sl,Array.getD,hk,hk2,Array.getElem_append];omega
 ·rw[if_neg hk2];simp[sl,Array.getD,hk,hk2,Array.getElem_append,unF]
end
theorem ibq (x y:Int):(x==y)=decide (x=y):=rfl
theorem ibn (x y:Int):(x !=y)= !decide (x=y):=rfl
theorem eqN (a b:Nat):((a:Int)=(b:Int))=(a=b):=by apply propext;omega
theorem ltN (a b:Nat):((a:Int)<(b:Int))=(a<b):=by apply propext;omega
theorem leN (a b:Nat):((a:Int)≤(b:Int))=(a≤b):=by apply propext;omega
theorem eqL (n k:Nat):((n:Int)=(no_index (OfNat.ofNat k):Int))=(n=OfNat.ofNat k):=by
 apply propext;show(n:Int)=(k:Int)↔n=k;omega
theorem eqR (n k:Nat):((no_index (OfNat.ofNat k):Int)=(n:Int))=(OfNat.ofNat k=n):=by
 apply propext;show(k:Int)=(n:Int)↔k=n;omega
theorem ltL (n k:Nat):((n:Int)<(no_index (OfNat.ofNat k):Int))=(n<OfNat.ofNat k):=by
 apply propext;show(n:Int)<(k:Int)↔n<k;omega
theorem gtL (n k:Nat):((no_index (OfNat.ofNat k):Int)<(n:Int))=(OfNat.ofNat k<n):=by
 apply propext;show(k:Int)<(n:Int)↔k<n;omega
theorem leL (n k:Nat):((n:Int)≤(no_index (OfNat.ofNat k):Int))=(n≤OfNat.ofNat k):=by
 apply propext;show(n:Int)≤(k:Int)↔n≤k;omega
theorem geL (n k:Nat):((no_index (OfNat.ofNat k):Int)≤(n:Int))=(OfNat.ofNat k≤n):=by
 apply propext;show(k:Int)≤(n:Int)↔k≤n;omega
structure Hx (p:Prop):Prop where
 out:p
def isV (o:Oper):Bool:=match o.op with
 | .move _| .assign _| .pick .. | .nilCheck _| .binOp .. | .unOp .. | .convert .. | .makeInterface .. | .makeFunc .. | .slice .. | .fieldAddr .. | .field .. | .indexAddr .. | .index .. | .lookup .. | .extract .. | .build .. | .typeAssert .. =>true
 | .call c=>match c.callee with
   | .builtin .len| .builtin .min| .builtin .max| .builtin .cap=>true
   |_=>false
 |_=>false
def isL (o:Oper):Bool:=match o.op with
 | .load .. =>true
 |_=>false
section
variable {P:Program} {ops:Array Oper} {opl:List Oper} {Q:Exit→Act→World→Prop} {K:Act→World→Prop} {rest:List Oper} {n:Nat} {u:Nat→Value} {l l':List (Nat×Value)} {w w':World} {o:Oper} {v:Value} {d d' j:Nat} {b:Bool} {c:Bool} {a a':Act} {x y:Code} {id:Nat}
theorem cU {a:Act} (hw:Region.wanted o (yielded ops a.tmps)=true) (hv:(execOp a.eval o).run P w= .ok (.value v) w') (h:wpList P ops Q rest (a.put o.dst v) w'):wpList P ops Q (o::rest) a w:=by
 unfold wpList
 rw[if_pos hw]
 left
 unfold Oper.wp
 rw[hv]
 exact h
@[irreducible] def cw (P:Program) (c:Code) (Q:Exit→Act→World→Prop) (a:Act) (w:World):Prop:=c.wp P Q a w
theorem fC {c:Code}:cw P c Q a w=c.wp P Q a w:=by unfold cw;rfl
@[irreducible] def wl (P:Program) (opl:List Oper) (Q:Exit→Act→World→Prop) (rest:List Oper) (a:Act) (w:World):Prop:=wpList P opl.toArray Q rest a w
theorem cJ {a:Act}:wl P opl Q rest a w=wpList P opl.toArray Q rest a w:=by unfold wl;rfl
theorem tN (h:K a w):Exit.then K Q .normal a w:=h
theorem tX (h:Q (.exit id) a w):Exit.then K Q (.exit id) a w:=h
theorem tR (h:Q .ret a w):Exit.then K Q .ret a w:=h
theorem bN (h:Q .normal a w):Exit.inBlock id Q .normal a w:=h
theorem bR (h:Q .ret a w):Exit.inBlock id Q .ret a w:=h
theorem bS (h:Q .normal a w):Exit.inBlock id Q (.exit id) a w:=bU h
theorem bO {k:Nat} (hk:Nat.beq k id=false:=by rfl) (h:Q (.exit k) a w):Exit.inBlock id Q (.exit k) a w:=by
 simp only[Exit.inBlock];rw[if_neg (by intro e;subst e;simp at hk)];exact h
theorem cS (h:cw P x (Exit.then (cw P y Q) Q) a w):cw P (.seq x y) Q a w:=by
 rw[fC]at h⊢
 exact wp_seq (wp_mono h fun e a w hq=>by cases e<;>first|(show Code.wp P y Q a w;rw[←fC];exact hq)|exact hq)
theorem cK (h:Q .normal a w):cw P .skip Q a w:=by rw[fC];exact wp_skip h
theorem cX (h:Q (.exit id) a w):cw P (.exit id) Q a w:=by rw[fC];exact wp_exit h
theorem cR (h:Q .ret a w):cw P .ret Q a w:=by rw[fC];exact wp_ret h
theorem cB (h:cw P x (Exit.inBlock id Q) a w):cw P (.block id x) Q a w:=by rw[fC]at h⊢;exact wp_block h
theorem cI (h:wl P opl Q opl a w):cw P (.region id opl.toArray false) Q a w:=by rw[fC];exact wp_region_lit (cJ▸h)
theorem sE (h:Q .normal a w):wl P opl Q [] a w:=by rw[cJ];exact h
theorem cT {c:Operand} (hb:(F n u l).eval c= .bool true:=by go_simp<;>fail) (h:cw P x Q (F n u l) w):cw P (.cond c x y) Q (F n u l) w:=by rw[fC]at h⊢;exact wp_cond_true hb h
theorem cF {c:Operand} (hb:(F n u l).eval c= .bool false:=by go_simp<;>fail) (h:cw P y Q (F n u l) w):cw P (.cond c x y) Q (F n u l) w:=by rw[fC]at h⊢;exact wp_cond_false hb h
theorem cC {k:Nat} {b:Bool} (h1:b=true→cw P x Q (F n u l) w) (h2:b=false→cw P y Q (F n u l) w) (hk:Nat.blt k n=true:=by rfl) (hb:gx u l k= .bool b:=by rfl):cw P (.cond (.tmp k) x y) Q (F n u l) w:=by
 have hb':(F n u l).eval (.tmp k)= .bool b:=by rw[BO,if_pos (by simpa using hk)];exact hb
 cases b
 ·exact cF hb' (h2 rfl)
 ·exact cT hb' (h1 rfl)
theorem z0 {fn:Func} {R:Ending→World→Prop} (hr:fn.results= #[]:=by rfl) (h:R (.returned (.tuple #[])) w):bodyPost P fn R .ret (F n u l) w:=bodyPost_ret (results_none hr _ _ _) rfl h
theorem zE {fn:Func} {R:Ending→World→Prop} (hr:fn.results= #[]:=by rfl) (h:R (.returned (.tuple #[])) w):bodyPost P fn R .normal (F n u l) w:=bodyPost_end (results_none hr _ _ _) rfl h
theorem z1 {fn:Func} {R:Ending→World→Prop} {t:Tmp} (hr:fn.results= #[.tmp t]:=by rfl) (hv:(F n u l).tmps.getD t undef=v:=by go_simp;((try with_reducible rfl);done)) (h:R (.returned v) w):bodyPost P fn R .ret (F n u l) w:=bodyPost_ret (results_tmp hr _ _ _) rfl (hv▸h)
theorem z2 {fn:Func} {R:Ending→World→Prop} {t t':Tmp} {v':Value} (hr:fn.results= #[.tmp t,.tmp t']:=by rfl) (hv:(F n u l).tmps.getD t undef=v:=by go_simp;((try with_reducible rfl);done)) (hv':(F n u l).tmps.getD t' undef=v':=by go_simp;((try with_reducible rfl);done)) (h:R (.returned (.tuple #[v,v'])) w):bodyPost P fn R .ret (F n u l) w:=bodyPost_ret (results_tmp2 hr _ _ _) rfl (hv▸hv'▸h)
def lk (l:List (Nat×Value)) (k:Nat):Option Value:=match l with
 |[]=>none
 |(j,v)::r=>match Nat.beq j k with
  |true=>some v
  |false=>lk r k
def ov (n:Nat) (l:List (Nat×Value)):Operand→Option Value
 | .tmp k=>match Nat.blt k n with
   |true=>lk l k
   |false=>none
 | .const v=>some v
 |_=>none
theorem Ij:∀{l:List (Nat×Value)} {k:Nat},lk l k=some v→gx u l k=v
 |[],_,h=>by cases h
 |(j,x)::r,k,h=>by
  rw[iU]
  unfold lk at h
  by_cases e:j=k
  ·subst e;simp at h;rw[if_pos rfl,h]
  ·rw[if_neg e]
   have:Nat.beq j k=false:=by cases hb:Nat.beq j k with|true=>exact absurd (Nat.eq_of_beq_eq_true hb) e|false=>rfl
   rw[this]at h
   exact Ij h
theorem tO {x:Operand} (h:ov n l x=some v):(F n u l).eval x=v:=by
 cases x with
 |tmp k=>
  have h:(match Nat.blt k n with
   |true=>lk l k
   |false=>none)=some v:=h
  cases hb:Nat.blt k n with
  |true=>rw[hb]at h;rw[BO,if_pos (by simpa using hb)];exact Ij h
  |false=>rw[hb]at h;cases h
 |const c=>injection h
 |global _=>cases h
 |func _=>cases h
theorem wg (hg:o.guard=some (j,b)) (hj:(opl[j]?).bind (·.dst)=some d') (hx:ov n l (.tmp d')=some (.bool b)):Region.wanted o (yielded opl.toArray (F n u l).tmps)=true:=aM hg (aI (Lib.hid rfl) hj) (tO hx)
theorem wn (hg:o.guard=some (j,b)) (hj:(opl[j]?).bind (·.dst)=some d') (hx:ov n l (.tmp d')=some (.bool (!b))):Region.wanted o (yielded opl.toArray (F n u l).tmps)=false:=mQ hg (aI (Lib.hid rfl) hj) (tO hx)
def mvO (o:Oper):Option Operand:=match o.op with
 | .move x| .assign x=>some x
 |_=>none
theorem ET {x:Operand} (ho:mvO o=some x) (hx:ov n l x=some v) (w:World):(execOp (F n u l).eval o).run P w= .ok (.value v) w:=by
 obtain⟨ds,op,ty,po,af,gd⟩:=o
 cases op<;>simp only[mvO,reduceCtorEq,Option.some.injEq]at ho<;>subst ho<;>rw[←tO (u:=u) hx]<;>rfl
theorem EZ {x:Operand} {a:Addr} (ho:o.op= .nilCheck x) (hx:ov n l x=some (.pointer (some a))) (w:World):(execOp (F n u l).eval o).run P w= .ok (.value (.pointer (some a))) w:=by
 have h:=tO (u:=u) hx
 unfold execOp
 simp only[ho,h]
 rfl
theorem sV (hi:isV o=true:=by rfl) (hw:Region.wanted o (yielded opl.toArray (F n u l).tmps)=true:=by first|exact aL rfl|exact wg rfl rfl rfl|(refine aM rfl (aI (Lib.hid rfl) rfl) ?_;go_simp<;>fail)) (hd:o.dst=some d:=by rfl) (hv:(execOp (F n u l).eval o).run P w= .ok (.value v) w:=by go_simp;((try with_reducible rfl);done)) (h:wl P opl Q rest (F n u ((d,v)::l)) w):wl P opl Q (o::rest) (F n u l) w:=by
 rw[cJ]at h⊢;exact cU hw hv (by rw[hd,eJ];exact h)
theorem sm {x:Operand} (ho:mvO o=some x:=by rfl) (hx:ov n l x=some v:=by rfl) (hw:Region.wanted o (yielded opl.toArray (F n u l).tmps)=true:=by first|exact aL rfl|exact wg rfl rfl rfl|(refine aM rfl (aI (Lib.hid rfl) rfl) ?_;go_simp<;>fail)) (hd:o.dst=some d:=by rfl) (h:wl P opl Q rest (F n u ((d,v)::l)) w):wl P opl Q (o::rest) (F n u l) w:=by
 rw[cJ]at h⊢;exact cU hw (ET ho hx w) (by rw[hd,eJ];exact h)
theorem sc {x:Operand} {a:Addr} (ho:o.op= .nilCheck x:=by rfl) (hx:ov n l x=some (.pointer (some a)):=by rfl) (hw:Region.wanted o (yielded opl.toArray (F n u l).tmps)=true:=by first|exact aL rfl|exact wg rfl rfl rfl|(refine aM rfl (aI (Lib.hid rfl) rfl) ?_;go_simp<;>fail)) (hd:o.dst=some d:=by rfl) (h:wl P opl Q rest (F n u ((d,.pointer (some a))::l)) w):wl P opl Q (o::rest) (F n u l) w:=by
 rw[cJ]at h⊢;exact cU hw (EZ ho hx w) (by rw[hd,eJ];exact h)
theorem wI {a:Act} (h:wl P opl Q rest a w):wl P opl Q rest a w:=h
theorem wJ {a:Act} (h:cw P x Q a w):cw P x Q a w:=h
theorem wH {c:Operand} {a:Act} (h:cw P (.cond c x y) Q a w):cw P (.cond c x y) Q a w:=h
theorem wP {fn:Func} {R:Ending→World→Prop} {e:Exit} {a:Act} (h:bodyPost P fn R e a w):bodyPost P fn R e a w:=h
theorem sN (hw:Region.wanted o (yielded opl.toArray (F n u l).tmps)=false:=by first|exact wn rfl rfl rfl|(refine mQ rfl (aI (Lib.hid rfl) rfl) ?_;go_simp<;>fail)|(refine xX rfl (aI (Lib.hid rfl) rfl) ?_;go_simp<;>fail)) (hd:o.dst=some d:=by rfl) (h:wl P opl Q rest (F n u ((d,undef)::l)) w):wl P opl Q (o::rest) (F n u l) w:=by
 rw[cJ]at h⊢
 unfold wpList
 rw[if_neg (by rw[hw];simp),hd,eJ]
 exact h
theorem sL {v0:Value} {t:TypeId} {p:Operand} {g k:Nat} {ty:TypeId} {cs:Array Value} (ho:o.op= .load t p:=by rfl) (hw:Region.wanted o (yielded opl.toArray (F n u l).tmps)=true:=by first|exact aL rfl|exact wg rfl rfl rfl|(refine aM rfl (aI (Lib.hid rfl) rfl) ?_;go_simp<;>fail)) (hd:o.dst=some d:=by rfl) (hp:(F n u l).eval p=v0:=by go_simp;((try with_reducible rfl);done)) (hp':v0= .pointer (some ⟨g,k,none⟩):=by rfl)
 (hB:Bk w g ty cs:=by first|assumption|exact aC.bk (by assumption)|exact aA.bk (by assumption)|exact AY.bk (by assumption))
 (hv:(∀j,w.cell? ⟨g,j,none⟩=cs[j]?)→(execOp (F n u l).eval o).run P w= .ok (.value v) w:=by intro _;go_simp;((try with_reducible rfl);done)) (h:wl P opl Q rest (F n u ((d,v)::l)) w):wl P opl Q (o::rest) (F n u l) w:=by
 rw[cJ]at h⊢;exact cU hw (hv hB.cells) (by rw[hd,eJ];exact h)
theorem sG (hi:isL o=true:=by rfl) (hw:Region.wanted o (yielded opl.toArray (F n u l).tmps)=true:=by first|exact aL rfl|exact wg rfl rfl rfl|(refine aM rfl (aI (Lib.hid rfl) rfl) ?_;go_simp<;>fail)) (hd:o.dst=some d:=by rfl) (hv:(execOp (F n u l).eval o).run P w= .ok (.value v) w:=by go_simp;((try with_reducible rfl);done)) (h:wl P opl Q rest (F n u ((d,v)::l)) w):wl P opl Q (o::rest) (F n u l) w:=by
 rw[cJ]at h⊢;exact cU hw hv (by rw[hd,eJ];exact h)
theorem sC {r:Result Next} {f:FuncId} {xs:Array Value} {R:Ending→World→Prop} {Φ:World→Prop} (hc:Calls P f xs w R) (h:∀w',Φ w'→wl P opl Q rest (F n u ((d,v)::l)) w') (hw:Region.wanted o (yielded opl.toArray (F n u l).tmps)=true:=by first|exact aL rfl|exact wg rfl rfl rfl|(refine aM rfl (aI (Lib.hid rfl) rfl) ?_;go_simp<;>fail)) (hd:o.dst=some d:=by rfl)
 (hR:∀e w',R e w'→e= .returned v∧Φ w':=by exact fun _ _ h=>h) (hv:(execOp (F n u l).eval o).run P w=r:=by go_simp;((try with_reducible rfl);done)) (hr:r= .ok (.enter f xs) w:=by rfl):wl P opl Q (o::rest) (F n u l) w:=by
 rw[cJ]
 unfold wpList
 rw[if_pos hw]
 left
 unfold Oper.wp
 rw[hv,hr]
 refine hc.mono fun e w' hr'=> ?_
 obtain⟨rfl,hφ⟩:=hR e w' hr'
 show wpList P opl.toArray Q rest ((F n u l).put o.dst v) w'
 rw[hd,eJ,←cJ]
 exact h w' hφ
theorem sS {r:Result Next} {w2:World} (hw:Region.wanted o (yielded opl.toArray (F n u l).tmps)=true:=by first|exact aL rfl|exact wg rfl rfl rfl|(refine aM rfl (aI (Lib.hid rfl) rfl) ?_;go_simp<;>fail)) (hd:o.dst=none:=by rfl) (hv:(execOp (F n u l).eval o).run P w=r:=by go_simp;((try with_reducible rfl);done)) (hr:r= .ok .skip w2:=by rfl) (h:wl P opl Q rest (F n u l) w2):wl P opl Q (o::rest) (F n u l) w:=by
 rw[cJ]at h⊢
 unfold wpList
 rw[if_pos hw]
 left
 unfold Oper.wp
 rw[hv,hr]
 show wpList P opl.toArray Q rest ((F n u l).put o.dst undef) w2
 rw[hd]
 exact h
theorem sW {r:Result Next} {w2:World} (hw:Region.wanted o (yielded opl.toArray (F n u l).tmps)=true:=by first|exact aL rfl|exact wg rfl rfl rfl|(refine aM rfl (aI (Lib.hid rfl) rfl) ?_;go_simp<;>fail)) (hd:o.dst=some d:=by rfl) (hv:(execOp (F n u l).eval o).run P w=r:=by go_simp;((try with_reducible rfl);done)) (hr:r= .ok (.value v) w2:=by rfl) (h:wl P opl Q rest (F n u ((d,v)::l)) w2):wl P opl Q (o::rest) (F n u l) w:=by
 rw[cJ]at h⊢;exact cU hw (hv.trans hr) (by rw[hd,eJ];exact h)
theorem sA {r:Result Next} {cs:Array Value} {ty:TypeId} (h:∀w',Bk w' w.heap.size ty cs→Fr noB w w'→wl P opl Q rest (F n u ((d,v)::l)) w') (hw:Region.wanted o (yielded opl.toArray (F n u l).tmps)=true:=by first|exact aL rfl|exact wg rfl rfl rfl|(refine aM rfl (aI (Lib.hid rfl) rfl) ?_;go_simp<;>fail)) (hd:o.dst=some d:=by rfl) (hv:(execOp (F n u l).eval o).run P w=r:=by go_simp;((try with_reducible rfl);done)) (hr:r= .ok (.value v) (w.alloc (.cells cs ty)):=by rfl):wl P opl Q (o::rest) (F n u l) w:=
 sW hw hd hv hr (h _ (Bk.new _ _ _) ((Fr.refl _ _).alloc _))
theorem sX {r:Result Next} {f:FuncId} {xs:Array Value} {R:Ending→World→Prop} (hc:Calls P f xs w R) (h:∀e w',R e w'→∃v,e= .returned v∧wl P opl Q rest (F n u ((d,v)::l)) w') (hw:Region.wanted o (yielded opl.toArray (F n u l).tmps)=true:=by first|exact aL rfl|exact wg rfl rfl rfl|(refine aM rfl (aI (Lib.hid rfl) rfl) ?_;go_simp<;>fail)) (hd:o.dst=some d:=by rfl)
 (hv:(execOp (F n u l).eval o).run P w=r:=by go_simp;((try with_reducible rfl);done)) (hr:r= .ok (.enter f xs) w:=by rfl):wl P opl Q (o::rest) (F n u l) w:=by
 rw[cJ]
 unfold wpList
 rw[if_pos hw]
 left
 unfold Oper.wp
 rw[hv,hr]
 refine hc.mono fun e w' hr'=> ?_
 obtain⟨v,rfl,hφ⟩:=h e w' hr'
 show wpList P opl.toArray Q rest ((F n u l).put o.dst v) w'
 rw[hd,eJ,←cJ]
 exact hφ
theorem sT {ty t:TypeId} {x y:Operand} {g:Nat} {cs cells:Array Value} {vx vy:Value} (h:∀w',Bk w' g t cells→Fr (aJ g) w w'→wl P opl Q rest (F n u l) w') (ho:o.op= .store ty x y:=by rfl) (hg:o.guard=none:=by rfl) (hd:o.dst=none:=by rfl)
 (hx:(F n u l).eval x=vx:=by go_simp;((try with_reducible rfl);done)) (hx':vx= .pointer (some ⟨g,0,none⟩):=by rfl) (hy:(F n u l).eval y=vy:=by go_simp;((try with_reducible rfl);done)) (hy':vy= .agg cells:=by rfl)
 (hB:Bk w g t cs:=by first|assumption|exact aC.bk (by assumption)|exact aA.bk (by assumption)|exact AY.bk (by assumption)) (hs:cells.size=cs.size:=by rfl) (hi:(P.info? ty).map (·.size)=some cells.size:=by kernel_rfl) (h1:cells.all (·.oneCell')=true:=by simp[Value.oneCell']):wl P opl Q (o::rest) (F n u l) w:=by
 rw[cJ]
 refine aP hg ty x y ho g t cs cells (hx.trans hx') (hy.trans hy') hB hs hi h1 fun w' h2 h3=> ?_
 rw[hd,←cJ]
 exact h w' h2 h3
theorem bA {w w1 w2:World} {g:Nat} (f:Fr noB w w1) (hg:w.heap.size≤g) (k:Fr (aJ g) w1 w2):Fr noB w w2:=f.trans' k fun b hb e=>by have e':b=g:=e;omega
theorem W {X p:Prop} (k:X) (h:Hx X→p:=by
 intro kk
 repeat(first|(refine wI ?_;first|refine sE ?_|refine sm (h:= ?_)|refine sc (h:= ?_)|refine sV (h:= ?_)|refine sL (h:= ?_)|refine sG (h:= ?_)|refine sN (h:= ?_))|refine tN ?_|(refine wJ ?_;first|refine cS ?_|refine cI ?_|refine cK ?_|refine cB ?_|refine cX ?_|refine cR ?_|(refine wH ?_;first|refine cT (h:= ?_)|refine cF (h:= ?_)))|refine bN ?_|refine tX ?_|refine bS ?_|refine tR ?_|refine bR ?_|refine bO (h:= ?_)|(refine wP ?_;first|refine z0 (h:= ?_)|refine zE (h:= ?_)|refine z1 (h:= ?_)|refine z2 (h:= ?_)))
 exact kk.out):p:=h ⟨k⟩
theorem V {X p:Prop} (k:X) (h:Hx X→p:=by
 intro kk
 repeat(refine wI ?_;first|refine sm (h:= ?_)|refine sc (h:= ?_)|refine sV (h:= ?_)|refine sL (h:= ?_)|refine sG (h:= ?_)|refine sN (h:= ?_))
 (try refine sE ?_)
 (try refine tN ?_)
 exact kk.out):p:=h ⟨k⟩
class Kp0 (A:World→Prop):Prop where
 kp:∀w w',A w→Fr noB w w'→A w'
instance (g:Nat) (t:TypeId) (cs:Array Value):Kp0 fun w=>Bk w g t cs:=⟨fun _ _ h f=>h.keep f fun x=>x⟩
instance (S:Nat→Prop) (k:Nat) (A:Option Addr) (m:Nat) (xs:List Value):Kp0 fun w=>SlR w S k A m xs:=⟨fun _ _ h f=>h.keep (f.of_no S)⟩
instance (S:Nat→Prop) (w0:World):Kp0 fun w=>Fr S w0 w:=⟨fun _ _ h f=>h.none f⟩
instance (A B:World→Prop) [Kp0 A] [Kp0 B]:Kp0 fun w=>A w∧B w:=⟨fun _ _ h f=>⟨Kp0.kp _ _ h.1 f,Kp0.kp _ _ h.2 f⟩⟩
instance (p:Prop):Kp0 fun _=>p:=⟨fun _ _ h _=>h⟩
theorem An {a b:Prop} (h:a) (k:b):a∧b:=⟨h,k⟩
@[irreducible] def St0 (K:Act→World→Prop) (a:Act) (w:World):Prop:=K a w
theorem uZ (h:K a w):St0 K a w:=by unfold St0;exact h
theorem cZ (h:cw P x (Exit.then (St0 (cw P y Q)) Q) a w):cw P (.seq x y) Q a w:=cS (by
 rw[fC]at h⊢
 refine wp_mono h fun e a w hq=> ?_
 cases e with
 |normal=>have h2:St0 (cw P y Q) a w:=hq;unfold St0 at h2;exact h2
 |_=>exact hq)
def up:Nat→Nat→List Nat
 |0,_=>[]
 |m+1,k=>k::up m (k+1)
def kdO (opl:List Oper) (k:Nat):Nat:=match opl[k]? with
 |some o=>if isL o then 1 else if isV o then 0 else 2
 |none=>2
def plS (z k:Nat) (r:Pl):Pl:=match z with
 |0=> .p k r
 |1=> .q k r
 |_=> .e k r
def plJ:Pl→Pl→Pl
 | .e k x,.e k' y=> .e2 k x k' y
 |x,_=>x
def JL (x:Pl):List Pl→List Pl
 |[]=>[x]
 |y::s=>plJ x y::s
def plD (opl:List Oper) (k:Nat) (x:Pl) (s:List Pl):List Pl:=if k<1000 then plS (kdO opl k) k x::s else if k<2000 then .q (k-1000) x::s else if k=2000 then JL x s else if k=3000 then .nil::x::s else .e (k-4000) x::s
def plC (opl:List Oper) (k:Nat):List Pl→List Pl
 |[]=>[]
 |x::s=>plD opl k x s
def plT (opl:List Oper):List Nat→List Pl
 |[]=>[.nil]
 |k::r=>plC opl k (plT opl r)
theorem B9 (opl:List Oper):∀t,∃x s,plT opl t=x::s
 |[]=>⟨_,_,rfl⟩
 |k::r=>by
  obtain⟨x,s,h⟩:=B9 opl r
  rw[plT,h]
  show∃y s',plD opl k x s=y::s'
  unfold plD JL
  repeat' split
  all_goals exact⟨_,_,rfl⟩
def plK (opl:List Oper) (t:List Nat):Pl:=(plT opl t).headD .nil
@[irreducible] def wdr (P:Program) (opl:List Oper) (Q:Exit→Act→World→Prop) (S:World→Prop) (brk:List Nat) (c:Bool) (t:List Nat) (a:Act) (w:World):Prop:=eE P opl.toArray Q S brk c (plK opl t) a w
section
variable {S:World→Prop} {brk:List Nat} {k:Nat} {t:List Nat}
theorem aR {a:Act}:wdr P opl Q S brk c t a w=eE P opl.toArray Q S brk c (plK opl t) a w:=by unfold wdr;rfl
theorem dI {p:Prop} (hp:p) (brk t0:List Nat) (hS:p=S w:=by rfl) (hK:Kp0 S:=by infer_instance) (h:∀w1,S w1→Fr noB w w1→wdr P opl Q S brk true t a w1) (ht:t0=t:=by first|(simp only[up,Nat.reduceAdd,List.cons_append,List.nil_append];rfl)|rfl) (hQ:∀c a w (d:Option Tmp) v,Q (.panic c) (a.put d v) w→Q (.panic c) a w:=by intro c a w d v h;cases d<;>exact h) (hm:P.follows .mixedOrders=true:=by kernel_rfl) (hB:(Region.noSelect opl.toArray&&plB opl.toArray brk (plK opl t) opl.toArray.size (Array.replicate opl.toArray.size false))=true:=by kernel_rfl):cw P (.region id opl.toArray true) Q a w:=by
 have hf:=(Fr.refl noB w).drew
 rw[Bool.and_eq_true]at hB
 rw[fC]
 exact wp_region_any hm (mJ _ _ _ _ (qA hB.1 hQ _ _ _ true a _ hB.2 (mZ _) (qM _) (fun _=>hK.kp _ _ (hS▸hp) hf) (aR▸h _ (hK.kp _ _ (hS▸hp) hf) hf)))
theorem dE (h:Q .normal a w):wdr P opl Q S brk c [] a w:=by rw[aR];exact h
theorem plN {z:Nat} (hk:Nat.blt k 1000=true) (h0:kdO opl k=z):plK opl (k::t)=plS z k (plK opl t):=by
 subst h0;simp only[Nat.blt_eq]at hk;obtain⟨x,s,h⟩:=B9 opl t;unfold plK;rw[plT,h];show(plD opl k x s).headD .nil=_;unfold plD;rw[if_pos hk];rfl
theorem dF {tA tB:List Nat} {k':Nat} {x y:Pl} (hA:wdr P opl Q S brk c tA a w) (hB:wdr P opl Q S brk c tB a w) (hq:plK opl (2000::tA)= .e2 k x k' y:=by rfl) (ha:plK opl tA= .e k x:=by rfl) (hb:plK opl tB= .e k' y:=by rfl):wdr P opl Q S brk c (2000::tA) a w:=by
 rw[aR]at hA hB⊢;rw[ha]at hA;rw[hb]at hB;rw[hq];exact⟨hA,hB⟩
theorem dG (h:Q .normal a w):wdr P opl Q S brk c (3000::t) a w:=by obtain⟨x,s,e⟩:=B9 opl t;rw[aR];unfold plK;rw[plT,e];exact h
theorem dU {j:Nat} {r:Result Next} (h:wdr P opl Q S brk c t (F n u ((d,v)::l)) w) (hS:c=true→S w) (hq:plK opl (k::t)= .e j (plK opl t):=by rfl) (ho:opl[j]? =some o:=by rfl) (hw:Region.wanted o (yielded opl.toArray (F n u l).tmps)=true:=by first|exact aL rfl|exact wg rfl rfl rfl|(refine aM rfl (aI (Lib.hid rfl) rfl) ?_;go_simp<;>fail)) (hd:o.dst=some d:=by rfl)
 (hb:(c&& !(brk.contains j))=c:=by rfl) (hv:(execOp (F n u l).eval o).run P w=r:=by go_simp;((try with_reducible rfl);done)) (hr:r= .ok (.value v) w:=by rfl):wdr P opl Q S brk c (k::t) (F n u l) w:=by
 rw[aR,hq]
 have ho':opl.toArray[j]? =some o:=kA (Lib.hid rfl) ho
 cases hc:c with
 |true=>
  subst hc
  refine E9 ho' hw hb fun K hK=> ?_
  unfold Oper.wp
  rw[hv,hr]
  show K ((F n u l).put o.dst v) w
  rw[hd,eJ]
  refine hK _ _ (hS rfl) fun _=> ?_
  rw[←aR];exact h
 |false=>
  subst hc
  refine EA ho' hw hb fun K hK=> ?_
  unfold Oper.wp
  rw[hv,hr]
  show K ((F n u l).put o.dst v) w
  rw[hd,eJ]
  refine hK _ _ ?_
  rw[←aR];exact h
theorem bY (ho:opl[k]? =some o):opl.toArray[k]? =some o:=kA (Lib.hid rfl) ho
theorem dV (hk:Nat.blt k 1000=true:=by rfl) (h0:kdO opl k=0:=by rfl) (ho:opl[k]? =some o:=by rfl) (hw:Region.wanted o (yielded opl.toArray (F n u l).tmps)=true:=by first|exact aL rfl|exact wg rfl rfl rfl|(refine aM rfl (aI (Lib.hid rfl) rfl) ?_;go_simp<;>fail)) (hd:o.dst=some d:=by rfl) (hv:∀w,(execOp (F n u l).eval o).run P w= .ok (.value v) w:=by intro w';go_simp;((try with_reducible rfl);done)) (h:wdr P opl Q S brk c t (F n u ((d,v)::l)) w):wdr P opl Q S brk c (k::t) (F n u l) w:=by
 rw[aR]at h⊢;rw[plN hk h0];exact Gz (bY ho) hw v hv (by rw[hd,eJ];exact h)
theorem dm {x:Operand} (hk:Nat.blt k 1000=true:=by rfl) (h0:kdO opl k=0:=by rfl) (ho:opl[k]? =some o:=by rfl) (hm:mvO o=some x:=by rfl) (hx:ov n l x=some v:=by rfl) (hw:Region.wanted o (yielded opl.toArray (F n u l).tmps)=true:=by first|exact aL rfl|exact wg rfl rfl rfl|(refine aM rfl (aI (Lib.hid rfl) rfl) ?_;go_simp<;>fail)) (hd:o.dst=some d:=by rfl) (h:wdr P opl Q S brk c t (F n u ((d,v)::l)) w):wdr P opl Q S brk c (k::t) (F n u l) w:=by
 rw[aR]at h⊢;rw[plN hk h0];exact Gz (bY ho) hw v (ET hm hx) (by rw[hd,eJ];exact h)
theorem dc {x:Operand} {a:Addr} (hk:Nat.blt k 1000=true:=by rfl) (h0:kdO opl k=0:=by rfl) (ho:opl[k]? =some o:=by rfl) (hm:o.op= .nilCheck x:=by rfl) (hx:ov n l x=some (.pointer (some a)):=by rfl) (hw:Region.wanted o (yielded opl.toArray (F n u l).tmps)=true:=by first|exact aL rfl|exact wg rfl rfl rfl|(refine aM rfl (aI (Lib.hid rfl) rfl) ?_;go_simp<;>fail)) (hd:o.dst=some d:=by rfl) (h:wdr P opl Q S brk c t (F n u ((d,.pointer (some a))::l)) w):wdr P opl Q S brk c (k::t) (F n u l) w:=by
 rw[aR]at h⊢;rw[plN hk h0];exact Gz (bY ho) hw _ (EZ hm hx) (by rw[hd,eJ];exact h)
theorem dN (hk:Nat.blt k 1000=true:=by rfl) (h0:Nat.ble (kdO opl k) 1=true:=by rfl) (ho:opl[k]? =some o:=by rfl) (hw:Region.wanted o (yielded opl.toArray (F n u l).tmps)=false:=by first|exact wn rfl rfl rfl|(refine mQ rfl (aI (Lib.hid rfl) rfl) ?_;go_simp<;>fail)|(refine xX rfl (aI (Lib.hid rfl) rfl) ?_;go_simp<;>fail)) (hd:o.dst=some d:=by rfl) (h:wdr P opl Q S brk c t (F n u ((d,undef)::l)) w):wdr P opl Q S brk c (k::t) (F n u l) w:=by
 rw[aR]at h⊢
 simp only[Nat.ble_eq]at h0
 rcases Nat.le_one_iff_eq_zero_or_eq_one.1 h0 with h1|h1
 ·rw[plN hk h1];exact BG (bY ho) hw (by rw[hd,eJ];exact h)
 ·rw[plN hk h1];exact BW (bY ho) hw (by rw[hd,eJ];exact h)
theorem dX (hk:Nat.blt k 1000=true:=by rfl) (h0:kdO opl k=2:=by rfl) (ho:opl[k]? =some o:=by rfl) (hw:Region.wanted o (yielded opl.toArray (F n u l).tmps)=false:=by first|exact wn rfl rfl rfl|(refine mQ rfl (aI (Lib.hid rfl) rfl) ?_;go_simp<;>fail)|(refine xX rfl (aI (Lib.hid rfl) rfl) ?_;go_simp<;>fail)) (hb:(c&& !(brk.contains k))=c:=by rfl) (hS:c=true→S w:=by intro _;first|assumption|((repeat' refine And.intro ?_ ?_)<;>assumption)) (hd:o.dst=some d:=by rfl) (h:wdr P opl Q S brk c t (F n u ((d,undef)::l)) w):wdr P opl Q S brk c (k::t) (F n u l) w:=by
 rw[aR]at h⊢;rw[plN hk h0]
 exact Fq (bY ho) hw hb hS (by rw[hd,eJ];exact h)
theorem dL {v0:Value} {ty':TypeId} {p:Operand} {g i:Nat} {ty:TypeId} {cs:Array Value} (hk:Nat.blt k 1000=true:=by rfl) (h0:kdO opl k=1:=by rfl) (ho:opl[k]? =some o:=by rfl) (hop:o.op= .load ty' p:=by rfl) (hw:Region.wanted o (yielded opl.toArray (F n u l).tmps)=true:=by first|exact aL rfl|exact wg rfl rfl rfl|(refine aM rfl (aI (Lib.hid rfl) rfl) ?_;go_simp<;>fail)) (hd:o.dst=some d:=by rfl)
 (hp:(F n u l).eval p=v0:=by go_simp;((try with_reducible rfl);done)) (hp':v0= .pointer (some ⟨g,i,none⟩):=by rfl)
 (hB:∀w,S w→Bk w g ty cs:=by intro w' hS;(repeat refine And.elim (fun _ hS=> ?_) hS);first|assumption|exact aC.bk (by assumption)|exact aA.bk (by assumption)|exact AY.bk (by assumption))
 (hv:∀w,(∀j,w.cell? ⟨g,j,none⟩=cs[j]?)→(execOp (F n u l).eval o).run P w= .ok (.value v) w:=by intro w' _;go_simp;((try with_reducible rfl);done)) (h:wdr P opl Q S brk c t (F n u ((d,v)::l)) w):wdr P opl Q S brk c (k::t) (F n u l) w:=by
 rw[aR]at h⊢;rw[plN hk h0];exact Iv (bY ho) hw v (fun w hS=>hv w (hB w hS).cells) (by rw[hd,eJ];exact h)
theorem dQ (hv:∀w,S w→(execOp (F n u l).eval o).run P w= .ok (.value v) w) (h:wdr P opl Q S brk c t (F n u ((d,v)::l)) w) (hq:plK opl (k::t)= .q j (plK opl t):=by rfl) (ho:opl[j]? =some o:=by rfl) (hw:Region.wanted o (yielded opl.toArray (F n u l).tmps)=true:=by first|exact aL rfl|exact wg rfl rfl rfl|(refine aM rfl (aI (Lib.hid rfl) rfl) ?_;go_simp<;>fail)) (hd:o.dst=some d:=by rfl):wdr P opl Q S brk c (k::t) (F n u l) w:=by
 rw[aR]at h⊢;rw[hq];exact Iv (bY ho) hw v hv (by rw[hd,eJ];exact h)
theorem dC {r:Result Next} {f:FuncId} {xs:Array Value} {R:Ending→World→Prop} {Φ:World→Prop} (hc:Calls P f xs w R) (hS:∀w',Φ w'→S w') (h:∀w',Φ w'→S w'→wdr P opl Q S brk true t (F n u ((d,v)::l)) w') (hk:Nat.blt k 1000=true:=by rfl) (h0:kdO opl k=2:=by rfl) (ho:opl[k]? =some o:=by rfl) (hw:Region.wanted o (yielded opl.toArray (F n u l).tmps)=true:=by first|exact aL rfl|exact wg rfl rfl rfl|(refine aM rfl (aI (Lib.hid rfl) rfl) ?_;go_simp<;>fail)) (hd:o.dst=some d:=by rfl)
 (hb:(c&& !(brk.contains k))=true:=by rfl) (hR:∀e w',R e w'→e= .returned v∧Φ w':=by exact fun _ _ h=>h) (hv:(execOp (F n u l).eval o).run P w=r:=by go_simp;((try with_reducible rfl);done)) (hr:r= .ok (.enter f xs) w:=by rfl):wdr P opl Q S brk c (k::t) (F n u l) w:=by
 rw[aR,plN hk h0]
 refine E9 (bY ho) hw hb fun K hK=> ?_
 unfold Oper.wp
 rw[hv,hr]
 refine hc.mono fun e w' hr'=> ?_
 obtain⟨rfl,hφ⟩:=hR e w' hr'
 show K ((F n u l).put o.dst v) w'
 rw[hd,eJ]
 refine hK _ _ (hS _ hφ) fun hs=> ?_
 rw[←aR];exact h w' hφ hs
theorem dD {r:Result Next} {f:FuncId} {xs:Array Value} {R:Ending→World→Prop} {Φ:World→Prop} (hc:Calls P f xs w R) (h:∀w',Φ w'→wdr P opl Q S brk false t (F n u ((d,v)::l)) w') (hk:Nat.blt k 1000=true:=by rfl) (h0:kdO opl k=2:=by rfl) (ho:opl[k]? =some o:=by rfl) (hw:Region.wanted o (yielded opl.toArray (F n u l).tmps)=true:=by first|exact aL rfl|exact wg rfl rfl rfl|(refine aM rfl (aI (Lib.hid rfl) rfl) ?_;go_simp<;>fail)) (hd:o.dst=some d:=by rfl)
 (hb:(c&& !(brk.contains k))=false:=by rfl) (hR:∀e w',R e w'→e= .returned v∧Φ w':=by exact fun _ _ h=>h) (hv:(execOp (F n u l).eval o).run P w=r:=by go_simp;((try with_reducible rfl);done)) (hr:r= .ok (.enter f xs) w:=by rfl):wdr P opl Q S brk c (k::t) (F n u l) w:=by
 rw[aR,plN hk h0]
 refine EA (bY ho) hw hb fun K hK=> ?_
 unfold Oper.wp
 rw[hv,hr]
 refine hc.mono fun e w' hr'=> ?_
 obtain⟨rfl,hφ⟩:=hR e w' hr'
 show K ((F n u l).put o.dst v) w'
 rw[hd,eJ]
 refine hK _ _ ?_
 rw[←aR];exact h w' hφ
theorem dY {r:Result Next} {f:FuncId} {xs:Array Value} {R:Ending→World→Prop} (hc:Calls P f xs w R) (h:∀e w',R e w'→∃v,e= .returned v∧S w'∧wdr P opl Q S brk true t (F n u ((d,v)::l)) w') (hk:Nat.blt k 1000=true:=by rfl) (h0:kdO opl k=2:=by rfl) (ho:opl[k]? =some o:=by rfl) (hw:Region.wanted o (yielded opl.toArray (F n u l).tmps)=true:=by first|exact aL rfl|exact wg rfl rfl rfl|(refine aM rfl (aI (Lib.hid rfl) rfl) ?_;go_simp<;>fail)) (hd:o.dst=some d:=by rfl)
 (hb:(c&& !(brk.contains k))=true:=by rfl) (hv:(execOp (F n u l).eval o).run P w=r:=by go_simp;((try with_reducible rfl);done)) (hr:r= .ok (.enter f xs) w:=by rfl):wdr P opl Q S brk c (k::t) (F n u l) w:=by
 rw[aR,plN hk h0]
 refine E9 (bY ho) hw hb fun K hK=> ?_
 unfold Oper.wp
 rw[hv,hr]
 refine hc.mono fun e w' hr'=> ?_
 obtain⟨v,rfl,hs,hφ⟩:=h e w' hr'
 show K ((F n u l).put o.dst v) w'
 rw[hd,eJ]
 refine hK _ _ hs fun _=> ?_
 rw[←aR];exact hφ
theorem dW {r:Result Next} {w2:World} (h:wdr P opl Q S brk false t (F n u ((d,v)::l)) w2) (hk:Nat.blt k 1000=true:=by rfl) (h0:kdO opl k=2:=by rfl) (ho:opl[k]? =some o:=by rfl) (hw:Region.wanted o (yielded opl.toArray (F n u l).tmps)=true:=by first|exact aL rfl|exact wg rfl rfl rfl|(refine aM rfl (aI (Lib.hid rfl) rfl) ?_;go_simp<;>fail)) (hd:o.dst=some d:=by rfl)
 (hb:(c&& !(brk.contains k))=false:=by rfl) (hv:(execOp (F n u l).eval o).run P w=r:=by go_simp;((try with_reducible rfl);done)) (hr:r= .ok (.value v) w2:=by rfl):wdr P opl Q S brk c (k::t) (F n u l) w:=by
 rw[aR,plN hk h0]
 refine EA (bY ho) hw hb fun K hK=> ?_
 unfold Oper.wp
 rw[hv,hr]
 show K ((F n u l).put o.dst v) w2
 rw[hd,eJ]
 refine hK _ _ ?_
 rw[←aR];exact h
theorem dA {r:Result Next} {cs:Array Value} {ty:TypeId} (h:∀w2,Bk w2 w.heap.size ty cs→Fr noB w w2→wdr P opl Q S brk false t (F n u ((d,v)::l)) w2) (hk:Nat.blt k 1000=true:=by rfl) (h0:kdO opl k=2:=by rfl) (ho:opl[k]? =some o:=by rfl) (hw:Region.wanted o (yielded opl.toArray (F n u l).tmps)=true:=by first|exact aL rfl|exact wg rfl rfl rfl|(refine aM rfl (aI (Lib.hid rfl) rfl) ?_;go_simp<;>fail)) (hd:o.dst=some d:=by rfl)
 (hb:(c&& !(brk.contains k))=false:=by rfl) (hv:(execOp (F n u l).eval o).run P w=r:=by go_simp;((try with_reducible rfl);done)) (hr:r= .ok (.value v) (w.alloc (.cells cs ty)):=by rfl):wdr P opl Q S brk c (k::t) (F n u l) w:=
 dW (h _ (Bk.new _ _ _) ((Fr.refl _ _).alloc _)) hk h0 ho hw hd hb hv hr
theorem dS {r:Result Next} {w2:World} (h:wdr P opl Q S brk false t (F n u l) w2) (hk:Nat.blt k 1000=true:=by rfl) (h0:kdO opl k=2:=by rfl) (ho:opl[k]? =some o:=by rfl) (hw:Region.wanted o (yielded opl.toArray (F n u l).tmps)=true:=by first|exact aL rfl|exact wg rfl rfl rfl|(refine aM rfl (aI (Lib.hid rfl) rfl) ?_;go_simp<;>fail)) (hd:o.dst=none:=by rfl)
 (hb:(c&& !(brk.contains k))=false:=by rfl) (hv:(execOp (F n u l).eval o).run P w=r:=by go_simp;((try with_reducible rfl);done)) (hr:r= .ok .skip w2:=by rfl):wdr P opl Q S brk c (k::t) (F n u l) w:=by
 rw[aR,plN hk h0]
 refine EA (bY ho) hw hb fun K hK=> ?_
 unfold Oper.wp
 rw[hv,hr]
 show K ((F n u l).put o.dst undef) w2
 rw[hd]
 refine hK _ _ ?_
 rw[←aR];exact h
theorem D {X p:Prop} (k:X) (h:Hx X→p:=by
 intro kk
 repeat(first|refine dE ?_|refine dG ?_|refine dm (h:= ?_)|refine dc (h:= ?_)|refine dV (h:= ?_)|refine dL (h:= ?_)|refine dN (h:= ?_)|refine dX (h:= ?_))
 exact kk.out):p:=h ⟨k⟩
end
def sel (u:Nat→Value) (l:List (Nat×Value)):List Nat→List (Nat×Value)
 |[]=>[]
 |k::r=>(k,gx u l k)::sel u l r
theorem C4 (u:Nat→Value) (l:List (Nat×Value)):∀(ks:List Nat) (k:Nat),gx (gx u l) (sel u l ks) k=gx u l k
 |[],_=>rfl
 |j::r,k=>by
  unfold sel;rw[iU]
  by_cases h:j=k
  ·rw[if_pos h,h]
  ·rw[if_neg h];exact C4 u l r k
theorem pg (ks:List Nat) (h:∀u',cw P x Q (F n u' l') w) (hl:sel u l ks=l':=by simp only[sel,iU,E7,reduceIte,Nat.reduceEqDiff];rfl):cw P x Q (F n u l) w:=by
 have:F n u l=F n (gx u l) l':=by rw[AE,AE];exact oI fun k _=>by rw[←hl,C4]
 rw[this];exact h _
theorem JS {l':List (Nat×Value)} (h:∀x∈l',gx u l x.1=x.2):∃u',F n u l=F n u' l':=by
 refine⟨gx u l,?_⟩
 rw[AE,AE]
 refine oI fun k _=> ?_
 induction l' with
 |nil=>rfl
 |cons x r ih=>
  show _=if x.1=k then x.2 else gx (gx u l) r k
  by_cases hk:x.1=k
  ·rw[if_pos hk,←hk];exact h x (.head _)
  ·rw[if_neg hk];exact ih fun y hy=>h y (.tail _ hy)
theorem mt {l':List (Nat×Value)} {p:Prop} (hp:p) (h:∀x∈l',gx u l x.1=x.2:=by(repeat' (first|exact List.forall_mem_nil _|refine List.forall_mem_cons.2 ⟨?_,?_⟩));all_goals first|rfl|(go_simp<;>fail)):(∃u',F n u l=F n u' l')∧p:=⟨JS h,hp⟩
theorem cM {l':List (Nat×Value)} (ks:List Nat) (nw:List (Nat×Value)) (Φ:World→Prop) (h1:cw P x (Exit.then (fun a w'=>(∃u',a=F n u' l')∧Φ w') Q) (F n u l) w) (h2:∀u' w',Φ w'→K (F n u' l') w') (hl:nw++sel u l ks=l':=by simp only[List.cons_append,List.nil_append,sel,iU,E7,reduceIte,Nat.reduceEqDiff];rfl):cw P x (Exit.then K Q) (F n u l) w:=by
 rw[fC]at h1⊢
 refine wp_mono h1 fun e a w hq=> ?_
 cases e with
 |normal=>obtain⟨⟨u',rfl⟩,hφ⟩:=hq;exact h2 u' w hφ
 |_=>exact hq
theorem Ih {p:Nat→Prop}:∀N,p N→∃N,p N∧∀M,p M→N≤M:=by
 intro N
 induction N using Nat.strongRecOn with
 |_ N ih=>
  intro h
  by_cases hx:∃M,M<N∧p M
  ·obtain⟨M,h1,h2⟩:=hx;exact ih M h1 h2
  ·exact⟨N,h,fun M hM=>Nat.le_of_not_lt fun hl=>hx ⟨M,hl,hM⟩⟩
theorem cL {α:Type} (m:α→Nat) (ls:α→List (Nat×Value)) (I:α→World→Prop) (i:α) (hi:∃u0,F n u l=F n u0 (ls i)) (h0:I i w)
 (round:∀i u w,I i w→cw P x (Exit.then (fun a' w'=>∃i',(∃u',a'=F n u' (ls i'))∧I i' w'∧m i'<m i) Q) (F n u (ls i)) w):cw P (.loop x) Q (F n u l) w:=by
 obtain⟨u0,hu⟩:=hi
 rw[hu,fC]
 let p:Act→World→Nat→Prop:=fun a w N=>∃i u,a=F n u (ls i)∧I i w∧m i=N
 have hl:∀a w,∃N,(∃M,p a w M)→p a w N∧∀M,p a w M→N≤M:=fun a w=>by
  by_cases h:∃M,p a w M
  ·obtain⟨M,hM⟩:=h;obtain⟨N,h1⟩:=Ih M hM;exact⟨N,fun _=>h1⟩
  ·exact⟨0,fun x=>absurd x h⟩
 refine wp_loop (fun a w=>∃M,p a w M) (fun a w=>Classical.choose (hl a w)) ⟨_,i,u0,rfl,h0,rfl⟩ ?_
 intro a w ha
 obtain⟨⟨i,u,e1,e2,e3⟩,_⟩:=Classical.choose_spec (hl a w) ha
 have hr:=round i u w e2
 rw[fC,←e1]at hr
 refine wp_mono hr fun e a' w' hq=> ?_
 cases e with
 |normal=>
  obtain⟨i',⟨u',q1⟩,q2,q3⟩:=hq
  have hp:p a' w' (m i'):=⟨i',u',q1,q2,rfl⟩
  refine⟨⟨_,hp⟩,?_⟩
  have:=(Classical.choose_spec (hl a' w') ⟨_,hp⟩).2 _ hp
  exact Nat.lt_of_le_of_lt this (Nat.lt_of_lt_of_eq q3 e3)
 |_=>exact hq
end
theorem en {P:Program} {f:FuncId} {fn:Func} {n:Nat} {c:Code} {xs:List Value} {w:World} {R:Ending→World→Prop} {l:List (Nat×Value)}
 (hf:P.funcs[f]? =some fn) (hn:fn.ntmps=n) (h:cw P c (bodyPost P fn R) (F n unF l) w) (hb:fn.body=some c:=by rfl) (hl:idx 0 xs=l:=by simp only[idx,Nat.reduceAdd];rfl) (hx:Nat.ble xs.length n=true:=by rfl):Calls P f xs.toArray w R:=by
 rw[fC]at h
 exact ent hf hb hn hl hx h
end Go.Proofs.YtcllkmllflheiaaGreatDoor
