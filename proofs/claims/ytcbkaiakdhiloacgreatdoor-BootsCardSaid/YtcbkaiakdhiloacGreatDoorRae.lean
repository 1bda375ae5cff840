/- Parts of the walk; written by programs, merged. -/
import Derived.Test.YtcbkaiakdhiloacGreatDoorRad
import Derived.Deep.QuietTactic
import Derived.BigQuiet
set_option linter.unusedSimpArgs false
set_option linter.unusedVariables false
set_option maxRecDepth 20000
set_option maxHeartbeats 8000000
namespace Go.Proofs.YtcbkaiakdhiloacGreatDoor
open Go.RowKit Go.Proofs
def HV (l:List (List UInt8)):List Value:=l.map fun p=> .string (bs p)
theorem AF (l:List (List UInt8)):(HV l).length=l.length:=by simp[HV]
theorem HC (l:List (List UInt8)) (k:Nat) (hk:k<l.length):(HV l)[k]? =some (.string (bs l[k])):=by simp[HV,hk]
def HN (st:Bool×Nat) (o s:Value):Prop:=o= .bool st.1∧s= .int .u32 (st.2:Int)
theorem Jo {a b:Int} (h:a=b):Ending.returned (.int .u16 a)= .returned (.int .u16 b):=by rw[h]
theorem Fe (y:Nat) (hy:y<200000):(bits .and .u32 (y:Int) 65535+(y:Int)/65536)%4294967296=((y%65536+y/65536:Nat):Int):=by
 have h:=u32_and_nat y 65535 (by omega) (by omega)
 rw[nat_mask16]at h
 rw[show(65535:Int)=((65535:Nat):Int)from rfl,h];omega
theorem FZ (s:Nat) (b:UInt8) (hs:s≤65535):HN (iG (false,s) b) (.bool true)
 (.int .u32 ((bits .and .u32 (((s:Int)+(b.toNat:Int)%4294967296*256)%4294967296) 65535+((s:Int)+(b.toNat:Int)%4294967296*256)%4294967296/65536)%4294967296)):=by
 have hb:=b.toNat_lt
 have e:((s:Int)+(b.toNat:Int)%4294967296*256)%4294967296=((s+b.toNat*256:Nat):Int):=by omega
 rw[e,Fe _ (by omega)]
 exact⟨rfl,by simp[iG]⟩
theorem IR (s:Nat) (b:UInt8) (hs:s≤65535):HN (iG (true,s) b) (.bool false)
 (.int .u32 ((bits .and .u32 (((s:Int)+(b.toNat:Int))%4294967296) 65535+((s:Int)+(b.toNat:Int))%4294967296/65536)%4294967296)):=by
 have hb:=b.toNat_lt
 have e:((s:Int)+(b.toNat:Int))%4294967296=((s+b.toNat:Nat):Int):=by omega
 rw[e,Fe _ (by omega)]
 exact⟨rfl,by simp[iG]⟩
theorem JS (l:List UInt8):bits .xor .u16 IntKind.u16.max (IntKind.u16.wrap ((ck l).2:Int))=(eV l:Int):=by
 have h:=K3 l
 rw[IntKind.wrap_u16,show IntKind.u16.max=((65535:Nat):Int)from rfl,show((ck l).2:Int)%65536=(((ck l).2:Nat):Int) by omega,u16_xor_nat _ _ (by omega) (by omega),EJ _ (by omega),GF]
theorem jJ (A:Option Addr) (n c:Nat) (ps:List (List UInt8)) (w:World) (S:Nat→Prop) (hr:SlR w S 1 A n (HV ps)) (hn:n≤9223372036854775807) (hz:∀p∈ps,p.length≤9223372036854775807):
 Calls Tryz.prog 92 #[.slice A n c] w fun e w'=>e= .returned (.int .u16 (eV ps.flatten))∧w=w':=by
 have hlen:ps.length=n:=by have:=hr.1;rw[AF]at this;omega
 go_enter Tryz.func92,Tryz.ntmps92
 go_wp2_with fail
 go_loop [3,4,11] (fun s o i=>∃k:Nat,k≤n∧i= .int .i64 k∧HN (ck (ps.take k).flatten) o s) (fun _ _ i=>n-(intOf i).toNat)
 case atStart=>exact⟨0,Nat.zero_le _,rfl,rfl,rfl⟩
 case round=>
  obtain⟨k,hk,rfl,rfl,rfl⟩:=hrel
  by_cases hlt:k<n
  ·obtain⟨ad,u,rfl,hu,hc⟩:=hr.at_ hlt
   rw[HC ps k (by omega)]at hu
   have hp:ps[k].length≤9223372036854775807:=hz _ (List.getElem_mem _)
   injection hu with hu
   subst hu
   have hp0:((ps.take k).flatten++ps[k].take 0)=(ps.take k).flatten:=by simp
   generalize hpk:ps[k]=p at*
   have Hpk:=Lib.hid hpk
   clear hpk
   generalize hpre:(ps.take k).flatten=pre at*
   have Hpre:=Lib.hid hpre
   have Hp0:=Lib.hid hp0
   clear hpre hp0
   have hbz:=aG p
   go_wp2_with fail
   go_loop [3,4,17] (fun s o i=>∃j:Nat,j≤p.length∧i= .int .i64 j∧HN (ck (pre++p.take j)) o s) (fun _ _ i=>p.length-(intOf i).toNat)
   case atStart=>exact⟨0,Nat.zero_le _,rfl,by rw[Hp0.out];exact⟨rfl,rfl⟩⟩
   case round=>
    obtain⟨j,hj,rfl,rfl,rfl⟩:=hrel
    by_cases hlj:j<p.length
    ·have hck:=K3 (pre++p.take j)
     have hsn:ck (pre++p.take (j+1))=iG (ck (pre++p.take j)) p[j]:=by
      rw[List.take_succ_eq_append_getElem hlj,←List.append_assoc,IU]
     have Hsn:=Lib.hid hsn
     clear hsn
     generalize hst:ck (pre++p.take j)=st at*
     have Hst:=Lib.hid hst
     clear hst
     obtain⟨o,s⟩:=st
     cases o
     ·go_wp2_with fail
      go_round
      case rel=>exact⟨j+1,by omega,by go_num,by rw[Hsn.out,jZ];exact FZ s _ hck⟩
      case measure=>simp[intOf];omega
     ·go_wp2_with fail
      go_round
      case rel=>exact⟨j+1,by omega,by go_num,by rw[Hsn.out,jZ];exact IR s _ hck⟩
      case measure=>simp[intOf];omega
    ·go_wp2_with fail
     obtain rfl:j=p.length:=by omega
     refine⟨⟨k+1,by omega,by go_num,?_⟩,by simp[intOf];omega⟩
     have e:(ps.take (k+1)).flatten=pre++p.take p.length:=by
      rw[List.take_succ_eq_append_getElem (by omega),List.flatten_append,Hpre.out,Hpk.out];simp
     rw[e];exact⟨rfl,rfl⟩
  ·go_wp2_with fail
   go_ret
   obtain rfl:k=n:=by omega
   refine⟨Jo ?_,rfl⟩
   rw[JS,List.take_of_length_le (by omega)]
end Go.Proofs.YtcbkaiakdhiloacGreatDoor
namespace Go.Proofs.YtcbkaiakdhiloacGreatDoor
open Go.RowKit Go.Proofs
attribute [local go_sem] aG aD gK aE
def ED (id:Nat) (ttl pr:UInt8) (n:Nat):List UInt8:=[69,0]++big 2 (20+n)++big 2 id++[64,0]++[ttl,pr]
def Gp (fi ti:Nat):List UInt8:=big 4 fi++big 4 ti
def fC (id:Nat) (ttl pr:UInt8) (fi ti n sum:Nat):List UInt8:=ED id ttl pr n++big 2 sum++Gp fi ti
def fG (id:Nat) (ttl pr:UInt8) (fi ti:Nat) (ld:List UInt8):List UInt8:=fC id ttl pr fi ti ld.length (eV (fC id ttl pr fi ti ld.length 0))++ld
def vC (id:Nat) (ttl pr:UInt8) (fi ti:Nat) (ld:List UInt8):List UInt8×Nat:=if ttl.toNat=0 then([],2)else if 1480<ld.length then([],7)else(fG id ttl pr fi ti ld,0)
theorem eZ (id:Nat) (ttl pr:UInt8) (fi ti n sum:Nat):(fC id ttl pr fi ti n sum).length=20:=by simp[fC,ED,Gp,aB]
theorem Ko (id:Nat) (ttl pr:UInt8) (fi ti n sum:Nat):([]++[69,0]++bQ 2 [20+(n:Int),(id:Int),16384]++[ttl,pr]++bQ 2 [(sum:Int)]++bQ 4 [(fi:Int),(ti:Int)])=fC id ttl pr fi ti n sum:=by
 have e:bQ 2 [20+(n:Int),(id:Int),16384]=big 2 (20+n)++big 2 id++[64,0]:=by
  have e1:(20+(n:Int)).toNat=20+n:=by omega
  have e2:big 2 (Int.toNat 16384)=[64,0]:=by decide
  simp only[bQ,List.flatMap_cons,List.flatMap_nil,List.append_nil,e1,e2,Int.toNat_natCast,List.append_assoc]
 rw[e]
 simp[fC,ED,Gp,bQ]
theorem GH (id fi ti:Nat) (ttl pr:UInt8) (ld:List UInt8) (sum q:Nat) (w:World) (hid:id<65536) (hfi:fi<4294967296) (hti:ti<4294967296) (hsum:sum<65536) (hld:ld.length≤1480) (hq:Bk w q 53 #[.int .u16 (id:Int),.int .u8 (ttl.toNat:Int),.int .u8 (pr.toNat:Int),.int .u32 (fi:Int),.int .u32 (ti:Int),.string (bs ld)]):
 Calls Tryz.prog 251 #[.int .u16 (sum:Int),.pointer (some ⟨q,0,none⟩)] w (fun e w'=>e= .returned (.string (bs (fC id ttl pr fi ti ld.length sum)))∧Fr noB w w'):=by
 have hql:=hq.lt
 have hpa:=hq.alloc (.cells #[.slice none 0 0] 226)
 have hbw:=Bk.new w 226 #[.slice none 0 0]
 have hf0:Fr noB w (w.alloc (.cells #[.slice none 0 0] 226)):=(Fr.refl _ _).alloc _
 have hsz:(w.alloc (.cells #[.slice none 0 0] 226)).heap.size=w.heap.size+1:=by simp
 go_enter Tryz.func251,Tryz.ntmps251
 go_upto_region 2 with fail
 generalize w.alloc (.cells #[.slice none 0 0] 226)=w1 at*
 have hwr0:=Wr.zero hbw
 have e6:IntKind.i64.wrap (20+(ld.length:Int))=20+ld.length:=IntWalk.i64_in _ (by omega)
 have e7:IntKind.u16.wrap (20+(ld.length:Int))=20+ld.length:=by rw[IntKind.wrap_u16];omega
 have e7':(20+(ld.length:Int))%65536=20+ld.length:=by omega
 have hN:=xX (l0:=([]:List UInt8)) (fs:=[(· ++[69,0]),(· ++bQ 2 [(20+(ld.length:Int)),(id:Int),16384]),(· ++[ttl,pr]),(· ++bQ 2 [(sum:Int)]),(· ++bQ 4 [(fi:Int),(ti:Int)])]) (by simp) 1000000 (by intro f hf l;simp at hf;rcases hf with rfl|rfl|rfl|rfl|rfl<;>simp[aU,dO,aB]<;>omega) (by simp)
 refine gG (n:=35) (w1:=w1) (p:=w.heap.size) (lst:=jT ([]:List UInt8) _) (ats:=[2,11,17,20,26]) (kn:=[(4,.pointer (some ⟨w.heap.size,0,none⟩)),(1,pt q),(0,.int .u16 (sum:Int))]) (ex:=[]) (sp:=[(7,.v (.pointer (some ⟨w.heap.size,0,none⟩))),(8,.m 2 5 #[.int .u8 69,.int .u8 0]),(9,.w 0),(10,.v (.pointer (some ⟨q,5,none⟩))),(11,.v (.string (bs ld))),(12,.v (.int .i64 (ld.length:Int))),(13,.v (.int .i64 (20+(ld.length:Int)))),(14,.v (.int .u16 (20+(ld.length:Int)))),(15,.v (pt q)),(16,.v (.int .u16 (id:Int))),(17,.m 3 47 #[.int .u16 (20+(ld.length:Int)),.int .u16 (id:Int),.int .u16 16384]),(18,.w 1),(19,.v (.pointer (some ⟨q,1,none⟩))),(20,.v (.int .u8 (ttl.toNat:Int))),(21,.v (.pointer (some ⟨q,2,none⟩))),(22,.v (.int .u8 (pr.toNat:Int))),(23,.m 2 5 #[.int .u8 (ttl.toNat:Int),.int .u8 (pr.toNat:Int)]),(24,.w 2),(25,.v (.int .u16 (sum:Int))),(26,.m 1 47 #[.int .u16 (sum:Int)]),(27,.w 3),(28,.v (.pointer (some ⟨q,3,none⟩))),(29,.v (.int .u32 (fi:Int))),(30,.v (.pointer (some ⟨q,4,none⟩))),(31,.v (.int .u32 (ti:Int))),(32,.m 2 38 #[.int .u32 (fi:Int),.int .u32 (ti:Int)]),(33,.w 4),(34,.s 5),(3,.v (.string (bs (jT ([]:List UInt8) [(· ++[69,0]),(· ++bQ 2 [(20+(ld.length:Int)),(id:Int),16384]),(· ++[ttl,pr]),(· ++bQ 2 [(sum:Int)]),(· ++bQ 4 [(fi:Int),(ti:Int)])] 5))))]) ⟨rfl,rfl⟩ (Chn.start0 hwr0 rfl) .nil (by simp[sl])
  (okv []<|okm []<|oka 1 [0] rfl (fun _ _ _ c s=>s.U8 c (hN 0) [69,0])<|okv []<|okl [3] (fun _ _ _ c x=>((hpa).keep c.fr (by unfold aI;have:=c.lt;omega)).cells)<|okv [4]<|okv [5]<|okv [6]<|okv []<|okl [8] (fun _ _ _ c x=>((hpa).keep c.fr (by unfold aI;have:=c.lt;omega)).cells)<|okm [7,9]<|oka 10 [2] rfl (fun _ _ _ c s=>s.U16 c (hN 1) [(20+(ld.length:Int)),(id:Int),16384])<|okv []<|okl [12] (fun _ _ _ c x=>((hpa).keep c.fr (by unfold aI;have:=c.lt;omega)).cells)<|okv []<|okl [14] (fun _ _ _ c x=>((hpa).keep c.fr (by unfold aI;have:=c.lt;omega)).cells)<|okm [13,15]<|oka 16 [11] rfl (fun _ _ _ c s=>s.U8 c (hN 2) [ttl,pr])<|okv []<|okm [18]<|oka 19 [17] rfl (fun _ _ _ c s=>s.U16 c (hN 3) [(sum:Int)])<|okv []<|okl [21] (fun _ _ _ c x=>((hpa).keep c.fr (by unfold aI;have:=c.lt;omega)).cells)<|okv []<|okl [23] (fun _ _ _ c x=>((hpa).keep c.fr (by unfold aI;have:=c.lt;omega)).cells)<|okm [22,24]<|oka 25 [20] rfl (fun _ _ _ c s=>s.IP c (hN 4) [(fi:Int),(ti:Int)])<|oks [26] (fun _ _ c=>iN _ _ _ _ c.wr)<|okv [27]<|okn) ?_ (by kernel_rfl) (by kernel_rfl) (by kernel_rfl) (by kernel_rfl)
 intro a' w3 A' hs' hk' hv' hch _
 rw[Kp.eq_put (n:=35) [7,8,9,10,11,12,13,14,15,16,17,18,19,20,21,22,23,24,25,26,27,28,29,30,31,32,33,34,3] ⟨rfl,rfl⟩ hs' (Kp.kx hk':Kp (kx 35 [7,8,9,10,11,12,13,14,15,16,17,18,19,20,21,22,23,24,25,26,27,28,29,30,31,32,33,34,3]) _ _) rfl rfl]
 simp only[List.foldl,Act.put,List.setIfInBounds_toArray,List.set_cons_zero,List.set_cons_succ]
 rw[(hv' 28 3 _ rfl:sl a' 3= .string (bs (jT ([]:List UInt8) [(· ++[69,0]),(· ++bQ 2 [(20+(ld.length:Int)),(id:Int),16384]),(· ++[ttl,pr]),(· ++bQ 2 [(sum:Int)]),(· ++bQ 4 [(fi:Int),(ti:Int)])] 5)))]
 have hby:jT [] [(· ++[69,0]),(· ++bQ 2 [(20+(ld.length:Int)),(id:Int),16384]),(· ++[ttl,pr]),(· ++bQ 2 [(sum:Int)]),(· ++bQ 4 [(fi:Int),(ti:Int)])] 5=fC id ttl pr fi ti ld.length sum:=Ko _ _ _ _ _ _ _
 rw[hby]
 have hfr:=hf0.trans' hch.fr (fun b hb e=>by unfold aI at e;omega)
 generalize hR:fC id ttl pr fi ti ld.length sum=R at*
 have HR:=Lib.hid hR
 clear hR
 go_wp2_with fail
 go_ret
 exact⟨by rw[HR.out];rfl,hfr⟩
theorem tC (A:Option Addr) (c:Nat) (p:List UInt8) (w:World) (hr:SlR w noB 1 A 1 (HV [p])) (hz:p.length≤9223372036854775807):
 Calls Tryz.prog 92 #[.slice A 1 c] w fun e w'=>e= .returned (.int .u16 (eV p))∧w=w':=by
 have h:=jJ A 1 c [p] w noB hr (by omega) (by simpa using hz)
 simpa using h
attribute [local simp] ltN leN eqN eqL ltL gtL leL geL ibq
theorem mV (id fi ti:Nat) (ttl pr:UInt8) (ld:List UInt8) (w:World) (hid:id<65536) (hfi:fi<4294967296) (hti:ti<4294967296) (hld:ld.length≤9223372036854775807):
 Calls Tryz.prog 199 #[.agg #[.int .u16 (id:Int),.int .u8 (ttl.toNat:Int),.int .u8 (pr.toNat:Int),.int .u32 (fi:Int),.int .u32 (ti:Int),.string (bs ld)]] w (fX (vC id ttl pr fi ti ld) w):=by
 have hmf:∀(fn:Fn) (first cap:Array Value) (w:World),(Instr.makeFunc fn first cap).run Tryz.prog w= .ok (.func fn first cap) w:=fun _ _ _ _=>rfl
 refine en Tryz.func199 Tryz.ntmps199 ?_
 refine W ?_
 refine sA ?_
 intro w1 hA f1
 by_cases h1:ttl.toNat=0
 ·refine W ?_
  exact⟨by unfold vC;rw[if_pos h1];rfl,f1⟩
 by_cases h2:1480<ld.length
 ·refine W ?_
  exact⟨by unfold vC;rw[if_neg h1,if_pos h2];rfl,f1⟩
 have Hs:=Lib.hid (show vC id ttl pr fi ti ld=(fG id ttl pr fi ti ld,0) by unfold vC;rw[if_neg h1,if_neg h2])
 have Hl:=Lib.hid (show ld.length≤1480 by omega)
 refine W ?_
 clear h1 h2
 refine dI (An hA f1) [] [0,1,6,7,2,3,4,5,8,9,10] (h:= ?_)
 intro w2 h2 _
 clear hA f1
 have hH:=fun(sum:Nat) (hs:sum<65536) (w':World) (hB:Bk w' w.heap.size 53 #[.int .u16 (id:Int),.int .u8 (ttl.toNat:Int),.int .u8 (pr.toNat:Int),.int .u32 (fi:Int),.int .u32 (ti:Int),.string (bs ld)])=>GH id fi ti ttl pr ld sum w.heap.size w' hid hfi hti hs Hl.out hB
 have HH:=Lib.hid hH
 clear hH
 refine D ?_
 refine dC (HH.out 0 (by decide) w2 h2.1) ?_ ?_
 ·intro w' fw
  exact⟨h2.1.keep fw (fun x=>x),h2.2.none fw⟩
 intro w3 _ h3
 refine D ?_
 refine dA2 (by infer_instance) h3 ?_
 intro w4 h4 hB _
 refine D ?_
 refine dC (tC (some ⟨w3.heap.size,0,none⟩) 1 (fC id ttl pr fi ti ld.length 0) w4 (SlR.of_bk hB (fun x=>x) rfl) (by rw[eZ];omega)) ?_ ?_
 ·rintro _ rfl
  exact h4
 rintro _ rfl _
 refine D ?_
 refine dC (HH.out (eV (fC id ttl pr fi ti ld.length 0)) (by have:=vL (fC id ttl pr fi ti ld.length 0);omega) w4 h4.1) ?_ ?_
 ·intro w' fw
  exact⟨h4.1.keep fw (fun x=>x),h4.2.none fw⟩
 intro w5 _ h5
 clear hB h2 h3 h4
 have hln:¬9223372036854775807<(fC id ttl pr fi ti ld.length (eV (fC id ttl pr fi ti ld.length 0))).length+ld.length:=by rw[eZ];have:=Hl.out;omega
 refine D ?_
 refine W ?_
 exact⟨by rw[Hs.out];rfl,h5.2⟩
theorem AE (id fi ti:Nat) (ttl pr:UInt8) (ld:List UInt8) (w:World) (hid:id<65536) (hfi:fi<4294967296) (hti:ti<4294967296) (hld:ld.length≤9223372036854775807):
 Calls Tryz.prog 163 #[.agg #[.int .u16 (id:Int),.int .u8 (ttl.toNat:Int),.int .u8 (pr.toNat:Int),.int .u32 (fi:Int),.int .u32 (ti:Int),.string (bs ld)]] w (fX (vC id ttl pr fi ti ld) w):=by
 have hpa:=(Bk.new w 53 #[.int .u16 (id:Int),.int .u8 (ttl.toNat:Int),.int .u8 (pr.toNat:Int),.int .u32 (fi:Int),.int .u32 (ti:Int),.string (bs ld)]).cells
 have hf0:Fr noB w (w.alloc (.cells #[.int .u16 (id:Int),.int .u8 (ttl.toNat:Int),.int .u8 (pr.toNat:Int),.int .u32 (fi:Int),.int .u32 (ti:Int),.string (bs ld)] 53)):=(Fr.refl _ _).alloc _
 go_enter Tryz.func163,Tryz.ntmps163
 go_wp2_with fail
 refine(mV id fi ti ttl pr ld _ hid hfi hti hld).mono ?_
 rintro e w2 ⟨rfl,hf2⟩
 generalize vC id ttl pr fi ti ld=R at*
 go_wp2_with fail
 go_ret2
 exact⟨rfl,hf0.none hf2⟩
end Go.Proofs.YtcbkaiakdhiloacGreatDoor
namespace Go.Proofs.YtcbkaiakdhiloacGreatDoor
open Go.RowKit Go.Proofs
attribute [local go_sem] aG aD gK aE
def cU (fi ti n:Nat):List UInt8:=big 4 fi++big 4 ti++[0,17]++big 2 n
theorem wC (fi ti n:Nat):(cU fi ti n).length=12:=by simp[cU,aB]
theorem C7 (fi ti:Nat) (n:Int):([]++bQ 4 [(fi:Int),(ti:Int)]++[0,17]++bQ 2 [n])=cU fi ti n.toNat:=by
 simp only[bQ,List.flatMap_cons,List.flatMap_nil,List.append_nil,Int.toNat_natCast,List.nil_append,cU,List.append_assoc]
theorem mW (A:Option Addr) (c:Nat) (p q:List UInt8) (w:World) (hr:SlR w noB 1 A 2 (HV [p,q])) (hz:p.length≤9223372036854775807) (hy:q.length≤9223372036854775807):
 Calls Tryz.prog 92 #[.slice A 2 c] w fun e w'=>e= .returned (.int .u16 (eV (p++q)))∧w=w':=by
 have h:=jJ A 2 c [p,q] w noB hr (by omega) (by intro x hx;simp at hx;rcases hx with rfl|rfl<;>assumption)
 simpa using h
theorem BZ (fi ti:Nat) (n:Int) (w:World) (hfi:fi<4294967296) (hti:ti<4294967296) (hn0:0≤n) (hn1:n≤65535):
 Calls Tryz.prog 96 #[.int .u32 (fi:Int),.int .u32 (ti:Int),.int .i64 n] w (fun e w'=>e= .returned (.string (bs (cU fi ti n.toNat)))∧Fr noB w w'):=by
 have hbw:=Bk.new w 226 #[.slice none 0 0]
 have hf0:Fr noB w (w.alloc (.cells #[.slice none 0 0] 226)):=(Fr.refl _ _).alloc _
 have hsz:(w.alloc (.cells #[.slice none 0 0] 226)).heap.size=w.heap.size+1:=by simp
 go_enter Tryz.func96,Tryz.ntmps96
 go_upto_region 2 with fail
 generalize w.alloc (.cells #[.slice none 0 0] 226)=w1 at*
 have hwr0:=Wr.zero hbw
 have e8:IntKind.u16.wrap n=n:=by rw[IntKind.wrap_u16];omega
 have e8':n%65536=n:=by omega
 have hN:=xX (l0:=([]:List UInt8)) (fs:=[(· ++bQ 4 [(fi:Int),(ti:Int)]),(· ++[0,17]),(· ++bQ 2 [n])]) (by simp) 2000000 (by intro f hf l;simp at hf;rcases hf with rfl|rfl|rfl<;>simp[aU,dO,aB]<;>omega) (by simp)
 refine gG (n:=22) (w1:=w1) (p:=w.heap.size) (lst:=jT ([]:List UInt8) _) (ats:=[4,6,10]) (kn:=[(7,.pointer (some ⟨w.heap.size,0,none⟩)),(0,.int .u32 (fi:Int)),(1,.int .u32 (ti:Int)),(2,.int .i64 n)]) (ex:=[]) (sp:=[(10,.v (.pointer (some ⟨w.heap.size,0,none⟩))),(11,.v (.int .u32 (fi:Int))),(12,.v (.int .u32 (ti:Int))),(13,.m 2 38 #[.int .u32 (fi:Int),.int .u32 (ti:Int)]),(14,.w 0),(15,.m 2 5 #[.int .u8 0,.int .u8 17]),(16,.w 1),(17,.v (.int .i64 n)),(18,.v (.int .u16 n)),(19,.m 1 47 #[.int .u16 n]),(20,.w 2),(21,.s 3),(6,.v (.string (bs (jT ([]:List UInt8) [(· ++bQ 4 [(fi:Int),(ti:Int)]),(· ++[0,17]),(· ++bQ 2 [n])] 3))))]) ⟨rfl,rfl⟩ (Chn.start0 hwr0 rfl) .nil (by simp[sl])
  (okv []<|okv []<|okv []<|okm [1,2]<|oka 3 [0] rfl (fun _ _ _ c s=>s.IP c (hN 0) [(fi:Int),(ti:Int)])<|okm []<|oka 5 [4] rfl (fun _ _ _ c s=>s.U8 c (hN 1) [0,17])<|okv []<|okv [7]<|okm [8]<|oka 9 [6] rfl (fun _ _ _ c s=>s.U16 c (hN 2) [n])<|oks [10] (fun _ _ c=>iN _ _ _ _ c.wr)<|okv [11]<|okn) ?_ (by kernel_rfl) (by kernel_rfl) (by kernel_rfl) (by kernel_rfl)
 intro a' w3 A' hs' hk' hv' hch _
 rw[Kp.eq_put (n:=22) [10,11,12,13,14,15,16,17,18,19,20,21,6] ⟨rfl,rfl⟩ hs' (Kp.kx hk':Kp (kx 22 [10,11,12,13,14,15,16,17,18,19,20,21,6]) _ _) rfl rfl]
 simp only[List.foldl,Act.put,List.setIfInBounds_toArray,List.set_cons_zero,List.set_cons_succ]
 rw[(hv' 12 6 _ rfl:sl a' 6= .string (bs (jT ([]:List UInt8) [(· ++bQ 4 [(fi:Int),(ti:Int)]),(· ++[0,17]),(· ++bQ 2 [n])] 3)))]
 have hby:jT [] [(· ++bQ 4 [(fi:Int),(ti:Int)]),(· ++[0,17]),(· ++bQ 2 [n])] 3=cU fi ti n.toNat:=C7 _ _ _
 rw[hby]
 have hfr:=hf0.trans' hch.fr (fun b hb e=>by unfold aI at e;omega)
 generalize hR:cU fi ti n.toNat=R at*
 have HR:=Lib.hid hR
 clear hR
 go_wp2_with fail
 go_ret
 exact⟨by rw[HR.out];rfl,hfr⟩
end Go.Proofs.YtcbkaiakdhiloacGreatDoor
namespace Go.Proofs.YtcbkaiakdhiloacGreatDoor
open Go.RowKit Go.Proofs
attribute [local go_sem] aG aD gK aE
def GA (fm tp n:Nat):List UInt8:=big 2 fm++big 2 tp++big 2 n
def cG (fm tp:Nat) (ld:List UInt8) (sum:Nat):List UInt8:=GA fm tp (8+ld.length)++big 2 sum++ld
def jN (fm tp fi ti:Nat) (ld:List UInt8):Nat:=eV (cU fi ti (8+ld.length)++GA fm tp (8+ld.length)++[0,0]++ld)
def gC (fm tp fi ti:Nat) (ld:List UInt8):Nat:=if jN fm tp fi ti ld=0 then 65535 else jN fm tp fi ti ld
def jC (fm tp fi ti:Nat) (ld:List UInt8):List UInt8×Nat:=if 1480<8+ld.length then([],7)else(cG fm tp ld (gC fm tp fi ti ld),0)
theorem yN (fm tp fi ti:Nat) (ld:List UInt8):gC fm tp fi ti ld≤65535:=by
 unfold gC;split
 ·omega
 ·exact vL _
theorem fZ (fm tp:Nat) (ld:List UInt8) (sum:Nat):(cG fm tp ld sum).length=8+ld.length:=by simp[cG,GA,aB];omega
theorem C5 (fm tp fi ti:Nat) (ld:List UInt8):eV (cU fi ti (8+ld.length)++cG fm tp ld 0)=jN fm tp fi ti ld:=by
 have e:big 2 0=[0,0]:=by decide
 unfold jN cG;rw[e];simp only[List.append_assoc]
theorem Jv (fm tp sum:Nat) (ld:List UInt8):([]++bQ 2 [(fm:Int),(tp:Int),(8+(ld.length:Int)),(sum:Int)]++List.flatten [ld])=cG fm tp ld sum:=by
 have e1:(8+(ld.length:Int)).toNat=8+ld.length:=by omega
 simp only[bQ,List.flatMap_cons,List.flatMap_nil,List.append_nil,e1,Int.toNat_natCast,List.nil_append,List.flatten_cons,List.flatten_nil,cG,GA,List.append_assoc]
theorem rA (fm tp:Nat) (ld:List UInt8) (sum q qn:Nat) (w:World) (hfm:fm<65536) (htp:tp<65536) (hsum:sum<65536) (hl2:ld.length≤1480) (hq:Bk w q 57 #[.int .u16 (fm:Int),.int .u16 (tp:Int),.string (bs ld)]) (hqn:Bk w qn 3 #[.int .i64 (8+(ld.length:Int))]):
 Calls Tryz.prog 250 #[.int .u16 (sum:Int),.pointer (some ⟨q,0,none⟩),.pointer (some ⟨qn,0,none⟩)] w (fun e w'=>e= .returned (.string (bs (cG fm tp ld sum)))∧Fr noB w w'):=by
 have hql:=hq.lt
 have hqnl:=hqn.lt
 have hpa:=hq.alloc (.cells #[.slice none 0 0] 226)
 have hpn:=hqn.alloc (.cells #[.slice none 0 0] 226)
 have hbw:=Bk.new w 226 #[.slice none 0 0]
 have hf0:Fr noB w (w.alloc (.cells #[.slice none 0 0] 226)):=(Fr.refl _ _).alloc _
 have hsz:(w.alloc (.cells #[.slice none 0 0] 226)).heap.size=w.heap.size+1:=by simp
 go_enter Tryz.func250,Tryz.ntmps250
 go_upto_region 2 with fail
 generalize w.alloc (.cells #[.slice none 0 0] 226)=w1 at*
 have hwr0:=Wr.zero hbw
 have e7:IntKind.u16.wrap (8+(ld.length:Int))=8+(ld.length:Int):=by rw[IntKind.wrap_u16];omega
 have e7':(8+(ld.length:Int))%65536=8+(ld.length:Int):=by omega
 have hN:=xX (l0:=([]:List UInt8)) (fs:=[(· ++bQ 2 [(fm:Int),(tp:Int),(8+(ld.length:Int)),(sum:Int)]),(· ++List.flatten [ld])]) (by simp) 2000000 (by intro f hf l;simp at hf;rcases hf with rfl|rfl<;>simp[aU,dO,aB]<;>omega) (by simp)
 refine gG (n:=23) (w1:=w1) (p:=w.heap.size) (lst:=jT ([]:List UInt8) _) (ats:=[9,13]) (kn:=[(5,.pointer (some ⟨w.heap.size,0,none⟩)),(1,pt q),(2,pt qn),(0,.int .u16 (sum:Int))]) (ex:=[]) (sp:=[(8,.v (.pointer (some ⟨w.heap.size,0,none⟩))),(9,.v (pt q)),(10,.v (.int .u16 (fm:Int))),(11,.v (.pointer (some ⟨q,1,none⟩))),(12,.v (.int .u16 (tp:Int))),(13,.v (.int .i64 (8+(ld.length:Int)))),(14,.v (.int .u16 (8+(ld.length:Int)))),(15,.v (.int .u16 (sum:Int))),(16,.m 4 47 #[.int .u16 (fm:Int),.int .u16 (tp:Int),.int .u16 (8+(ld.length:Int)),.int .u16 (sum:Int)]),(17,.w 0),(18,.v (.pointer (some ⟨q,2,none⟩))),(19,.v (.string (bs ld))),(20,.m 1 9 #[.string (bs ld)]),(21,.w 1),(22,.s 2),(4,.v (.string (bs (jT ([]:List UInt8) [(· ++bQ 2 [(fm:Int),(tp:Int),(8+(ld.length:Int)),(sum:Int)]),(· ++List.flatten [ld])] 2))))]) ⟨rfl,rfl⟩ (Chn.start0 hwr0 rfl) .nil (by simp[sl])
  (okv []<|okv []<|okl [1] (fun _ _ _ c x=>((hpa).keep c.fr (by unfold aI;have:=c.lt;omega)).cells)<|okv []<|okl [3] (fun _ _ _ c x=>((hpa).keep c.fr (by unfold aI;have:=c.lt;omega)).cells)<|okl [] (fun _ _ _ c x=>((hpn).keep c.fr (by unfold aI;have:=c.lt;omega)).cells)<|okv [5]<|okv []<|okm [2,4,6,7]<|oka 8 [0] rfl (fun _ _ _ c s=>s.U16 c (hN 0) [(fm:Int),(tp:Int),(8+(ld.length:Int)),(sum:Int)])<|okv []<|okl [10] (fun _ _ _ c x=>((hpa).keep c.fr (by unfold aI;have:=c.lt;omega)).cells)<|okm [11]<|oka 12 [9] rfl (fun _ _ _ c s=>s.STR c (hN 1) [ld])<|oks [13] (fun _ _ c=>iN _ _ _ _ c.wr)<|okv [14]<|okn) ?_ (by kernel_rfl) (by kernel_rfl) (by kernel_rfl) (by kernel_rfl)
 intro a' w3 A' hs' hk' hv' hch _
 rw[Kp.eq_put (n:=23) [8,9,10,11,12,13,14,15,16,17,18,19,20,21,22,4] ⟨rfl,rfl⟩ hs' (Kp.kx hk':Kp (kx 23 [8,9,10,11,12,13,14,15,16,17,18,19,20,21,22,4]) _ _) rfl rfl]
 simp only[List.foldl,Act.put,List.setIfInBounds_toArray,List.set_cons_zero,List.set_cons_succ]
 rw[(hv' 15 4 _ rfl:sl a' 4= .string (bs (jT ([]:List UInt8) [(· ++bQ 2 [(fm:Int),(tp:Int),(8+(ld.length:Int)),(sum:Int)]),(· ++List.flatten [ld])] 2)))]
 have hby:jT [] [(· ++bQ 2 [(fm:Int),(tp:Int),(8+(ld.length:Int)),(sum:Int)]),(· ++List.flatten [ld])] 2=cG fm tp ld sum:=Jv _ _ _ _
 rw[hby]
 have hfr:=hf0.trans' hch.fr (fun b hb e=>by unfold aI at e;omega)
 generalize hR:cG fm tp ld sum=R at*
 have HR:=Lib.hid hR
 clear hR
 go_wp2_with fail
 go_ret
 exact⟨by rw[HR.out];rfl,hfr⟩
attribute [local simp] ltN leN eqN eqL ltL gtL leL geL
theorem lP (fm tp fi ti:Nat) (ld:List UInt8) (w:World) (hfm:fm<65536) (htp:tp<65536) (hfi:fi<4294967296) (hti:ti<4294967296) (hld:ld.length≤4611686018427387000):
 Calls Tryz.prog 198 #[.agg #[.int .u16 (fm:Int),.int .u16 (tp:Int),.string (bs ld)],.int .u32 (fi:Int),.int .u32 (ti:Int)] w (fX (jC fm tp fi ti ld) w):=by
 have e8:IntKind.i64.wrap (8+(ld.length:Int))=8+(ld.length:Int):=IntWalk.i64_in _ (by omega)
 have hmf:∀(fn:Fn) (first cap:Array Value) (w:World),(Instr.makeFunc fn first cap).run Tryz.prog w= .ok (.func fn first cap) w:=fun _ _ _ _=>rfl
 refine en Tryz.func198 Tryz.ntmps198 ?_
 refine W ?_
 refine sA ?_
 intro w1 hA f1
 refine W ?_
 refine sA ?_
 intro w2 hN f2
 have hc:=hN.cells
 have hz:=hN.frees
 have hAl:=hA.lt
 have hN3:=hN.set 0 (.int .i64 (8+(ld.length:Int)))
 have hA3:=(hA.keep f2 id).far (p:=⟨w1.heap.size,0,none⟩) (by simp;omega) (.int .i64 (8+(ld.length:Int)))
 have f3:=(f1.none f2).setCell (p:=⟨w1.heap.size,0,none⟩) (fun x=>absurd x (by show ¬w1.heap.size<w.heap.size;omega)) (.int .i64 (8+(ld.length:Int)))
 replace hN3:Bk _ w1.heap.size 3 #[.int .i64 (8+(ld.length:Int))]:=hN3
 refine W ?_
 refine sS (h:= ?_)
 clear hc hz hN hA hAl f1 f2
 generalize w2.setCell ⟨w1.heap.size,0,none⟩ (.int .i64 (8+(ld.length:Int)))=w3 at*
 by_cases h1:1480<8+ld.length
 ·have b1:1480<8+(ld.length:Int):=by omega
  refine W ?_
  exact⟨by unfold jC;rw[if_pos h1];rfl,f3⟩
 have b1:¬1480<8+(ld.length:Int):=by omega
 have hs:Hid (jC fm tp fi ti ld=(cG fm tp ld (gC fm tp fi ti ld),0)):=by unfold Hid jC;rw[if_neg h1]
 have hl2:ld.length≤1480:=by omega
 have Hl:=Lib.hid hl2
 clear h1 hl2
 refine W ?_
 refine sC (BZ fi ti (8+(ld.length:Int)) w3 hfi hti (by omega) (by have:=Hl.out;omega)) ?_
 intro w4 f4
 rw[show(8+(ld.length:Int)).toNat=8+ld.length by omega]
 refine W ?_
 refine sC (rA fm tp ld 0 w.heap.size w1.heap.size w4 hfm htp (by decide) Hl.out (hA3.keep f4 id) (hN3.keep f4 id)) ?_
 intro w5 f5
 refine W ?_
 refine sA ?_
 intro w6 hB f6
 refine W ?_
 refine sC (mW (some ⟨w5.heap.size,0,none⟩) 2 (cU fi ti (8+ld.length)) (cG fm tp ld 0) w6 (SlR.of_bk hB (fun x=>x) rfl) (by rw[wC];omega) (by rw[fZ];have:=Hl.out;omega)) ?_
 rintro _ rfl
 rw[C5]
 have f7:=(f4.none f5).none f6
 have hle:=yN fm tp fi ti ld
 clear hB f4 f5 f6 b1 e8
 by_cases t0:jN fm tp fi ti ld=0
 ·have e:gC fm tp fi ti ld=65535:=by unfold gC;rw[if_pos t0]
  refine W ?_
  refine sC (rA fm tp ld 65535 w.heap.size w1.heap.size w6 hfm htp (by decide) Hl.out (hA3.keep f7 id) (hN3.keep f7 id)) ?_
  intro w8 f8
  refine W ?_
  exact⟨by rw[hs.out,e];rfl,(f3.none f7).none f8⟩
 ·have e:gC fm tp fi ti ld=jN fm tp fi ti ld:=by unfold gC;rw[if_neg t0]
  rw[e]at hle
  refine W ?_
  refine sC (rA fm tp ld (jN fm tp fi ti ld) w.heap.size w1.heap.size w6 hfm htp (by omega) Hl.out (hA3.keep f7 id) (hN3.keep f7 id)) ?_
  intro w8 f8
  refine W ?_
  exact⟨by rw[hs.out,e];rfl,(f3.none f7).none f8⟩
theorem zX (fm tp fi ti:Nat) (ld:List UInt8) (w:World) (hfm:fm<65536) (htp:tp<65536) (hfi:fi<4294967296) (hti:ti<4294967296) (hld:ld.length≤4611686018427387000):
 Calls Tryz.prog 162 #[.agg #[.int .u16 (fm:Int),.int .u16 (tp:Int),.string (bs ld)],.int .u32 (fi:Int),.int .u32 (ti:Int)] w (fX (jC fm tp fi ti ld) w):=by
 have hpa:=(Bk.new w 57 #[.int .u16 (fm:Int),.int .u16 (tp:Int),.string (bs ld)]).cells
 have hf0:Fr noB w (w.alloc (.cells #[.int .u16 (fm:Int),.int .u16 (tp:Int),.string (bs ld)] 57)):=(Fr.refl _ _).alloc _
 go_enter Tryz.func162,Tryz.ntmps162
 go_wp2_with fail
 refine(lP fm tp fi ti ld _ hfm htp hfi hti hld).mono ?_
 rintro e w2 ⟨rfl,hf2⟩
 generalize jC fm tp fi ti ld=R at*
 go_wp2_with fail
 go_ret2
 exact⟨rfl,hf0.none hf2⟩
end Go.Proofs.YtcbkaiakdhiloacGreatDoor
namespace Go.Proofs.YtcbkaiakdhiloacGreatDoor
open Go.RowKit Go.Proofs
attribute [local go_sem] aG aD aC
def eR (c:UInt8):Bool:=decide (33≤c.toNat)&&decide (c.toNat≤126)
def cP (l:List UInt8):Bool:=l.all eR&&decide (0<l.length)
theorem mY {l:List UInt8} {i:Nat} {c:UInt8} (h:l[i]? =some c) (hc:eR c=false):cP l=false:=by
 unfold cP
 have:l.all eR=false:=by
  rw[List.all_eq_false]
  exact⟨c,List.mem_of_getElem? h,by rw[hc];decide⟩
 rw[this];rfl
theorem wE {l:List UInt8} {i:Nat} {c:UInt8} (h:l[i]? =some c) (ha:(l.take i).all eR=true) (hc:eR c=true):(l.take (i+1)).all eR=true:=by
 rw[List.take_add_one,h];simp[List.all_append,ha,hc]
theorem LA (l:List UInt8) (w:World) (hl:l.length≤4611686018427387904):
 Calls Tryz.prog 117 #[.string (bs l)] w fun e w'=>e= .returned (.bool (cP l))∧w'=w:=by
 go_enter Tryz.func117,Tryz.ntmps117
 go_wp2_with fail
 go_loopw [3] (fun iv wr=>∃(i:Nat),i≤l.length∧iv= .int .i64 (i:Int)∧(l.take i).all eR=true∧wr=w) (fun iv _=>l.length-(intOf iv).toNat)
 case atStart=>exact⟨0,by omega,rfl,rfl,rfl⟩
 case round=>
  obtain⟨i,hi,rfl,ha,hw⟩:=hrel
  subst hw
  by_cases hlt:i<l.length
  ·obtain⟨c,hc⟩:∃c,l[i]? =some c:=⟨_,List.getElem?_eq_getElem hlt⟩
   have hgi:∀h:i<(bs l).size,(bs l)[i]'h=c:=fun h=>by rw[jZ l i h];rw[List.getElem?_eq_getElem hlt]at hc;injection hc
   have hcl:=c.toNat_lt
   have Hc:=Lib.hid hc
   clear hc
   by_cases h1:c.toNat<33
   ·have hbad:cP l=false:=mY Hc.out (by unfold eR;simp;omega)
    have Hbad:=Lib.hid hbad
    clear hbad
    have h1i:(c.toNat:Int)<33:=by omega
    go_wp2_with fail
    go_ret
    exact⟨congrArg (fun b=>Ending.returned (.bool b)) Hbad.out.symm,rfl⟩
   ·have h1i:¬(c.toNat:Int)<33:=by omega
    by_cases h2:126<c.toNat
    ·have hbad:cP l=false:=mY Hc.out (by unfold eR;simp;omega)
     have Hbad:=Lib.hid hbad
     clear hbad
     have h2i:126<(c.toNat:Int):=by omega
     go_wp2_with fail
     go_ret
     exact⟨congrArg (fun b=>Ending.returned (.bool b)) Hbad.out.symm,rfl⟩
    ·have h2i:¬126<(c.toNat:Int):=by omega
     have ha2:=wE Hc.out ha (by unfold eR;simp;omega)
     have Ha2:=Lib.hid ha2
     clear ha2 ha
     go_wp2_with fail
     exact⟨⟨i+1,by omega,by rw[Int.natCast_add];rfl,Ha2.out,trivial⟩,by simp only[intOf];omega⟩
  ·obtain rfl:i=l.length:=by omega
   rw[List.take_length]at ha
   have hfin:cP l=decide (0<l.length):=by unfold cP;rw[ha];rfl
   have Hfin:=Lib.hid hfin
   clear ha hfin
   go_wp2_with fail
   go_ret
   exact⟨congrArg (fun b=>Ending.returned (.bool b)) (by rw[Hfin.out];try simp),rfl⟩
theorem eE (l:List UInt8) (w:World) (hl:l.length≤4611686018427387904):
 Calls Tryz.prog 167 #[.string (bs l)] w fun e w'=>e= .returned (.bool (cP l))∧w'=w:=by
 go_enter Tryz.func167,Tryz.ntmps167
 go_wp2_with fail
 go_loopw [6] (fun iv wr=>∃(i:Nat),i≤l.length∧iv= .int .i64 (i:Int)∧(l.take i).all eR=true∧wr=w) (fun iv _=>l.length-(intOf iv).toNat)
 case atStart=>exact⟨0,by omega,rfl,rfl,rfl⟩
 case round=>
  obtain⟨i,hi,rfl,ha,hw⟩:=hrel
  subst hw
  by_cases hlt:i<l.length
  ·obtain⟨c,hc⟩:∃c,l[i]? =some c:=⟨_,List.getElem?_eq_getElem hlt⟩
   have hgi:∀h:i<(bs l).size,(bs l)[i]'h=c:=fun h=>by rw[jZ l i h];rw[List.getElem?_eq_getElem hlt]at hc;injection hc
   have hcl:=c.toNat_lt
   have Hc:=Lib.hid hc
   clear hc
   by_cases h1:c.toNat<33
   ·have hbad:cP l=false:=mY Hc.out (by unfold eR;simp;omega)
    have Hbad:=Lib.hid hbad
    clear hbad
    have h1i:(c.toNat:Int)<33:=by omega
    go_wp2_with fail
    go_ret
    exact⟨congrArg (fun b=>Ending.returned (.bool b)) Hbad.out.symm,rfl⟩
   ·have h1i:¬(c.toNat:Int)<33:=by omega
    by_cases h2:126<c.toNat
    ·have hbad:cP l=false:=mY Hc.out (by unfold eR;simp;omega)
     have Hbad:=Lib.hid hbad
     clear hbad
     have h2i:126<(c.toNat:Int):=by omega
     go_wp2_with fail
     go_ret
     exact⟨congrArg (fun b=>Ending.returned (.bool b)) Hbad.out.symm,rfl⟩
    ·have h2i:¬126<(c.toNat:Int):=by omega
     have ha2:=wE Hc.out ha (by unfold eR;simp;omega)
     have Ha2:=Lib.hid ha2
     clear ha2 ha
     go_wp2_with fail
     exact⟨⟨i+1,by omega,by rw[Int.natCast_add];rfl,Ha2.out,trivial⟩,by simp only[intOf];omega⟩
  ·obtain rfl:i=l.length:=by omega
   rw[List.take_length]at ha
   have hfin:cP l=decide (0<l.length):=by unfold cP;rw[ha];rfl
   have Hfin:=Lib.hid hfin
   clear ha hfin
   rcases Nat.eq_zero_or_pos l.length with h0|h0
   ·have hln:bs l=⟨#[]⟩:=by rw[List.eq_nil_of_length_eq_zero h0];rfl
    rw[hln]
    go_wp2_with fail
    go_ret
    exact⟨congrArg (fun b=>Ending.returned (.bool b)) (by rw[Hfin.out];simp[h0]),rfl⟩
   ·have hne:¬bs l=⟨#[]⟩:=fun h=>by have h2:=congrArg ByteArray.size h;rw[aG]at h2;have h3:l.length=0:=h2;omega
    go_wp2_with fail
    go_ret
    exact⟨congrArg (fun b=>Ending.returned (.bool b)) (by rw[Hfin.out,decide_eq_true h0];simp[aE];intro h;simp[h]at h0),rfl⟩
end Go.Proofs.YtcbkaiakdhiloacGreatDoor
namespace Go.Proofs.YtcbkaiakdhiloacGreatDoor
open Go.RowKit Go.Proofs
attribute [local go_sem] aG aD aC
def Gs (c:UInt8):UInt8:=if 65≤c.toNat∧c.toNat≤90 then c+32 else c
def CP (l:List UInt8):List UInt8:=l.map Gs
end Go.Proofs.YtcbkaiakdhiloacGreatDoor
namespace Go.Proofs.YtcbkaiakdhiloacGreatDoor
structure eH where
 name:List UInt8
 value:List UInt8
structure tK where
 op:Nat
 block:Nat
 text:List UInt8
 data:List UInt8
 fs:List eH
def zW:tK:=⟨0,0,[],[],[]⟩
def eQ:List UInt8→Option (List UInt8×List UInt8)
 |[]=>none
 |c::r=>if c=0 then some ([],r)else(eQ r).map fun x=>(c::x.1,x.2)
theorem eX:∀(l a r:List UInt8),eQ l=some (a,r)→l.length=a.length+r.length+1
 |[],_,_,h=>by cases h
 |c::l,a,r,h=>by
  unfold eQ at h
  split at h
  ·cases h;simp
  ·cases hl:eQ l with
   |none=>rw[hl]at h;cases h
   |some x=>
    rw[hl]at h
    simp at h
    obtain⟨rfl,rfl⟩:=h
    have:=eX l x.1 x.2 hl
    simp only[List.length_cons];omega
theorem yQ:∀(l:List UInt8) (i:Nat),l[i]? =some 0→(∀j,j<i→l[j]?≠some 0)→eQ l=some (l.take i,l.drop (i+1))
 |[],i,h,_=>by simp at h
 |c::l,0,h,_=>by
  simp at h;subst h;rfl
 |c::l,i+1,h,hn=>by
  have hc:c≠0:=fun e=>hn 0 (by omega) (by simp[e])
  unfold eQ
  rw[if_neg hc,yQ l i (by simpa using h) (fun j hj e=>hn (j+1) (by omega) (by simpa using e))]
  simp
theorem rH:∀(l:List UInt8),(∀j,j<l.length→l[j]?≠some 0)→eQ l=none
 |[],_=>rfl
 |c::l,hn=>by
  have hc:c≠0:=fun e=>hn 0 (by simp) (by simp[e])
  unfold eQ
  rw[if_neg hc,rH l (fun j hj e=>hn (j+1) (by simpa using hj) (by simpa using e))]
  rfl
def named (fs:List eH) (n:List UInt8):Bool:=fs.any fun f=>f.name==n
def jQ:Nat→List eH→List UInt8→Option (List eH)
 |0,_,_=>none
 |_+1,fs,[]=>some fs
 |n+1,fs,c::l=>match eQ (c::l)with
  |none=>none
  |some (a,r)=>match eQ r with
   |none=>none
   |some (b,r2)=>if cP a&&cP b&& !(named fs (CP a))then jQ n (fs++[⟨CP a,b⟩]) r2 else none
def jF (fs:List eH) (l:List UInt8):Option (List eH):=jQ (l.length+1) fs l
theorem pE:∀(n m:Nat) (fs:List eH) (l:List UInt8),l.length<n→l.length<m→jQ n fs l=jQ m fs l
 |0,_,_,_,h,_=>absurd h (Nat.not_lt_zero _)
 |_,0,_,_,_,h=>absurd h (Nat.not_lt_zero _)
 |n+1,m+1,fs,[],_,_=>rfl
 |n+1,m+1,fs,c::l,h1,h2=>by
  unfold jQ
  cases hl:eQ (c::l)with
  |none=>rfl
  |some x=>
   obtain⟨a,r⟩:=x
   have e1:=eX _ _ _ hl
   simp only
   cases hr:eQ r with
   |none=>rfl
   |some y=>
    obtain⟨b,r2⟩:=y
    have e2:=eX _ _ _ hr
    simp only
    split
    ·simp only[List.length_cons]at h1 h2 e1
     exact pE n m _ r2 (by omega) (by omega)
    ·rfl
theorem Fp (fs:List eH):jF fs []=some fs:=rfl
theorem Bo (fs:List eH) (l:List UInt8) (hne:l≠[]) (h:eQ l=none):jF fs l=none:=by
 cases l with
 |nil=>exact absurd rfl hne
 |cons c l=>unfold jF jQ;rw[h]
theorem Bd (fs:List eH) (l a r:List UInt8) (h:eQ l=some (a,r)) (h2:eQ r=none):jF fs l=none:=by
 cases l with
 |nil=>cases h
 |cons c l=>unfold jF jQ;rw[h];simp only;rw[h2]
theorem DN (fs:List eH) (l a r b r2:List UInt8) (h:eQ l=some (a,r)) (h2:eQ r=some (b,r2)) (hb:(cP a&&cP b&& !(named fs (CP a)))=false):jF fs l=none:=by
 cases l with
 |nil=>cases h
 |cons c l=>unfold jF jQ;rw[h];simp only;rw[h2];simp only;rw[hb];rfl
theorem GD (fs:List eH) (l a r b r2:List UInt8) (h:eQ l=some (a,r)) (h2:eQ r=some (b,r2)) (hb:(cP a&&cP b&& !(named fs (CP a)))=true):
 jF fs l=jF (fs++[⟨CP a,b⟩]) r2:=by
 cases l with
 |nil=>cases h
 |cons c l=>
  have e1:=eX _ _ _ h
  have e2:=eX _ _ _ h2
  unfold jF
  rw[jQ.eq_3,h];simp only;rw[h2];simp only;rw[hb]
  simp only[if_true]
  exact pE _ _ _ _ (by omega) (by omega)
def CC:List UInt8:=[111,99,116,101,116]
def aM (l:List UInt8):tK×Nat:=
 if l.length<2 then(zW,1)
 else if num (sub l 0 2)=1 then match eQ (l.drop 2)with
  |none=>(zW,2)
  |some (a,r)=>if cP a=false then(zW,2)else match eQ r with
   |none=>(zW,2)
   |some (b,r2)=>if CP b=CC then(match jF [] r2 with
    |none=>(zW,2)
    |some fs=>(⟨1,0,a,[],fs⟩,0))else(zW,2)
 else if num (sub l 0 2)=6 then match jF [] (l.drop 2)with
  |none=>(zW,2)
  |some fs=>(⟨6,0,[],[],fs⟩,0)
 else if num (sub l 0 2)=3 then if l.length<4 then(zW,1)else if 1024<(l.drop 4).length then(zW,7)else(⟨3,num (sub l 2 4),[],l.drop 4,[]⟩,0)
 else if num (sub l 0 2)=4 then if l.length<4 then(zW,1)else if l.drop 4≠[]then(zW,2)else(⟨4,num (sub l 2 4),[],[],[]⟩,0)
 else if num (sub l 0 2)=5 then if l.length<4 then(zW,1)else match eQ (l.drop 4)with
  |some (a,[])=>(⟨5,num (sub l 2 4),a,[],[]⟩,0)
  |_=>(zW,2)
 else(zW,2)
end Go.Proofs.YtcbkaiakdhiloacGreatDoor
namespace Go.Proofs.YtcbkaiakdhiloacGreatDoor
open Go.RowKit Go.Proofs
attribute [local go_sem] aG aD aC aE
def gJ:List eH→List Value
 |[]=>[]
 |o::r=> .string (bs o.name):: .string (bs o.value)::gJ r
theorem qK:∀os:List eH,(gJ os).length=os.length*2
 |[]=>rfl
 |o::r=>by simp only[gJ,List.length_cons,qK r];omega
theorem rW:∀a b:List eH,gJ (a++b)=gJ a++gJ b
 |[],_=>rfl
 |o::r,b=>by simp only[List.cons_append,gJ,rW r b]
theorem zF:∀(os:List eH) (k:Nat) (o:eH),os[k]? =some o→(gJ os)[k*2]? =some (.string (bs o.name))
 |[],_,_,h=>by cases h
 |o::r,0,o',h=>by cases h;rfl
 |o::r,k+1,o',h=>by
  rw[show(k+1)*2=k*2+1+1 by omega]
  exact zF r k o' h
theorem tW:∀(os:List eH) (k:Nat) (o:eH),os[k]? =some o→(gJ os)[k*2+1]? =some (.string (bs o.value))
 |[],_,_,h=>by cases h
 |o::r,0,o',h=>by cases h;rfl
 |o::r,k+1,o',h=>by
  rw[show(k+1)*2+1=k*2+1+1+1 by omega]
  exact tW r k o' h
theorem FP {os:List eH}:∀u∈gJ os,u.oneCell'=true:=by
 induction os with
 |nil=>intro u h;cases h
 |cons o r ih=>
  intro u h
  simp only[gJ,List.mem_cons]at h
  rcases h with rfl|rfl|h
  ·rfl
  ·rfl
  ·exact ih u h
theorem SlR.fld {w:World} {S:Nat→Prop} {A:Option Addr} {n:Nat} {os:List eH} (h:SlR w S 2 A n (gJ os)):os.length=n:=by
 have:=h.1;rw[qK]at this;omega
theorem SlR.fldAt {w:World} {S:Nat→Prop} {A:Option Addr} {n k:Nat} {os:List eH} {o:eH} (h:SlR w S 2 A n (gJ os)) (hk:os[k]? =some o):
 ∃ad,A=some ad∧w.cell? (ad.add (k*2))=some (.string (bs o.name))∧w.cell? ⟨(ad.add (k*2)).block,(ad.add (k*2)).off+1,none⟩=some (.string (bs o.value)):=by
 have hl:k<os.length:=by
  rcases Nat.lt_or_ge k os.length with h1|h1
  ·exact h1
  ·rw[List.getElem?_eq_none h1]at hk;cases hk
 have hn:=h.fld
 obtain⟨ad,e,_,_,hc⟩:=h.2 (by omega)
 exact⟨ad,e,hc _ _ (zF os k o hk),by
  have:=hc _ _ (tW os k o hk)
  rw[←FB]at this
  exact this⟩
theorem He:(Tryz.prog.info? 196).map (fun i=>(i.zero,i.size,i.bytes))=some (some (.agg #[.string ⟨#[]⟩,.string ⟨#[]⟩]),2,32):=by kernel_rfl
def tL (d:tK) (A:Option Addr) (cap:Nat):Array Value:= #[.int .u16 (d.op:Int),.int .u16 (d.block:Int),.string (bs d.text),.string (bs d.data),.slice A d.fs.length cap]
theorem rI (d:tK) (A:Option Addr) (cap:Nat):(tL d A cap).size=5:=rfl
theorem wW (d:tK) (A:Option Addr) (cap:Nat):(tL d A cap).all (·.oneCell')=true:=by simp[tL,Value.oneCell']
theorem Ce (d:tK) (A:Option Addr) (cap:Nat):(Tryz.prog.info? 123).map (·.size)=some (tL d A cap).size:=by rw[rI];kernel_rfl
def Eg (l:List UInt8) (w:World) (e:Ending) (w':World):Prop:=
 (∃A cap,e= .returned (.tuple #[.agg (tL (aM l).1 A cap),.int .i64 ((aM l).2:Int)])∧SlR w' (fun k=>k<w.heap.size) 2 A (aM l).1.fs.length (gJ (aM l).1.fs))∧Fr noB w w'
def wtF:List eH→Nat
 |[]=>0
 |o::r=>o.name.length+o.value.length+1+wtF r
theorem oD:∀os:List eH,os.length≤wtF os
 |[]=>Nat.le_refl _
 |o::r=>by have:=oD r;simp only[List.length_cons,wtF];omega
theorem BB:∀(os:List eH) (k:Nat) (o:eH),os[k]? =some o→o.name.length+o.value.length≤wtF os
 |[],_,_,h=>by cases h
 |o::r,0,o',h=>by cases h;simp only[wtF];omega
 |o::r,k+1,o',h=>by have:=BB r k o' h;simp only[wtF];omega
theorem uS:∀(a b:List eH),wtF (a++b)=wtF a+wtF b
 |[],b=>by simp[wtF]
 |o::r,b=>by simp only[List.cons_append,wtF,uS r b];omega
theorem BY {os:List eH} {i:Nat} {o:eH} {n:List UInt8} (h:os[i]? =some o) (hn:o.name=n):named os n=true:=by
 unfold named
 rw[List.any_eq_true]
 exact⟨o,List.mem_of_getElem? h,by simpa using hn⟩
theorem BV {os:List eH} {n:List UInt8} (h:∀j o,j<os.length→os[j]? =some o→o.name≠n):named os n=false:=by
 unfold named
 rw[List.any_eq_false]
 intro o ho
 obtain⟨j,hj,e⟩:=List.getElem_of_mem ho
 have:=h j o hj (by rw[List.getElem?_eq_getElem hj,e])
 simpa using this
theorem In (A:Option Addr) (n cap:Nat) (os:List eH) (c:List UInt8) (w:World) (hA:SlR w noB 2 A n (gJ os)) (hn:n≤4611686018427387904):
 Calls Tryz.prog 206 #[.slice A n cap,.string (bs c)] w fun e w'=>e= .returned (.bool (named os c))∧Fr noB w w':=by
 have hlen:=hA.fld
 go_enter Tryz.func206,Tryz.ntmps206
 go_wp2_with fail
 go_loopw [9] (fun iv wr=>∃(i:Nat),i≤n∧iv= .int .i64 (i:Int)∧(∀j o,j<i→os[j]? =some o→o.name≠c)∧Fr noB w wr) (fun iv _=>n-(intOf iv).toNat)
 case atStart=>exact⟨0,by omega,rfl,fun j o h=>absurd h (by omega),Fr.refl _ _⟩
 case round=>
  obtain⟨i,hi,rfl,ha,hw⟩:=hrel
  by_cases hlt:i<n
  ·obtain⟨o,ho⟩:∃o,os[i]? =some o:=⟨_,List.getElem?_eq_getElem (by omega)⟩
   obtain⟨ad,rfl,c1,c2⟩:=(hA.keep hw).fldAt ho
   have hne:=hw.alloc (.cells #[.string (bs o.name),.string (bs o.value)] 196)
   by_cases he:o.name=c
   ·have hb:(o.name==c)=true:=by simpa using he
    have H:=Lib.hid (BY ho he)
    clear ho he ha
    go_wp2_with fail
    go_ret
    exact⟨congrArg (fun b=>Ending.returned (.bool b)) H.out.symm,hne⟩
   ·have hb:(o.name==c)=false:=by simpa using he
    have Ha:Hid (∀j o,j<i+1→os[j]? =some o→o.name≠c):=Lib.hid (by
     intro j o' hj h2
     rcases Nat.lt_or_ge j i with h3|h3
     ·exact ha j o' h3 h2
     ·obtain rfl:j=i:=by omega
      rw[ho]at h2;cases h2;exact he)
    clear ho he ha
    go_wp2_with fail
    exact⟨⟨i+1,by omega,by rw[Int.natCast_add];rfl,Ha.out,hne⟩,by simp only[intOf];omega⟩
  ·obtain rfl:i=n:=by omega
   have H:=Lib.hid (BV (os:=os) (n:=c) (fun j o h=>ha j o (by omega)))
   clear ha
   go_wp2_with fail
   go_ret
   exact⟨congrArg (fun b=>Ending.returned (.bool b)) H.out.symm,hw⟩
end Go.Proofs.YtcbkaiakdhiloacGreatDoor
namespace Go.Proofs.YtcbkaiakdhiloacGreatDoor
def nM (b4:List eH) (o:eH):Bool:=cP o.name&&cP o.value&&(o.name==CP o.name)&& !(named b4 o.name)
def B0:List eH→List eH→Option (List UInt8)
 |_,[]=>some []
 |b4,o::r=>if nM b4 o then(B0 (b4++[o]) r).map fun t=>o.name++0::o.value++0::t else none
def Au (fs:List eH):List UInt8:=fs.flatMap fun o=>o.name++0::o.value++[0]
theorem pM:∀fs:List eH,(Au fs).length≤2*wtF fs
 |[]=>Nat.le_refl _
 |o::r=>by
  have h2:=pM r
  unfold Au at h2⊢
  rw[List.flatMap_cons,List.length_append]
  simp only[List.length_append,List.length_cons,List.length_nil,wtF];omega
theorem BS:∀(fs:List eH) (i:Nat),wtF (fs.take i)≤wtF fs
 |[],i=>by simp
 |o::r,0=>Nat.zero_le _
 |o::r,i+1=>by have:=BS r i;simp only[List.take_succ_cons,wtF];omega
theorem DU {fs:List eH} {i:Nat} {o:eH} (h:fs[i]? =some o):Au (fs.take (i+1))=Au (fs.take i)++(o.name++0::o.value++[0]):=by
 have hi:i<fs.length:=by
  rcases Nat.lt_or_ge i fs.length with h1|h1
  ·exact h1
  ·rw[List.getElem?_eq_none h1]at h;cases h
 rw[List.getElem?_eq_getElem hi]at h
 cases h
 unfold Au
 rw[List.take_succ_eq_append_getElem hi,List.flatMap_append];simp
theorem xV:∀(fs b4:List eH),(∀j o,fs[j]? =some o→nM (b4++fs.take j) o=true)→B0 b4 fs=some (Au fs)
 |[],_,_=>rfl
 |x::r,b4,h=>by
  have h0:=h 0 x rfl
  simp only[List.take_zero,List.append_nil]at h0
  have hr:=xV r (b4++[x]) (fun j o hj=>by
   have:=h (j+1) o (by simpa using hj)
   rwa [List.take_succ_cons,List.append_cons]at this)
  unfold B0
  rw[h0,hr]
  simp[Au]
theorem BI:∀(fs b4:List eH) (j:Nat) (o:eH),fs[j]? =some o→nM (b4++fs.take j) o=false→B0 b4 fs=none
 |[],_,_,_,h,_=>by cases h
 |x::r,b4,0,o,h,hb=>by
  cases h
  simp only[List.take_zero,List.append_nil]at hb
  unfold B0;rw[hb];rfl
 |x::r,b4,j+1,o,h,hb=>by
  rw[List.take_succ_cons,List.append_cons]at hb
  have:=BI r (b4++[x]) j o (by simpa using h) hb
  unfold B0
  rw[this]
  simp
def DW (fs:List eH) (i:Nat):Prop:=∀j o,j<i→fs[j]? =some o→nM (fs.take j) o=true
theorem EW {fs:List eH} (h:DW fs fs.length):B0 [] fs=some (Au fs):=xV fs [] (fun j o hj=>by
 refine h j o ?_ hj
 rcases Nat.lt_or_ge j fs.length with h1|h1
 ·exact h1
 ·rw[List.getElem?_eq_none h1]at hj;cases hj)
theorem EB {fs:List eH} {i:Nat} {o:eH} (h:fs[i]? =some o) (hb:nM (fs.take i) o=false):B0 [] fs=none:=BI fs [] i o h hb
theorem Dp {fs:List eH} {i:Nat} {o:eH} (h:DW fs i) (ho:fs[i]? =some o) (hb:nM (fs.take i) o=true):DW fs (i+1):=by
 intro j o' hj h2
 rcases Nat.lt_or_ge j i with h3|h3
 ·exact h j o' h3 h2
 ·obtain rfl:j=i:=by omega
  rw[ho]at h2;cases h2;exact hb
def Av (l:List UInt8):List UInt8×Nat:=if 1472<l.length then([],7)else(l,0)
def bU (d:tK):List UInt8×Nat:=
 if d.op=1 then if cP d.text then(match B0 [] d.fs with
  |none=>([],2)
  |some t=>Av (big 2 d.op++d.text++[0,111,99,116,101,116,0]++t))else([],2)
 else if d.op=6 then(match B0 [] d.fs with
  |none=>([],2)
  |some t=>Av (big 2 d.op++t))
 else if d.op=3 then if 1024<d.data.length then([],7)else Av (big 2 d.op++big 2 d.block++d.data)
 else if d.op=4 then Av (big 2 d.op++big 2 d.block)
 else if d.op=5 then if d.text.contains 0 then([],2)else Av (big 2 d.op++big 2 d.block++d.text++[0])
 else([],2)
theorem qY:∀(fs:List eH) (k:Nat),gJ (fs.take k)=(gJ fs).take (k*2)
 |[],k=>by simp[gJ]
 |o::r,0=>rfl
 |o::r,k+1=>by
  rw[show(k+1)*2=k*2+1+1 by omega]
  simp only[List.take_succ_cons,gJ,qY r k]
theorem SlR.fldTake {w:World} {S:Nat→Prop} {A:Option Addr} {n k:Nat} {fs:List eH} (h:SlR w S 2 A n (gJ fs)) (hk:k≤n):SlR w S 2 A k (gJ (fs.take k)):=by
 refine⟨by rw[qY,List.length_take,h.1];omega,fun h0=> ?_⟩
 obtain⟨ad,e,hb,hS,hc⟩:=h.2 (by omega)
 refine⟨ad,e,hb,hS,fun j u hu=>hc j u ?_⟩
 rw[qY,List.getElem?_take]at hu
 split at hu
 ·exact hu
 ·cases hu
end Go.Proofs.YtcbkaiakdhiloacGreatDoor
