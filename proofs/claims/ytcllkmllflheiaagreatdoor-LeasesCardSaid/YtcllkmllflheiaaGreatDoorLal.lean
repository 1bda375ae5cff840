/- Parts of the walk; written by programs, merged. -/
import Derived.Test.YtcllkmllflheiaaGreatDoorLak
import Derived.Lib.ItoaMem
import Derived.Laws.StructEq
import Derived.DeepKeys
set_option linter.unusedSimpArgs false
set_option linter.unusedVariables false
set_option maxRecDepth 20000
set_option maxHeartbeats 8000000
namespace Go.Proofs.YtcllkmllflheiaaGreatDoor
open Go.RowKit Go.Proofs
attribute [local go_sem] aG aD aE aF
theorem Dn (L:Lay) (s:St) (f:List UInt8) (w:World) (h:aC w L s):
 Calls Tryz.prog 15 #[.pointer (some ⟨L.p,0,none⟩),.string (bs f)] w (cH L (s.put f).1 (.bool (s.put f).2) w):=by
 have c13:=h.g13
 have hrp:=Cd L.rx L.rxs s.c.rx s.rx f w h.ok.rx0 (by have:=h.ok.rx1;omega) h.rx
 have Hrp:=Lib.hid hrp
 obtain⟨i,cs,hrr,hrg,hrs,hri,hql,hne,hso⟩:=id h.rx
 have Hql:=Lib.hid hql
 clear hrp hrr hrg hrs hri hne hso hql i cs
 go_enter Tryz.func15,Tryz.ntmps15
 go_wp2_with fail
 refine Hrp.out.mono ?_
 rintro e w2 ⟨rfl,hr2,hf2⟩
 have hB2:=h.rxTurn hf2 hr2
 have hq:=Hql.out
 go_wp2_with fail
 go_ret
 refine⟨?_,?_,(hf2.mono fun b _ hb=>by rcases hb with rfl|rfl;exact BH L;exact xD L)⟩
 ·unfold St.put
  by_cases hfu:s.rx.length=s.c.rx
  ·rw[if_pos hfu,decide_eq_false (by omega)];rfl
  ·rw[if_neg hfu,decide_eq_true (by omega)];rfl
 ·unfold St.put
  by_cases hfu:s.rx.length=s.c.rx
  ·rw[if_pos hfu];rw[if_neg (by omega)]at hB2;exact hB2
  ·rw[if_neg hfu];rw[if_pos (by omega)]at hB2;exact hB2
theorem CJ (L:Lay) (s:St) (w:World) (h:aC w L s):
 Calls Tryz.prog 17 #[.pointer (some ⟨L.p,0,none⟩)] w (cH L s.take.1 (.tuple #[.string (bs (s.take.2.getD [])),.bool s.take.2.isSome]) w):=by
 have c14:=h.g14
 have hrp:=zW L.tx L.txs s.c.tx s.tx w h.ok.tx0 (by have:=h.ok.tx1;omega) h.tx
 have Hrp:=Lib.hid hrp
 clear hrp
 go_enter Tryz.func17,Tryz.ntmps17
 go_wp2_with fail
 refine Hrp.out.mono ?_
 rintro e w2 ⟨rfl,hr2,hf2⟩
 have hB2:=h.txTurn hf2 hr2
 go_wp2_with fail
 go_ret2
 refine⟨?_,?_,(hf2.mono fun b _ hb=>by rcases hb with rfl|rfl;exact zD L;exact rY L)⟩
 ·unfold St.take;cases s.tx<;>rfl
 ·unfold St.take
  cases hq:s.tx with
  |nil=>rw[hq]at hB2;have e:s={s with tx:=[]}:=by {cases s;simp only at hq;subst hq;rfl}
        show aC w2 L s
        rw[e];exact hB2
  |cons f r=>rw[hq]at hB2;exact hB2
theorem Br (L:Lay) (s:St) (w:World) (h:aC w L s):
 Calls Tryz.prog 23 #[.pointer (some ⟨L.p,0,none⟩)] w fun e w'=>e= .returned (.agg #[.int .i64 s.now,.int .i64 (s.lease:Int),.int .i64 (s.phase:Int),.int .u32 (s.address:Int),.int .i64 s.boots,.int .i64 (s.image.length:Int),.int .i64 s.lost,.int .i64 (s.cache.length:Int)])∧Fr noB w w':=by
 obtain⟨g,hg⟩:∃g,w.heap.size=g:=⟨_,rfl⟩
 have hf1:Fr noB w (w.alloc (.cells #[.int .i64 0,.int .i64 0,.int .i64 0,.int .u32 0,.int .i64 0,.int .i64 0,.int .i64 0,.int .i64 0] 69)):=(Fr.refl _ _).alloc _
 have hB1:=h.none hf1
 have hg1:=Bk.new w 69 #[.int .i64 0,.int .i64 0,.int .i64 0,.int .u32 0,.int .i64 0,.int .i64 0,.int .i64 0,.int .i64 0]
 rw[hg]at hg1
 have Hg:=Lib.hid hg
 clear hg
 go_enter Tryz.func23,Tryz.ntmps23
 go_upto_region 1 with fail
 rw[Hg.out]
 generalize w.alloc (.cells #[.int .i64 0,.int .i64 0,.int .i64 0,.int .u32 0,.int .i64 0,.int .i64 0,.int .i64 0,.int .i64 0] 69)=w1 at*
 refine wpr (fun w'=>aC w' L s∧Bk w' g 69 #[.int .i64 0,.int .i64 0,.int .i64 0,.int .u32 0,.int .i64 0,.int .i64 0,.int .i64 0,.int .i64 0]∧Fr noB w w') [35] (.p 0 (.p 1 (.p 2 (.p 4 (.p 5 (.p 6 (.p 7 (.p 9 (.p 10 (.p 11 (.p 12 (.p 14 (.p 16 (.p 17 (.p 18 (.p 20 (.p 21 (.p 22 (.p 23 (.p 26 (.p 27 (.p 28 (.p 30 (.p 31 (.p 32 (.q 3 (.q 8 (.q 13 (.q 19 (.q 24 (.p 25 (.q 29 (.e 15 (.e 33 (.p 34 (.e 35 (.nil))))))))))))))))))))))))))))))))))))) (⟨hB1.drew,hg1.drew,hf1.drew⟩) ?_
 intro ops Q' hO hQ' wr1 hR1
 iterate 25 refine pP hO ?_
 iterate 5 (refine pQ hO rfl rfl (fun w' hS=>by obtain⟨hB,hG,hF⟩:=hS;have c16:=hB.g16;have c18:=hB.g18;have c19:=hB.g19;have c21:=hB.g21;have c33:=hB.g33;have c44:=hB.g44;exact qd) ?_)
 refine pP hO ?_
 refine pQ hO rfl rfl (fun w' hS=>by obtain⟨hB,hG,hF⟩:=hS;have c16:=hB.g16;have c18:=hB.g18;have c19:=hB.g19;have c21:=hB.g21;have c33:=hB.g33;have c44:=hB.g44;exact qd) ?_
 refine fJ hO rfl rfl rfl (fun K hK=> ?_)
 go_simp
 refine(aY L s _ hR1.1).mono ?_
 rintro e w2 ⟨rfl,h2⟩
 subst h2
 refine hK _ _ (hR1) (fun hR_15=> ?_)
 clear hK K
 refine fJ hO rfl rfl rfl (fun K hK=> ?_)
 go_simp
 refine(Ej L.p 15 L.mp s.cache _ hR_15.1.g15 hR_15.1.mp hR_15.1.ok.cache).mono ?_
 rintro e w3 ⟨rfl,f3⟩
 refine hK _ _ (⟨hR_15.1.none f3,hR_15.2.1.keep f3 (fun x=>x),hR_15.2.2.none f3⟩) (fun hR_33=> ?_)
 clear hK K
 refine pP hO ?_
 refine gC hO rfl rfl rfl (fun K hK=> ?_)
 refine eH 69 (.tmp 2) (.tmp 37) rfl g _ _ #[.int .i64 s.now,.int .i64 (s.lease:Int),.int .i64 (s.phase:Int),.int .u32 (s.address:Int),.int .i64 s.boots,.int .i64 (s.image.length:Int),.int .i64 s.lost,.int .i64 (s.cache.length:Int)] rfl rfl hR_33.2.1 rfl (by kernel_rfl) (by kernel_rfl) ?_
 intro w9 hx9 hf9
 refine hK _ _ ?_
 clear hK K
 refine bV (hQ' _ _ ?_)
 go_wp2_with fail
 refine bodyPost_ret (results_cell_row Tryz.results23 _ w9 g _ _ _ _ rfl hx9 Tryz.underlying69 rfl (by kernel_rfl)) rfl ?_
 have hF9:Fr noB w w9:=hR_33.2.2.trans' hf9 (fun b hb e=>by have e':b=g:=e;have:=Hg.out;omega)
 exact⟨rfl,hF9⟩
theorem Fu (L:Lay) (s:St) (w:World) (h:aC w L s):(convert 55 9 (.slice L.img s.image.length L.icap)).run Tryz.prog w= .ok (.string (bs s.image)) w:=by
 obtain⟨A,cap,hv,hA⟩:=fW h.im
 cases hv
 exact gT w _ _ 5 Tryz.underlying55 Tryz.underlying5 Tryz.underlying9 noB L.img _ _ _ (lU h.im) (hA.imp id (fun⟨g,hg⟩=>⟨g,0,hg⟩))
theorem Bl (L:Lay) (s:St) (w:World) (h:aC w L s):
 Calls Tryz.prog 25 #[.pointer (some ⟨L.p,0,none⟩)] w (cH L s (.tuple #[.string (bs (if s.phase=3 then s.image else [])),.bool (decide (s.phase=3))]) w):=by
 have c33:=h.g33
 by_cases hp:s.phase=3
 ·rw[if_pos hp,decide_eq_true hp]
  rw[hp]at c33
  have c44:=h.g44
  have hcv:=Fu L s w h
  go_enter Tryz.func25,Tryz.ntmps25
  go_wp2_with fail
  go_ret2
  exact⟨rfl,h,Fr.refl _ _⟩
 ·rw[if_neg hp,decide_eq_false hp]
  have b3:((s.phase:Int) !=3)=true:=by simp;omega
  go_enter Tryz.func25,Tryz.ntmps25
  go_wp2_with fail
  go_ret2
  exact⟨rfl,h,Fr.refl _ _⟩
end Go.Proofs.YtcllkmllflheiaaGreatDoor
namespace Go.Proofs.YtcllkmllflheiaaGreatDoor
open Go.RowKit Go.Proofs
attribute [local go_sem] aG aD aE
theorem lD (l:List UInt8) (i n:Nat):(l.drop i).take n=sub l i (i+n):=by unfold sub;rw[List.drop_take,Nat.add_sub_cancel_left]
section
variable (i p:Nat) (l:List UInt8) (w:World) (hR:Rd w p (l.drop i)) (hl:l.length≤9223372036854775807)
include hR hl
end
theorem JJ (p:Nat) (l:List UInt8) (w:World) (hR:Rd w p l) (hl:l.length≤9223372036854775807):
 Calls Tryz.prog 203 #[.pointer (some ⟨p,0,none⟩)] w (Bn p l 4 w (.int .u32 (num (l.take 4)))):=by
 go_enter Tryz.func203,Tryz.ntmps203
 go_wp2_with fail
 refine(Ir 4 p l _ hR (by omega) hl).mono ?_
 rintro e w1 (⟨hle,rfl,hR1,hf1⟩|⟨hlt,rfl,hf1⟩)
 ·generalize num (l.take 4)=x at*
  go_wp2_with fail
  go_ret
  exact .inl ⟨hle,rfl,hR1,hf1⟩
 ·exact⟨rfl,.inr ⟨hlt,rfl,hf1⟩⟩
end Go.Proofs.YtcllkmllflheiaaGreatDoor
namespace Go.Proofs.YtcllkmllflheiaaGreatDoor
open Go.RowKit Go.Proofs
attribute [local go_sem] aG aD aE aF
theorem CA (l:List UInt8) (w:World) (hl:4≤l.length) (hl2:l.length≤9223372036854775807):
 Calls Tryz.prog 206 #[.string (bs l),.func (.func 203) #[] #[]] w fun e w'=>e= .returned (.tuple #[.int .u32 (num (l.take 4):Int),.int .i64 0])∧Fr noB w w':=by
 refine(Dw 7 (by decide) l w 203 #[] noB (fun x _=>x= .int .u32 (num (l.take 4):Int)) (fun _=>False) (fun _ _ _ x=>x) (fun x _ h=>⟨#[x],rfl,_,h⟩) (fun x _ _ h _=>h) ?_).mono ?_
 ·intro p w1 hp hR hf
  refine(JJ p l w1 hR hl2).mono ?_
  rintro e w2 (⟨_,rfl,_,hf2⟩|⟨hlt,_,_⟩)
  ·exact⟨.inl ⟨_,rfl,rfl⟩,hf2.mono fun k _ h=> .inl h⟩
  ·omega
 ·rintro e w' ⟨⟨x,rfl,rfl⟩|⟨_,h,_⟩,hf⟩
  ·exact⟨rfl,hf⟩
  ·exact h.elim
def eT (os:List aX) (code:UInt8) (more:Bool):Option Nat:=match bF os code with
 |some d=>if d.length=4∨(more=true∧4≤d.length)then some (num (d.take 4))else none
 |none=>none
theorem vA:∀(os:List aX) (c:UInt8) (dd:List UInt8),bF os c=some dd→dd.length≤wtO os
 |[],_,_,h=>by cases h
 |o::r,c,dd,h=>by
  unfold bF at h
  simp only[wtO]
  split at h
  ·cases h;omega
  ·have:=vA r c dd h;omega
theorem fO (d:kF) (A:Option Addr) (cap n:Nat) (code:UInt8) (more:Bool) (w:World) (hn:d.os.length=n) (hA:SlR w noB 2 A n (eA d.os)) (hwt:wtO d.os≤1099511627776):
 Calls Tryz.prog 168 #[.agg #[.bool d.reply,.int .u32 (d.xid:Int),.int .u32 (d.client:Int),.int .u32 (d.yours:Int),.int .u32 (d.next:Int),.int .u8 (d.mac.1.toNat:Int),.int .u8 (d.mac.2.1.toNat:Int),.int .u8 (d.mac.2.2.1.toNat:Int),.int .u8 (d.mac.2.2.2.1.toNat:Int),.int .u8 (d.mac.2.2.2.2.1.toNat:Int),.int .u8 (d.mac.2.2.2.2.2.toNat:Int),.slice A n cap],.int .u8 (code.toNat:Int),.bool more] w fun e w'=>e= .returned (.tuple #[.int .u32 (((eT d.os code more).getD 0:Nat):Int),.bool (eT d.os code more).isSome])∧Fr noB w w':=by
 have hpa:=(Bk.new w 139 #[.bool d.reply,.int .u32 (d.xid:Int),.int .u32 (d.client:Int),.int .u32 (d.yours:Int),.int .u32 (d.next:Int),.int .u8 (d.mac.1.toNat:Int),.int .u8 (d.mac.2.1.toNat:Int),.int .u8 (d.mac.2.2.1.toNat:Int),.int .u8 (d.mac.2.2.2.1.toNat:Int),.int .u8 (d.mac.2.2.2.2.1.toNat:Int),.int .u8 (d.mac.2.2.2.2.2.toNat:Int),.slice A n cap]).cells
 have hf0:Fr noB w (w.alloc (.cells #[.bool d.reply,.int .u32 (d.xid:Int),.int .u32 (d.client:Int),.int .u32 (d.yours:Int),.int .u32 (d.next:Int),.int .u8 (d.mac.1.toNat:Int),.int .u8 (d.mac.2.1.toNat:Int),.int .u8 (d.mac.2.2.1.toNat:Int),.int .u8 (d.mac.2.2.2.1.toNat:Int),.int .u8 (d.mac.2.2.2.2.1.toNat:Int),.int .u8 (d.mac.2.2.2.2.2.toNat:Int),.slice A n cap] 139)):=(Fr.refl _ _).alloc _
 have hnl:n≤1099511627776:=by have:=dO d.os;omega
 have hcall:=EB noB A n cap d.os code _ (hA.keep hf0) (by omega)
 have Hcall:=Lib.hid hcall
 have Hn:=Lib.hid hn
 clear hcall hn
 go_enter Tryz.func168,Tryz.ntmps168
 go_wp2_with fail
 refine Hcall.out.mono ?_
 rintro e w2 ⟨rfl,f2⟩
 have hF2:=hf0.none f2
 clear hpa hf0 f2 Hcall
 cases ho:bF d.os code with
 |none=>
  have hnu:eT d.os code more=none:=by unfold eT;rw[ho]
  have Hh:=Lib.hid (And.intro ho hnu)
  clear ho hnu
  simp only[Option.getD_none,Option.isSome_none]
  go_wp2_with fail
  go_ret2
  exact⟨by rw[Hh.out.2];rfl,hF2⟩
 |some dd=>
  have hdl:=vA d.os code dd ho
  simp only[Option.getD_some,Option.isSome_some]
  have hdl2:dd.length≤1099511627776:=by omega
  by_cases h4:dd.length=4
  ·have hnu:eT d.os code more=some (num (dd.take 4)):=by unfold eT;rw[ho];exact if_pos (.inl h4)
   have b4:((dd.length:Int) !=4)=false:=by simp;omega
   have hr:=fun w=>CA dd w (by omega) (by omega)
   generalize num (dd.take 4)=x at*
   have Hr:=Lib.hid hr
   have Hh:=Lib.hid (And.intro ho (And.intro hnu h4))
   clear ho hnu h4 hr hwt
   go_wp2_with fail
   refine(Hr.out _).mono ?_
   rintro e w3 ⟨rfl,f3⟩
   go_wp2_with fail
   go_ret2
   exact⟨by rw[Hh.out.2.1];rfl,hF2.none f3⟩
  ·have b4:((dd.length:Int) !=4)=true:=by simp;omega
   cases more with
   |false=>
    have hnu:eT d.os code false=none:=by unfold eT;rw[ho];exact if_neg (by rintro(x|⟨x,_⟩);exact h4 x;cases x)
    have Hh:=Lib.hid (And.intro ho (And.intro hnu h4))
    clear ho hnu h4 hwt
    go_wp2_with fail
    go_ret2
    exact⟨by rw[Hh.out.2.1];rfl,hF2⟩
   |true=>
    by_cases h5:4≤dd.length
    ·have hnu:eT d.os code true=some (num (dd.take 4)):=by unfold eT;rw[ho];exact if_pos (.inr ⟨rfl,h5⟩)
     have b5:((dd.length:Int)<4)=False:=by simp;omega
     have hr:=fun w=>CA dd w (by omega) (by omega)
     generalize num (dd.take 4)=x at*
     have Hr:=Lib.hid hr
     have Hh:=Lib.hid (And.intro ho (And.intro hnu (And.intro h4 h5)))
     clear ho hnu h4 hr hwt h5
     go_wp2_with fail
     refine(Hr.out _).mono ?_
     rintro e w3 ⟨rfl,f3⟩
     go_wp2_with fail
     go_ret2
     exact⟨by rw[Hh.out.2.1];rfl,hF2.none f3⟩
    ·have hnu:eT d.os code true=none:=by unfold eT;rw[ho];exact if_neg (by rintro(x|⟨_,x⟩);exact h4 x;exact h5 x)
     have b5:((dd.length:Int)<4)=True:=by simp;omega
     have Hh:=Lib.hid (And.intro ho (And.intro hnu (And.intro h4 h5)))
     clear ho hnu h4 hwt h5
     go_wp2_with fail
     go_ret2
     exact⟨by rw[Hh.out.2.1];rfl,hF2⟩
end Go.Proofs.YtcllkmllflheiaaGreatDoor
namespace Go.Proofs.YtcllkmllflheiaaGreatDoor
open Go.RowKit Go.Proofs
attribute [local simp] eC ibq ibn eqN ltN leN eqL ltL gtL leL geL
attribute [local go_sem] aG aD aE aF
section
variable {P:Program} {opl:List Oper} {Q:Exit→Act→World→Prop} {n:Nat} {u:Nat→Value} {l:List (Nat×Value)} {w:World} {o:Oper} {v:Value} {L:Lay} {s:St} {k:Nat}
theorem dB2 {S:World→Prop} {brk t:List Nat} {c:Bool} {j:Nat} {r:Result Next} (s':St) (ok:s'.Ok) (hB:aC w L s) (hS:∀w',aC w' L s'→Fr (bW L) w w'→S w') (h:∀w',aC w' L s'→Fr (bW L) w w'→wdr P opl Q S brk true t (F n u l) w')
 (hk:Nat.blt j 1000=true:=by rfl) (h0:kdO opl j=2:=by rfl) (ho:opl[j]? =some o:=by rfl) (hw:Region.wanted o (yielded opl.toArray (F n u l).tmps)=true:=by first|exact aL rfl|exact wg rfl rfl rfl|(refine aM rfl (aI (Lib.hid rfl) rfl) ?_;go_simp<;>fail)) (hd:o.dst=none:=by rfl) (hb:(c&& !(brk.contains j))=true:=by rfl)
 (hv:(∀j,w.cell? ⟨L.p,j,none⟩=(eC s L)[j]?)→(∀j,w.frozen? ⟨L.p,j,none⟩=false)→(execOp (F n u l).eval o).run P w=r:=by intro _ _;go_simp;((try with_reducible rfl);done)) (hr:r= .ok .skip (w.setCell ⟨L.p,k,none⟩ v):=by rfl)
 (he:(eC s L).setIfInBounds k v=eC s' L:=by rfl) (hc:s'.c=s.c:=by rfl) (hrx:s'.rx=s.rx:=by rfl) (ht:s'.tx=s.tx:=by rfl) (hm:s'.cache=s.cache:=by rfl) (hi:s'.image=s.image:=by rfl):wdr P opl Q S brk c (j::t) (F n u l) w:=by
 rw[aR,plN hk h0]
 refine E9 (bY ho) hw hb fun K hK=> ?_
 unfold Oper.wp
 rw[hv hB.bk.cells hB.fr,hr]
 have h1:=hB.set1 k v s' he hc hrx ht hm hi ok
 have h2:=mD L w k v
 show K ((F n u l).put o.dst undef) _
 rw[hd]
 refine hK _ _ (hS _ h1 h2) fun _=> ?_
 rw[←aR];exact h _ h1 h2
end
theorem jL (os:List aX) (c:UInt8):St.number os c=eT os c false:=by
 unfold St.number eT
 cases bF os c with
 |none=>rfl
 |some d=>
  simp only
  by_cases h:d.length=4
  ·rw[if_pos h,if_pos (.inl h),List.take_of_length_le (by omega)]
  ·rw[if_neg h,if_neg (by rintro(x|⟨x,_⟩);exact h x;cases x)]
theorem CM:∀(l:List UInt8) (a:Nat),l.foldl (fun n b=>256*n+b.toNat) a<(a+1)*256^l.length
 |[],a=>by simp
 |b::l,a=>by
  have h:=CM l (256*a+b.toNat)
  have hb:=b.toNat_lt
  have h2:(256*a+b.toNat+1)*256^l.length≤((a+1)*256)*256^l.length:=Nat.mul_le_mul_right _ (by omega)
  rw[List.foldl_cons,List.length_cons,Nat.pow_succ,Nat.mul_comm (256^l.length) 256,←Nat.mul_assoc]
  omega
theorem uN (l:List UInt8):num l<256^l.length:=by
 have:=CM l 0
 unfold num;omega
theorem FM (l:List UInt8) (h:l.length≤4):num l<4294967296:=by
 have:=uN l
 exact Nat.lt_of_lt_of_le this (by
  have:(256:Nat)^l.length≤256^4:=Nat.pow_le_pow_right (by decide) h
  omega)
theorem mB (os:List aX) (c:UInt8) (m:Bool) (x:Nat) (h:eT os c m=some x):x<4294967296:=by
 unfold eT at h
 split at h
 ·split at h
  ·cases h;exact FM _ (by rw[List.length_take];omega)
  ·cases h
 ·cases h
theorem Ba (L:Lay) (s:St) (d:kF) (A:Option Addr) (cap n time:Nat) (w:World) (h:aC w L s) (hn:d.os.length=n) (hA:SlR w (bW L) 2 A n (eA d.os)) (hwt:wtO d.os≤1099511627776) (htm:time<4294967296):
 Calls Tryz.prog 207 #[.pointer (some ⟨L.p,0,none⟩),.agg #[.bool d.reply,.int .u32 (d.xid:Int),.int .u32 (d.client:Int),.int .u32 (d.yours:Int),.int .u32 (d.next:Int),.int .u8 (d.mac.1.toNat:Int),.int .u8 (d.mac.2.1.toNat:Int),.int .u8 (d.mac.2.2.1.toNat:Int),.int .u8 (d.mac.2.2.2.1.toNat:Int),.int .u8 (d.mac.2.2.2.2.1.toNat:Int),.int .u8 (d.mac.2.2.2.2.2.toNat:Int),.slice A n cap],.int .u32 (time:Int)] w (cH L (s.times d time) (.tuple #[]) w):=by
 obtain⟨r,hr⟩:∃r,r=s.times d time:=⟨_,rfl⟩
 rw[←hr]
 unfold St.times at hr
 simp only[jL]at hr
 have Hgn:=Lib.hid (show ¬bW L w.heap.size from fun hx=>Nat.lt_irrefl _ (h.lt _ hx))
 refine en Tryz.func207 Tryz.ntmps207 ?_
 refine W ?_
 refine sA ?_
 intro w1 hG f1
 replace h:=h.none f1
 generalize w.heap.size=gx at hG Hgn⊢
 refine W ?_
 refine sB {s with t1:=0} {h.ok with} h ?_
 intro w2 h2 f2
 refine W ?_
 refine sB {s with t1:=0,t2:=0} {h2.ok with} h2 ?_
 intro w3 h3 f3
 refine W ?_
 refine sB {s with t1:=0,t2:=0,untl:=0} {h3.ok with} h3 ?_
 intro w4 h4 f4
 have f5:=(f2.trans f3).trans f4
 replace hG:=hG.keep f5 Hgn.out
 have f:=(f1.of_no (bW L)).trans f5
 clear h h2 h3 f1 f2 f3 f4 f5
 by_cases ht:time=4294967295
 ·rw[if_pos ht]at hr
  clear hG hA
  refine W ?_
  exact⟨rfl,by rw[hr];exact h4,f⟩
 rw[if_neg ht]at hr
 have q0:IntKind.i64.wrap (time:Int)=(time:Int):=IntWalk.i64_in _ (by omega)
 have hx0:=mB d.os 58 false
 have hy0:=mB d.os 59 false
 have hA5:=(hA.keep f).sub (T:=noB) (fun _ _ x=>x.elim)
 have HR:=Lib.hid hr
 have HO:=Lib.hid (And.intro hx0 hy0)
 clear hA hr hx0 hy0
 obtain⟨u1,hu1⟩:∃u1,u1=time/2:=⟨_,rfl⟩
 obtain⟨u8,hu8⟩:∃u8,u8=time/8:=⟨_,rfl⟩
 obtain⟨u2,hu2⟩:∃u2,u2=u8*7:=⟨_,rfl⟩
 have qa:(time:Int)/2=(u1:Int):=by omega
 have qb:(time:Int)/8=(u8:Int):=by omega
 have qc:IntKind.i64.wrap ((u8:Int)*7)=(u2:Int):=by rw[IntWalk.i64_in _ (by omega)];omega
 have qa2:IntKind.i64.wrap (u1:Int)=(u1:Int):=IntWalk.i64_in _ (by omega)
 have qb2:IntKind.i64.wrap (u8:Int)=(u8:Int):=IntWalk.i64_in _ (by omega)
 have Hu:=Lib.hid (And.intro hu1 (And.intro hu8 hu2))
 clear hu1 hu8 hu2
 refine W ?_
 clear qa qb qc qa2 qb2
 refine sC (fO d A cap n 58 false w4 hn hA5 hwt) ?_
 intro w5 f5
 replace hG:=hG.keep f5 (fun x=>x)
 refine W ?_
 refine sC (fO d A cap n 59 false w5 hn (hA5.keep f5) hwt) ?_
 intro w6 f6
 replace f5:=f5.none f6
 replace h4:=h4.none f5
 replace f:=f.none f5
 clear hG hA5 f5 f6
 obtain⟨p1,p2,b,hb,hp1,hp2⟩:∃p1 p2 b,b=decide (((eT d.os 58 false).isSome=true∧(eT d.os 59 false).isSome=true)∧(eT d.os 58 false).getD 0<(eT d.os 59 false).getD 0∧(eT d.os 59 false).getD 0<time)∧p1=(if b=true then(eT d.os 58 false).getD 0 else u1)∧p2=(if b=true then(eT d.os 59 false).getD 0 else u2):=⟨_,_,_,rfl,rfl,rfl⟩
 have hr:r={s with t1:=wrap64 (s.now+(p1:Int)),t2:=wrap64 (s.now+(p2:Int)),untl:=wrap64 (s.now+(time:Int))}:=by
  rw[HR.out,hp1,hp2,hb,Hu.out.1,Hu.out.2.2,Hu.out.2.1]
  cases eT d.os 58 false<;>cases eT d.os 59 false<;>simp
  split<;>exact⟨rfl,rfl⟩
 have hx:(eT d.os 58 false).getD 0<4294967296:=by cases e:eT d.os 58 false with|none=>decide|some x=>exact HO.out.1 x e
 have hy:(eT d.os 59 false).getD 0<4294967296:=by cases e:eT d.os 59 false with|none=>decide|some x=>exact HO.out.2 x e
 generalize(eT d.os 58 false).getD 0=x at*
 generalize(eT d.os 59 false).getD 0=y at*
 generalize(eT d.os 58 false).isSome=k1 at*
 generalize(eT d.os 59 false).isSome=k2 at*
 have qx:IntKind.i64.wrap (x:Int)=(x:Int):=IntWalk.i64_in _ (by omega)
 have qy:IntKind.i64.wrap (y:Int)=(y:Int):=IntWalk.i64_in _ (by omega)
 have Hr:=Lib.hid hr
 clear hr hx hy
 refine V ?_
 refine cS ?_
 refine cM [0,6,7] [(8,.int .i64 (p1:Int)),(9,.int .i64 (p2:Int))] (fun w'=>w'=w6) ?_ ?_
 ·cases k1
  rotate_left
  cases k2
  rotate_left
  by_cases a1:x<y
  by_cases a2:y<time
  ·have e1:p1=x:=by rw[hp1,if_pos (by rw[hb];simp[a1,a2])]
   have e2:p2=y:=by rw[hp2,if_pos (by rw[hb];simp[a1,a2])]
   clear hb hp1 hp2 Hr
   refine W ?_
   rw[e1,e2]
   exact mt rfl
  all_goals
   have hbf:¬b=true:=by rw[hb];simp[*]
   have e1:p1=u1:=by rw[hp1,if_neg hbf]
   have e2:p2=u2:=by rw[hp2,if_neg hbf]
   clear hb hp1 hp2 hbf Hr
   refine W ?_
   rw[e1,e2]
   exact mt rfl
 rintro u w' rfl
 clear hb hp1 hp2 qx qy
 refine W ?_
 refine dI (p:=∃a b c,aC w' L {s with t1:=a,t2:=b,untl:=c}∧Fr (bW L) w w') (S:=fun w'=>∃a b c,aC w' L {s with t1:=a,t2:=b,untl:=c}∧Fr (bW L) w w') ⟨0,0,0,h4,f⟩ [] [0,1,2,3,4,5,7,9,10,11,13,15,16,17,19,6,8,12,14,18,20,21,22,23,24,25,26,27,28,29] (hK:=⟨fun _ _ ⟨a,b,c,h,g⟩ fw=>⟨a,b,c,h.none fw,g.none fw⟩⟩) (h:= ?_)
 clear h4 f
 rintro w7 ⟨a,b,c,h7,f7⟩ _
 refine D ?_
 refine dQ (v:= .int .i64 s.now) ?_ ?_
 ·rintro w' ⟨a,b,c,hB,_⟩
  have c16:=hB.g16
  go_simp
 refine D ?_
 refine dQ (v:= .int .i64 s.now) ?_ ?_
 ·rintro w' ⟨a,b,c,hB,_⟩
  have c16:=hB.g16
  go_simp
 refine D ?_
 refine dQ (v:= .int .i64 s.now) ?_ ?_
 ·rintro w' ⟨a,b,c,hB,_⟩
  have c16:=hB.g16
  go_simp
 refine D ?_
 rw[iQ,iQ,iQ]
 refine dB2 {s with t1:=wrap64 (s.now+(p1:Int)),t2:=b,untl:=c} {h7.ok with} h7 (fun w' h g=>⟨_,_,_,h,f7.trans g⟩) ?_
 intro w8 h8 f8
 replace f8:=f7.trans f8
 refine D ?_
 refine dB2 {s with t1:=wrap64 (s.now+(p1:Int)),t2:=wrap64 (s.now+(p2:Int)),untl:=c} {h8.ok with} h8 (fun w' h g=>⟨_,_,_,h,f8.trans g⟩) ?_
 intro w9 h9 f9
 replace f9:=f8.trans f9
 refine D ?_
 refine dB2 {s with t1:=wrap64 (s.now+(p1:Int)),t2:=wrap64 (s.now+(p2:Int)),untl:=wrap64 (s.now+(time:Int))} {h9.ok with} h9 (fun w' h g=>⟨_,_,_,h,f9.trans g⟩) ?_
 intro w10 h10 f10
 refine D ?_
 refine W ?_
 exact⟨rfl,by rw[Hr.out];exact h10,f9.trans f10⟩
end Go.Proofs.YtcllkmllflheiaaGreatDoor
namespace Go.Proofs.YtcllkmllflheiaaGreatDoor
open Go.RowKit Go.Proofs
attribute [local simp] eC ibq ibn eqN ltN leN eqL ltL gtL leL geL
attribute [local go_sem] aG aD aE aF
structure AY (w:World) (L:Lay) (d:kF) (A:Option Addr) (cap n g:Nat):Prop where
 bk:Bk w g 139 #[.bool d.reply,.int .u32 (d.xid:Int),.int .u32 (d.client:Int),.int .u32 (d.yours:Int),.int .u32 (d.next:Int),.int .u8 (d.mac.1.toNat:Int),.int .u8 (d.mac.2.1.toNat:Int),.int .u8 (d.mac.2.2.1.toNat:Int),.int .u8 (d.mac.2.2.2.1.toNat:Int),.int .u8 (d.mac.2.2.2.2.1.toNat:Int),.int .u8 (d.mac.2.2.2.2.2.toNat:Int),.slice A n cap]
 sl:SlR w (bW L) 2 A n (eA d.os)
 ng:¬bW L g
 hn:d.os.length=n
 wt:wtO d.os≤1099511627776
 yours:d.yours<4294967296
 next:d.next<4294967296
theorem AY.keep {w w':World} {L:Lay} {d:kF} {A:Option Addr} {cap n g:Nat} (h:AY w L d A cap n g) (hf:Fr (bW L) w w'):AY w' L d A cap n g:=
 ⟨h.bk.keep hf h.ng,h.sl.keep hf,h.ng,h.hn,h.wt,h.yours,h.next⟩
theorem AY.none {w w':World} {L:Lay} {d:kF} {A:Option Addr} {cap n g:Nat} (h:AY w L d A cap n g) (hf:Fr noB w w'):AY w' L d A cap n g:=h.keep (hf.of_no _)
theorem AQ (os:List aX):St.routerOf os=eT os 3 true:=by
 unfold St.routerOf eT
 cases bF os 3 with
 |none=>rfl
 |some d=>
  simp only
  by_cases h:4≤d.length
  ·rw[if_pos h,if_pos (.inr ⟨trivial,h⟩)]
  ·rw[if_neg h,if_neg (by rintro(x|⟨_,x⟩)<;>omega)]
def St.ackedP (s:St) (d:kF) (fm:Nat):St:=if fm=s.server∨s.lease=6 then s.granted d fm else s
theorem yE (s:St) (d:kF) (t:Nat):(s.times d t).lease=s.lease∧(s.times d t).addr=s.addr∧(s.times d t).now=s.now:=by
 unfold St.times;split<;>exact⟨rfl,rfl,rfl⟩
theorem AS (L:Lay) (s:St) (d:kF) (A:Option Addr) (cap n fm:Nat) (w:World) (h:aC w L s) (hn:d.os.length=n) (hA:SlR w (bW L) 2 A n (eA d.os)) (hwt:wtO d.os≤1099511627776) (hfm:fm<4294967296) (hy:d.yours<4294967296) (hnx:d.next<4294967296):
 Calls Tryz.prog 169 #[.pointer (some ⟨L.p,0,none⟩),.agg #[.bool d.reply,.int .u32 (d.xid:Int),.int .u32 (d.client:Int),.int .u32 (d.yours:Int),.int .u32 (d.next:Int),.int .u8 (d.mac.1.toNat:Int),.int .u8 (d.mac.2.1.toNat:Int),.int .u8 (d.mac.2.2.1.toNat:Int),.int .u8 (d.mac.2.2.2.1.toNat:Int),.int .u8 (d.mac.2.2.2.2.1.toNat:Int),.int .u8 (d.mac.2.2.2.2.2.toNat:Int),.slice A n cap],.int .u32 (fm:Int)] w (cH L (s.ackedP d fm) (.tuple #[]) w):=by
 have num51:St.number d.os 51=eT d.os 51 false:=jL _ _
 refine en Tryz.func169 Tryz.ntmps169 ?_
 refine W ?_
 refine sA ?_
 intro w1 hG f1
 have h1:=h.none f1
 have hD:AY w1 L d A cap n w.heap.size:=⟨hG,hA.keep (f1.of_no _),fun hx=>Nat.lt_irrefl _ (h.lt _ hx),hn,hwt,hy,hnx⟩
 generalize w.heap.size=g at*
 clear hG h
 refine W ?_
 refine sC (fO d A cap n 51 false w1 hn (hD.sl.sub fun b _ x=>x.elim) hwt) ?_
 intro w2 f2
 have h2:=h1.none f2
 have hD2:=hD.none f2
 have f02:=f1.none f2
 clear h1 hD f1 f2
 refine V ?_
 obtain⟨b,hb⟩:∃b,b=decide (s.lease=2∨s.lease=5∨s.lease=6):=⟨_,rfl⟩
 refine cS ?_
 refine cM [0,2,4,6,7,8] [(9,.bool b)] (fun w'=>w'=w2) ?_ ?_
 ·have hlt:s.lease=2∨s.lease=5∨s.lease=6∨s.lease≠2∧s.lease≠5∧s.lease≠6:=by omega
  rcases hlt with y|y|y|⟨y,y',y''⟩<;>refine W ?_<;>exact mt rfl
 intro u w' hw
 subst w'
 refine cS ?_
 refine cS ?_
 have Hb:=Lib.hid hb
 obtain⟨c,hc⟩:∃c,c=decide (¬(b=true∧(eT d.os 51 false).isSome=true∧(eT d.os 51 false).getD 0≠0∧d.yours=s.addr∧(fm=s.server∨s.lease=6))):=⟨_,rfl⟩
 clear hb
 refine cM [0,2,4,6,7] [(74,.bool c)] (fun w'=>Fr noB w2 w') ?_ ?_
 ·cases b
  rotate_left
  by_cases a2:(eT d.os 51 false).isSome=true
  by_cases a3:(eT d.os 51 false).getD 0=0
  rotate_left
  by_cases a4:d.yours=s.addr
  by_cases a5:fm=s.server
  rotate_left
  by_cases a6:s.lease=6
  all_goals
   refine dI (An h2 hD2.bk) [] (up 34 0) (h:= ?_)
   intro w3 hS f3
   refine D ?_
   refine tN ?_
   exact mt f3
 intro u w3 f3
 have h3:=h2.none f3
 have hD3:=hD2.none f3
 have f03:=f02.none f3
 clear h2 hD2 f02 f3
 refine cC (fun h=> ?_) fun h=> ?_
 ·have hno:=of_decide_eq_true (hc.symm.trans h)
  rw[Hb.out,decide_eq_true_eq]at hno
  clear hc
  refine W ?_
  refine⟨rfl,?_,f03.of_no _⟩
  have he:s.ackedP d fm=s:=by
   unfold St.ackedP
   by_cases hk:fm=s.server∨s.lease=6
   ·rw[if_pos hk]
    unfold St.granted
    rw[num51]
    cases hq:eT d.os 51 false with
    |none=>rfl
    |some t=>
     simp only
     rw[if_pos]
     refine Decidable.byContradiction fun hc=>hno ?_
     simp only[not_or,Decidable.not_not]at hc
     rw[hq]
     exact⟨by omega,rfl,hc.2.1,hc.2.2,hk⟩
   ·rw[if_neg hk]
  rw[he];exact h3
 obtain⟨y1,y2,y3,y4,y5⟩:=Decidable.not_not.1 (of_decide_eq_false (hc.symm.trans h))
 rw[Hb.out,decide_eq_true_eq]at y1
 obtain⟨t,ht⟩:=Option.isSome_iff_exists.1 y2
 have htl:=mB _ _ _ _ ht
 rw[ht]at y3⊢
 rw[Option.getD_some]at y3⊢
 clear h hc
 refine W ?_
 refine sB {s with server:=fm} {h3.ok with server:=hfm} h3 ?_
 intro w4 h4 f4
 refine W ?_
 refine sB {s with server:=fm,mask:=4294967295} {h4.ok with mask:=Nat.lt_succ_self _} h4 ?_
 intro w5 h5 f5
 refine W ?_
 refine sB {s with server:=fm,mask:=4294967295,router:=0} {h5.ok with router:=Nat.zero_lt_succ _} h5 ?_
 intro w6 h6 f6
 refine W ?_
 refine sB {s with server:=fm,mask:=4294967295,router:=0,source:=fm} {h6.ok with source:=hfm} h6 ?_
 intro w7 h7 f7
 have f37:=(f03.of_no (bW L)).trans (((f4.trans f5).trans f6).trans f7)
 have hD7:=hD3.keep (((f4.trans f5).trans f6).trans f7)
 clear f4 f5 f6 f7 h4 h5 h6 h3 hD3 f03
 obtain⟨v,hv⟩:∃v:St,v={s with server:=fm,mask:=4294967295,router:=0,source:=fm}:=⟨_,rfl⟩
 rw[←hv]at h7
 have he:s.ackedP d fm=(if v.lease=2 then({({v with mask:=(eT d.os 1 false).getD 4294967295,router:=(eT d.os 3 true).getD 0,source:=if d.next≠0 then d.next else v.source}:St).times d t with lease:=3,lagain:=wrap64 (v.now+2)}:St).ask 0 v.addr else {({v with mask:=(eT d.os 1 false).getD 4294967295,router:=(eT d.os 3 true).getD 0,source:=if d.next≠0 then d.next else v.source}:St).times d t with lease:=4}):=by
  subst hv
  unfold St.ackedP
  rw[if_pos y5]
  unfold St.granted
  rw[num51,ht]
  simp only
  rw[if_neg (by rintro(x|x|x);exact x y1;exact y3 x;exact x y4),jL,AQ]
 have hm:v.mask=4294967295:=by rw[hv]
 have hr:v.router=0:=by rw[hv]
 clear hv y5 y4 y1 y2 Hb num51
 rw[he]
 clear he
 refine V ?_
 refine cS ?_
 refine cM [0,4,6,7] [] (fun w'=>aC w' L {v with mask:=(eT d.os 1 false).getD 4294967295}∧Fr (bW L) w7 w') ?_ ?_
 ·refine W ?_
  refine sC (fO d A cap n 1 false w7 hn (hD7.sl.sub fun b _ x=>x.elim) hwt) ?_
  intro w8 f8
  have h8:=h7.none f8
  cases hq:eT d.os 1 false with
  |none=>refine W ?_;exact mt ⟨by rw[Option.getD_none,←hm];exact h8,f8.of_no _⟩
  |some x=>
   refine W ?_
   refine sB {v with mask:=x} {h8.ok with mask:=mB _ _ _ _ hq} h8 ?_
   intro w9 h9 f9
   refine W ?_
   exact mt ⟨h9,(f8.of_no _).trans f9⟩
 rintro u w8 ⟨h8,f8⟩
 have hD8:=hD7.keep f8
 refine cS ?_
 refine cM [0,4,6,7] [] (fun w'=>aC w' L {v with mask:=(eT d.os 1 false).getD 4294967295,router:=(eT d.os 3 true).getD 0}∧Fr (bW L) w8 w') ?_ ?_
 ·refine W ?_
  refine sC (fO d A cap n 3 true w8 hn (hD8.sl.sub fun b _ x=>x.elim) hwt) ?_
  intro w9 f9
  have h9:=h8.none f9
  cases hq:eT d.os 3 true with
  |none=>refine W ?_;exact mt ⟨by rw[Option.getD_none,←hr];exact h9,f9.of_no _⟩
  |some x=>
   refine W ?_
   refine sB {v with mask:=(eT d.os 1 false).getD 4294967295,router:=x} {h9.ok with router:=mB _ _ _ _ hq} h9 ?_
   intro w10 h10 f10
   refine W ?_
   exact mt ⟨h10,(f9.of_no _).trans f10⟩
 rintro u w9 ⟨h9,f9⟩
 have hD9:=hD8.keep f9
 generalize(eT d.os 1 false).getD 4294967295=m1 at*
 generalize(eT d.os 3 true).getD 0=m2 at*
 refine cS ?_
 refine cM [0,4,6,7] [] (fun w'=>aC w' L {v with mask:=m1,router:=m2,source:=if d.next≠0 then d.next else v.source}∧Fr (bW L) w9 w') ?_ ?_
 ·by_cases hz:d.next=0
  ·refine W ?_
   rw[if_neg (fun x=>x hz)]
   exact mt ⟨h9,Fr.refl _ _⟩
  ·refine W ?_
   rw[if_pos hz]
   refine sB {v with mask:=m1,router:=m2,source:=d.next} {h9.ok with source:=hnx} h9 ?_
   intro w10 h10 f10
   refine W ?_
   exact mt ⟨h10,f10⟩
 rintro u w10 ⟨h10,f10⟩
 have hD10:=hD9.keep f10
 generalize(if d.next≠0 then d.next else v.source)=m3 at*
 refine W ?_
 refine sC (Ba L _ d A cap n t w10 h10 hn hD10.sl hwt htl) ?_
 rintro w11 ⟨h11,f11⟩
 have f:=f37.trans (((f8.trans f9).trans f10).trans f11)
 have hT:=yE ({v with mask:=m1,router:=m2,source:=m3}:St) d t
 clear f8 f9 f10 f11 f37 h10 h9 h8 h7 hD7 hD8 hD9 hD10
 generalize({v with mask:=m1,router:=m2,source:=m3}:St).times d t=x at*
 dsimp only at hT
 obtain⟨t1,t2,t3⟩:=hT
 rw[←t1,←t2,←t3]
 clear t1 t2 t3
 by_cases hl:x.lease=2
 ·rw[if_pos hl]
  refine W ?_
  refine sB {x with lease:=3} {h11.ok with} h11 ?_
  intro w12 h12 f12
  refine W ?_
  rw[iQ]
  refine sB {x with lease:=3,lagain:=wrap64 (x.now+2)} {h12.ok with} h12 ?_
  intro w13 h13 f13
  refine W ?_
  refine sC (rG L _ 0 x.addr w13 h13 (by decide) h13.ok.addr) ?_
  rintro w14 ⟨h14,f14⟩
  refine W ?_
  exact⟨rfl,h14,f.trans ((f12.trans f13).trans f14)⟩
 ·rw[if_neg hl]
  refine W ?_
  refine sB {x with lease:=4} {h11.ok with} h11 ?_
  intro w12 h12 f12
  refine W ?_
  exact⟨rfl,h12,f.trans f12⟩
end Go.Proofs.YtcllkmllflheiaaGreatDoor
namespace Go.Proofs.YtcllkmllflheiaaGreatDoor
open Go.RowKit Go.Proofs
section
variable {P:Program} (w:World)
def nF (P:Program) (e:TypeId) (xs:Array Value) (off:Nat):Option Value:=
 match P.underlying e with
 |some (.struct _)=>some (.agg (xs.extract off (off+P.cellsOf e)))
 |some (.array _ _)=>some (.agg (xs.extract off (off+P.cellsOf e)))
 |some _=>xs[off]?
 |none=>none
theorem lG {e:TypeId} {xs:Array Value} {off:Nat} {a:Value} (h:nF P e xs off=some a):(part e xs off).run P w= .ok a w:=by
 unfold nF at h
 cases hu:P.underlying e with
 |none=>simp[hu]at h
 |some kd=>
  obtain⟨i,hi⟩:=info_of_underlying hu
  cases kd<;>simp[hu]at h<;>first|(subst h;simp[part,isAgg,run_underlying hu,run_sizeOf w hi])|simp[part,isAgg,run_underlying hu,h]
def qT (P:Program):Nat→TypeId→Value→Bool
 |0,_,_=>false
 |m+1,t,v=>match P.underlying t,v with
  |some .bool,.bool _=>true
  |some (.int _),.int _ _=>true
  |some .string,.string _=>true
  |some (.array n e),.agg xs=>(P.info? e).isSome&&(List.range n).all fun i=>match nF P e xs (i*P.cellsOf e)with|some a=>qT P m e a|none=>false
  |some (.struct fs),.agg xs=> !P.stoodInHeld t&&fs.toList.all fun f=>f.name== "_" ||match nF P f.type xs f.offset with|some a=>qT P m f.type a|none=>false
  |_,_=>false
theorem mU (d:Nat) {e:TypeId} {c:Nat} {xs:Array Value}:∀(is:List Nat),
 (∀i∈is,∃a,nF P e xs (i*c)=some a∧(Op.equalIn d e a a).run P w= .ok true w)→(Op.eqItems d e c xs xs is).run P w= .ok true w
 |[],_=>by simp[Op.eqItems]
 |i::is,h=>by
  obtain⟨a,h1,h2⟩:=h i (by simp)
  simp only[Op.eqItems,Sem.run_bind,lG w h1,h2,Result.andThen_ok,Bool.not_true,Bool.false_eq_true,if_false]
  exact mU d is fun j hj=>h j (by simp[hj])
theorem kS (d:Nat) {xs:Array Value}:∀(fs:List Field),
 (∀f∈fs,f.name= "_" ∨∃a,nF P f.type xs f.offset=some a∧(Op.equalIn d f.type a a).run P w= .ok true w)→(Op.eqFields d xs xs fs).run P w= .ok true w
 |[],_=>by simp[Op.eqFields]
 |f::fs,h=>by
  have ih:=kS d fs fun g hg=>h g (by simp[hg])
  unfold Op.eqFields
  rw[Sem.run_ite]
  split
  ·next hn=>
   rcases h f (by simp)with h0|⟨a,h1,h2⟩
   ·exact absurd h0 hn
   ·simp only[Sem.run_bind,lG w h1,h2,Result.andThen_ok,Bool.not_true,Bool.false_eq_true,if_false]
    exact ih
  ·exact ih
theorem iY (d:Nat):∀(m:Nat) (t:TypeId) (v:Value),qT P m t v=true→(Op.equalIn (d+m) t v v).run P w= .ok true w
 |0,t,v,h=>by simp[qT]at h
 |m+1,t,v,h=>by
  unfold qT at h
  cases hu:P.underlying t with
  |none=>simp[hu]at h
  |some kd=>
   simp only[hu]at h
   rw[show d+(m+1)=(d+m)+1 from rfl]
   have h0:=h
   cases kd<;>cases v<;>simp at h
   ·rw[run_equalIn_bool' w (d+m) t _ _ hu];simp
   ·rw[run_equalIn_int w (d+m) t _ _ _ _ hu];simp
   ·rw[run_equalIn_string w (d+m) t _ _ hu];simp
   ·next n e xs=>
    obtain⟨i,hi⟩:=Option.isSome_iff_exists.1 h.1
    rw[run_equalIn_array w (d+m) xs xs hu hi]
    refine mU w (d+m) _ fun j hj=> ?_
    have h2:=h.2 j (by simpa using hj)
    cases hp:nF P e xs (j*P.cellsOf e)with
    |none=>simp[hp]at h2
    |some a=>rw[hp]at h2;exact⟨a,rfl,iY d m e a h2⟩
   ·next fs xs=>
    have hf:P.fieldsOf t=fs:=by unfold Program.fieldsOf;rw[hu]
    rw[run_equalIn_struct w (d+m) t xs xs (by rw[hf];exact hu) h.1,hf]
    refine kS w (d+m) _ fun f hfm=> ?_
    simp only[Bool.and_eq_true]at h0
    have h2:=List.all_eq_true.1 h0.2 f hfm
    simp only[Bool.or_eq_true,beq_iff_eq]at h2
    rcases h2 with h2|h2
    ·exact .inl h2
    ·refine .inr ?_
     cases hp:nF P f.type xs f.offset with
     |none=>simp[hp]at h2
     |some a=>rw[hp]at h2;exact⟨a,rfl,iY d m f.type a h2⟩
theorem Ez {t:TypeId} {xs:Array Value} (h:qT P 8 t (.agg xs)=true):(binOp .eql t (.agg xs) (.agg xs)).run P w= .ok (.bool true) w:=by
 rw[run_eql_struct w t xs xs,show(10000:Nat)=9992+8 from rfl,iY w 9992 8 t (.agg xs) h];rfl
end
end Go.Proofs.YtcllkmllflheiaaGreatDoor
namespace Go.Proofs.YtcllkmllflheiaaGreatDoor
open Go.RowKit Go.Proofs
theorem eM {P:Program} (w:World) (d:Nat) {e:TypeId} {c:Nat} {xs ys:Array Value} {i:Nat} {is:List Nat} (a b:UInt8) (hu:P.underlying e=some (.int .u8))
 (h1:nF P e xs (i*c)=some (.int .u8 (a.toNat:Int))) (h2:nF P e ys (i*c)=some (.int .u8 (b.toNat:Int))):
 (Op.eqItems (d+1) e c xs ys (i::is)).run P w=if a=b then(Op.eqItems (d+1) e c xs ys is).run P w else .ok false w:=by
 simp only[Op.eqItems,Sem.run_bind,lG w h1,lG w h2,Result.andThen_ok,run_equalIn_int w d e _ _ _ _ hu]
 by_cases h:a=b
 ·subst h
  simp
 ·have:((a.toNat:Int)==(b.toNat:Int))=false:=by
   rw[beq_eq_false_iff_ne];intro x;exact h (UInt8.toNat_inj.1 (by omega))
  simp[this,h]
def wT (a:Mac):Array Value:= #[.int .u8 (a.1.toNat:Int),.int .u8 (a.2.1.toNat:Int),.int .u8 (a.2.2.1.toNat:Int),.int .u8 (a.2.2.2.1.toNat:Int),.int .u8 (a.2.2.2.2.1.toNat:Int),.int .u8 (a.2.2.2.2.2.toNat:Int)]
theorem BR (a b:Mac) (w:World):(Op.equalIn 10000 26 (.agg (wT a)) (.agg (wT b))).run Tryz.prog w= .ok (decide (a=b)) w:=by
 obtain⟨a0,a1,a2,a3,a4,a5⟩:=a
 obtain⟨b0,b1,b2,b3,b4,b5⟩:=b
 obtain⟨i,hi⟩:=info_of_underlying (P:=Tryz.prog) Tryz.underlying5
 have hp:∀(xs:Array Value) (k:Nat),nF Tryz.prog 5 xs k=xs[k]? :=fun xs k=>by unfold nF;rw[Tryz.underlying5]
 have hc:Tryz.prog.cellsOf 5=1:=by kernel_rfl
 rw[show(10000:Nat)=9998+1+1 from rfl,run_equalIn_array w (9998+1) _ _ Tryz.underlying26 hi,hc]
 simp only[show(List.range 6)=[0,1,2,3,4,5]from rfl]
 rw[eM w 9998 a0 b0 Tryz.underlying5 (by rw[hp];rfl) (by rw[hp];rfl),eM w 9998 a1 b1 Tryz.underlying5 (by rw[hp];rfl) (by rw[hp];rfl),
  eM w 9998 a2 b2 Tryz.underlying5 (by rw[hp];rfl) (by rw[hp];rfl),eM w 9998 a3 b3 Tryz.underlying5 (by rw[hp];rfl) (by rw[hp];rfl),
  eM w 9998 a4 b4 Tryz.underlying5 (by rw[hp];rfl) (by rw[hp];rfl),eM w 9998 a5 b5 Tryz.underlying5 (by rw[hp];rfl) (by rw[hp];rfl)]
 simp only[Op.eqItems,Sem.run_pure,Prod.mk.injEq]
 by_cases h0:a0=b0<;>simp[h0]
 by_cases h1:a1=b1<;>simp[h1]
 by_cases h2:a2=b2<;>simp[h2]
 by_cases h3:a3=b3<;>simp[h3]
 by_cases h4:a4=b4<;>simp[h4]
 by_cases h5:a5=b5<;>simp[h5]
theorem tI (a b:Mac) (w:World):(binOp .eql 26 (.agg (wT a)) (.agg (wT b))).run Tryz.prog w= .ok (.bool (decide (a=b))) w:=by
 rw[run_eql_struct w _ _ _,BR];rfl
theorem kI (a b:Mac) (w:World):(binOp .neq 26 (.agg (wT a)) (.agg (wT b))).run Tryz.prog w= .ok (.bool (decide (a≠b))) w:=by
 rw[run_neq_struct w _ _ _,BR]
 simp[Result.andThen]
theorem eP:Tryz.prog.eqGuardType Tryz.prog.depth 26=false:=by kernel_rfl
end Go.Proofs.YtcllkmllflheiaaGreatDoor
namespace Go.Proofs.YtcllkmllflheiaaGreatDoor
open Go.RowKit Go.Proofs
attribute [local go_sem] aG aD aE
def Fl (p:Nat) (w:World):Nat:=match w.cell? ⟨p,0,none⟩with
 |some (.string s)=>s.size
 |_=>0
theorem lO {p:Nat} {w:World} {l:List UInt8} (h:Rd w p l):Fl p w=l.length:=by
 unfold Fl
 rw[Bk.cell h 0]
 exact aG l
def prB (p:Nat) (F:Nat→Prop):Nat→Prop:=fun k=>k=p∨F k
def IV (pl:Nat) (F:Nat→Prop) (p:Nat) (os:List aX) (l:List UInt8) (w:World) (e:Ending) (w':World):Prop:=
 (∃os' r,bT os l=some os'∧e= .returned (.tuple #[])∧LsA w' pl F os'∧Rd w' p r∧wtO os'≤wtO os+l.length∧Fr (prB p F) w w')∨
 (bT os l=none∧e= .panicked (cP 1)∧Fr (prB p F) w w')
theorem BA {a:List UInt8} (h:a.length=1):∃c:UInt8,a=[c]∧num a=c.toNat:=by
 match a,h with
 |[c],_=>exact⟨c,rfl,by simp[num]⟩
theorem BC (pl:Nat) (F:Nat→Prop) (p:Nat) (os:List aX) (l:List UInt8) (w:World) (hL:LsA w pl F os) (hR:Rd w p l) (hpb:¬F p) (hF:∀k,w.heap.size≤k→F k) (hwt:wtO os+l.length≤1099511627000):
 Calls Tryz.prog 204 #[.pointer (some ⟨pl,0,none⟩),.pointer (some ⟨p,0,none⟩)] w (IV pl F p os l w):=by
 have HF:=Lib.hid hF
 clear hF
 go_enter Tryz.func204,Tryz.ntmps204
 go_wp2_with fail
 go_loopw [] (fun wr=>∃os1 l1,bT os l=bT os1 l1∧LsA wr pl F os1∧Rd wr p l1∧wtO os1+l1.length≤wtO os+l.length∧Fr (prB p F) w wr) (fun wr=>Fl p wr)
 case atStart=>exact⟨os,l,rfl,hL,hR,by omega,Fr.refl _ _⟩
 case round=>
  obtain⟨os1,l1,e1,hL1,hR1,hw1,hf1⟩:=hrel
  have hno:∀k,F k→¬aJ p k:=fun k hk e=>by unfold aJ at e;exact hpb (e▸hk)
  have hone:∀{x y:World},Fr (aJ p) x y→Fr (prB p F) x y:=fun h=>h.mono fun b _ e=> .inl e
  go_wp2_with fail
  refine(tU8 p l1 _ hR1 (by omega)).mono ?_
  rintro e w2 (⟨a1,r1,c1,b1,rfl,hR2,hf2⟩|⟨hlt,rfl,hf2⟩)
  rotate_left
  ·refine⟨rfl,.inr ⟨?_,rfl,hf1.trans (hone hf2)⟩⟩
   rw[e1,List.eq_nil_of_length_eq_zero (by omega:l1.length=0)];rfl
  obtain⟨c,rfl,hn1⟩:=BA c1.2
  have hl1:l1=c::r1:=c1.1
  have hL2:=hL1.keep hf2 hno
  have hf3:=hf1.trans (hone hf2)
  have hlen:l1.length=r1.length+1:=by rw[hl1];rfl
  have hmu:=lO hR1
  have hmu2:=lO hR2
  have hv:(fun a=>Value.int .u8 (num a)) [c]= .int .u8 (c.toNat:Int):=by simp only[hn1]
  rw[hv]
  clear hv
  have E1:=Lib.hid e1
  have HL1:=Lib.hid hl1
  clear e1 hl1 c1 hn1 hR1 hL1
  by_cases h0:c=0
  ·subst h0
   have hrel2:Hid (bT os l=bT os1 r1):=Lib.hid (by rw[E1.out,HL1.out,wR])
   go_wp2_with fail
   exact⟨⟨os1,r1,hrel2.out,hL2,hR2,by omega,hf3⟩,by omega⟩
  ·have h0i:¬(c.toNat:Int)=0:=fun e=>h0 (UInt8.toNat.inj (by simpa using e))
   by_cases h5:c=255
   ·subst h5
    have hrel2:Hid (bT os l=some os1):=Lib.hid (by rw[E1.out,HL1.out,vV])
    go_wp2_with fail
    refine bodyPost_ret (v:= .tuple #[]) ?_ ?_ ?_
    ·exact results_none rfl _ _ _
    ·rfl
    exact .inl ⟨os1,r1,hrel2.out,rfl,hL2,hR2,by omega,hf3⟩
   ·have h5i:¬(c.toNat:Int)=255:=fun e=>h5 (UInt8.toNat.inj (show c.toNat=255 by omega))
    have H0:=Lib.hid h0
    have H5:=Lib.hid h5
    clear h0 h5
    go_wp2_with fail
    refine(tU8 p r1 _ hR2 (by omega)).mono ?_
    rintro e w3 (⟨a2,r2,c2,b2,rfl,hR3,hf4⟩|⟨hlt,rfl,hf4⟩)
    rotate_left
    ·refine⟨rfl,.inr ⟨?_,rfl,hf3.trans (hone hf4)⟩⟩
     rw[E1.out,HL1.out,List.eq_nil_of_length_eq_zero (by omega:r1.length=0)]
     exact tW _ _ H5.out H0.out
    obtain⟨k,rfl,hn2⟩:=BA c2.2
    have hl2:r1=k::r2:=c2.1
    have hL3:=hL2.keep hf4 hno
    have hf5:=hf3.trans (hone hf4)
    have hlen2:r1.length=r2.length+1:=by rw[hl2];rfl
    have hmu3:=lO hR3
    have hv:(fun a=>Value.int .u8 (num a)) [k]= .int .u8 (k.toNat:Int):=by simp only[hn2]
    rw[hv]
    clear hv
    have HL2:=Lib.hid hl2
    have hk:=k.toNat_lt
    clear hl2 c2 hn2 hR2 hL2
    go_wp2_with fail
    refine(IC k.toNat p r2 _ hR3 (by omega) (by omega)).mono ?_
    rintro e w4 (⟨a3,r3,c3,b3,rfl,hR4,hf6⟩|⟨hlt,rfl,hf6⟩)
    rotate_left
    ·refine⟨rfl,.inr ⟨?_,rfl,hf5.trans (hone hf6)⟩⟩
     rw[E1.out,HL1.out,HL2.out]
     exact oM _ _ _ _ H5.out H0.out hlt
    have hL4:=hL3.keep hf6 hno
    have hf7:=hf5.trans (hone hf6)
    have hl3:r2=a3++r3:=c3.1
    have hla:a3.length=k.toNat:=c3.2
    have hlen3:r2.length=a3.length+r3.length:=by rw[hl3,List.length_append]
    have hmu4:=lO hR4
    have HL3:=Lib.hid hl3
    clear hl3 c3 hR3 hL3
    go_wp2_with fail
    refine(GN pl F os1 c a3 _ hL4 (by omega) (fun k hk=>HF.out k (Nat.le_trans hf7.size hk))).mono ?_
    rintro e w5 ⟨rfl,hL5,hf8⟩
    have hwa:=sI os1 c a3
    have hR5:Rd w5 p r3:=Bk.keep hR4 hf8 hpb
    have hmu5:=lO hR5
    have hf9:Fr (prB p F) w w5:=hf7.trans (hf8.mono fun b _ e=> .inr e)
    have hrel2:Hid (bT os l=bT (eS os1 c a3) r3):=Lib.hid (by
     rw[E1.out,HL1.out,HL2.out,uE _ _ _ _ H5.out H0.out (by omega),HL3.out,←hla,List.take_left,List.drop_left])
    go_wp2_with fail
    exact⟨⟨_,r3,hrel2.out,hL5,hR5,by omega,hf9⟩,by omega⟩
end Go.Proofs.YtcllkmllflheiaaGreatDoor
