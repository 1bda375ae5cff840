/- Parts of the walk; written by programs, merged. -/
import Derived.Test.YtcbkaiakdhiloacGreatDoorRam
import Derived.Lib.ItoaMem
set_option linter.unusedSimpArgs false
set_option linter.unusedVariables false
set_option maxRecDepth 20000
set_option maxHeartbeats 8000000
namespace Go.Proofs.YtcbkaiakdhiloacGreatDoor
open Go.RowKit Go.Proofs
attribute [local go_sem] aG aD aC aE
theorem Fg (s:St):wtO s.both≤1000:=by simp[St.both,wtO,aB]
theorem qS (L:Lay) (s:St) (w:World) (h:aA w L s):
 Calls Tryz.prog 76 #[.pointer (some ⟨L.p,0,none⟩)] w (bH L s.asks (.tuple #[]) w):=by
 have c21:=h.g21
 by_cases hl:s.lease=1
 ·have hu:s.asks=s.say 1 false []:=by unfold St.asks;rw[if_pos hl]
  have b1:((s.lease:Int)==1)=true:=by rw[hl];rfl
  have hcall:=mS L s 1 false [] none 0 0 w h rfl SlR.nil (by decide)
  have Hcall:=Lib.hid hcall
  have Hu:=Lib.hid hu
  clear hcall hu hl
  go_enter Tryz.func76,Tryz.ntmps76
  go_wp2_with fail
  refine Hcall.out.mono ?_
  rintro e w2 ⟨rfl,hM,f2⟩
  go_wp2_with fail
  refine bodyPost_end (results_none rfl _ _ _) rfl ?_
  rw[Hu.out]
  exact⟨rfl,hM,f2⟩
 ·have hu:s.asks=s.say 3 false s.both:=by unfold St.asks;rw[if_neg hl]
  have b1:((s.lease:Int)==1)=false:=by simp;omega
  have Hu:=Lib.hid hu
  clear hu hl
  go_enter Tryz.func76,Tryz.ntmps76
  go_upto_region 2 with fail
  refine wpr (fun w'=>aA w' L s∧Fr noB w w') [16] (.p 0 (.p 1 (.p 2 (.p 3 (.p 4 (.p 8 (.p 9 (.p 10 (.p 11 (.q 5 (.q 12 (.e 6 (.p 7 (.e 13 (.p 14 (.e 15 (.e 16 (.nil)))))))))))))))))) (⟨h.drew,(Fr.refl _ _).drew⟩) ?_
  intro ops Q' hO hQ' wr1 hR1
  iterate 9 refine pP hO ?_
  iterate 2 (refine pQ hO rfl rfl (fun w' hS=>by obtain⟨hB,hF⟩:=hS;have c23:=hB.g23;have c26:=hB.g26;exact qd) ?_)
  refine gD hO rfl rfl rfl (fun K hK=> ?_)
  go_simp
  refine(pJ s.addr _ h.ok.addr).mono ?_
  rintro e w2 ⟨rfl,fw2⟩
  refine hK _ _ (⟨hR1.1.none fw2,hR1.2.none fw2⟩) (fun hR_6=> ?_)
  clear hK K
  refine pP hO ?_
  refine gD hO rfl rfl rfl (fun K hK=> ?_)
  go_simp
  refine(pJ s.server _ h.ok.server).mono ?_
  rintro e w3 ⟨rfl,fw3⟩
  refine hK _ _ (⟨hR_6.1.none fw3,hR_6.2.none fw3⟩) (fun hR_13=> ?_)
  clear hK K
  refine pP hO ?_
  refine gD hO rfl rfl rfl (fun K hK=> ?_)
  go_simp
  refine hK _ _ (⟨hR_13.1.none ((Fr.refl _ _).alloc _),hR_13.2.none ((Fr.refl _ _).alloc _)⟩) (fun hR_15=> ?_)
  clear hK K
  refine iL hO rfl rfl rfl (fun K hK=> ?_)
  go_simp
  refine(mS L s 3 false s.both (some ⟨w3.heap.size,0,none⟩) 2 2 _ hR_15.1 rfl (SlR.of_bk (Bk.new w3 66 #[.int .u8 50,.string (bs (big 4 s.addr)),.int .u8 54,.string (bs (big 4 s.server))]) (fun x=>x) rfl) (Fg s)).mono ?_
  rintro e w4 ⟨rfl,hM4,f4⟩
  refine hK _ _ ?_
  clear hK K
  refine bL (hQ' _ _ ?_)
  go_wp2_with fail
  refine bodyPost_end (results_none rfl _ _ _) rfl ?_
  rw[Hu.out]
  exact⟨rfl,hM4,(hR_15.2.of_no (bM L)).trans f4⟩
theorem yG (L:Lay) (s:St) (l:Nat) (w:World) (h:aA w L s):
 Calls Tryz.prog 75 #[.pointer (some ⟨L.p,0,none⟩),.int .i64 (l:Int)] w (bH L (s.goes l) (.tuple #[]) w):=by
 obtain⟨s2,hs2⟩:∃s2:St,{s with lease:=l,lsends:=1}=s2:=⟨_,rfl⟩
 have hM2:aA ((w.setCell ⟨L.p,21,none⟩ (.int .i64 (l:Int))).setCell ⟨L.p,32,none⟩ (.int .i64 1)) L s2:=by
  rw[←hs2]
  exact(h.set1 21 (.int .i64 (l:Int)) {s with lease:=l} rfl rfl rfl rfl rfl rfl {h.ok with}).set1 32 (.int .i64 1) {s with lease:=l,lsends:=1} rfl rfl rfl rfl rfl rfl {h.ok with lsends:=by show 1≤4;decide}
 have f2:Fr (bM L) w ((w.setCell ⟨L.p,21,none⟩ (.int .i64 (l:Int))).setCell ⟨L.p,32,none⟩ (.int .i64 1)):=(bV L w _ _).trans (bV L _ _ _)
 have c21:=h.g21
 have c32:=h.g32
 have hfz:=h.fr
 go_enter Tryz.func75,Tryz.ntmps75
 go_upto_region 2 with fail
 generalize(w.setCell ⟨L.p,21,none⟩ (.int .i64 (l:Int))).setCell ⟨L.p,32,none⟩ (.int .i64 1)=w2 at*
 have q:=mM (s2.now+s2.wait 0)
 refine wpr (fun w'=>aA w' L s2∧Fr noB w2 w') [11] (.p 0 (.p 1 (.p 2 (.p 3 (.p 5 (.q 4 (.e 6 (.p 7 (.p 8 (.p 9 (.p 10 (.e 11 (.nil))))))))))))) (⟨hM2.drew,(Fr.refl _ _).drew⟩) ?_
 intro ops Q' hO hQ' wr1 hR1
 iterate 5 refine pP hO ?_
 refine pQ hO rfl rfl (fun w' hS=>by obtain⟨hB,hF⟩:=hS;have c16:=hB.g16;exact qd) ?_
 refine gD hO rfl rfl rfl (fun K hK=> ?_)
 go_simp
 refine(lB L s2 0 (by decide) _ hR1.1).mono ?_
 rintro e w5 ⟨rfl,fw5⟩
 refine hK _ _ (⟨hR1.1.none fw5,hR1.2.none fw5⟩) (fun hR_6=> ?_)
 clear hK K
 iterate 4 refine pP hO ?_
 refine iL hO rfl rfl rfl (fun K hK=> ?_)
 have c31:=hR_6.1.g31
 have hfz:=hR_6.1.fr
 go_simp
 refine hK _ _ ?_
 clear hK K
 refine bL (hQ' _ _ ?_)
 have hM6:=hR_6.1.set1 31 (.int .i64 (wrap64 (s2.now+s2.wait 0))) {s2 with lagain:=wrap64 (s2.now+s2.wait 0)} rfl rfl rfl rfl rfl rfl {hR_6.1.ok with}
 have f6:=bV L w5 31 (.int .i64 (wrap64 (s2.now+s2.wait 0)))
 generalize w5.setCell ⟨L.p,31,none⟩ (.int .i64 (wrap64 (s2.now+s2.wait 0)))=w6 at*
 go_wp2_with fail
 refine(qS L _ _ hM6).mono ?_
 rintro e w7 ⟨rfl,hM7,f7⟩
 go_wp2_with fail
 refine bodyPost_end (results_none rfl _ _ _) rfl ?_
 exact⟨rfl,by rw[←hs2]at hM7;exact hM7,f2.trans ((hR_6.2.of_no (bM L)).trans (f6.trans f7))⟩
theorem zL (L:Lay) (s:St) (w:World) (h:aA w L s):
 Calls Tryz.prog 128 #[.pointer (some ⟨L.p,0,none⟩)] w (bC L s.decline (.tuple #[]) w):=by
 go_enter Tryz.func128,Tryz.ntmps128
 go_upto_region 0 with fail
 refine wpr (fun w'=>aA w' L s∧Fr noB w w') [16] (.p 0 (.p 1 (.p 2 (.p 3 (.p 4 (.p 8 (.p 9 (.p 10 (.p 11 (.q 5 (.q 12 (.e 6 (.p 7 (.e 13 (.p 14 (.e 15 (.e 16 (.nil)))))))))))))))))) (⟨h.drew,(Fr.refl _ _).drew⟩) ?_
 intro ops Q' hO hQ' wr1 hR1
 iterate 9 refine pP hO ?_
 iterate 2 (refine pQ hO rfl rfl (fun w' hS=>by obtain⟨hB,hF⟩:=hS;have c23:=hB.g23;have c26:=hB.g26;exact qd) ?_)
 refine gD hO rfl rfl rfl (fun K hK=> ?_)
 go_simp
 refine(pJ s.addr _ h.ok.addr).mono ?_
 rintro e w2 ⟨rfl,fw2⟩
 refine hK _ _ (⟨hR1.1.none fw2,hR1.2.none fw2⟩) (fun hR_6=> ?_)
 clear hK K
 refine pP hO ?_
 refine gD hO rfl rfl rfl (fun K hK=> ?_)
 go_simp
 refine(pJ s.server _ h.ok.server).mono ?_
 rintro e w3 ⟨rfl,fw3⟩
 refine hK _ _ (⟨hR_6.1.none fw3,hR_6.2.none fw3⟩) (fun hR_13=> ?_)
 clear hK K
 refine pP hO ?_
 refine gD hO rfl rfl rfl (fun K hK=> ?_)
 go_simp
 refine hK _ _ (⟨hR_13.1.none ((Fr.refl _ _).alloc _),hR_13.2.none ((Fr.refl _ _).alloc _)⟩) (fun hR_15=> ?_)
 clear hK K
 refine iL hO rfl rfl rfl (fun K hK=> ?_)
 go_simp
 refine(mS L s 4 false s.both (some ⟨w3.heap.size,0,none⟩) 2 2 _ hR_15.1 rfl (SlR.of_bk (Bk.new w3 66 #[.int .u8 50,.string (bs (big 4 s.addr)),.int .u8 54,.string (bs (big 4 s.server))]) (fun x=>x) rfl) (Fg s)).mono ?_
 rintro e w4 ⟨rfl,hM4,f4⟩
 refine hK _ _ ?_
 clear hK K
 refine bL (hQ' _ _ ?_)
 have f5:=(hR_15.2.of_no (bM L)).trans f4
 go_wp2_with fail
 refine(bX L _ _ hM4).mono ?_
 intro e w6 hp
 obtain⟨rfl,hp⟩:=hp
 go_wp2_with fail
 refine bodyPost_end (results_none rfl _ _ _) rfl ?_
 exact bC.comp (L1:=L) rfl (fun b hb=> .inl hb) f5 ⟨rfl,hp⟩
end Go.Proofs.YtcbkaiakdhiloacGreatDoor
namespace Go.Proofs.YtcbkaiakdhiloacGreatDoor
open Go.RowKit Go.Proofs
attribute [local go_sem] aG aD aC aE
theorem DH (l:List UInt8):(Av l).1.length≤1472:=by
 unfold Av;split
 ·simp
 ·simp only[];omega
theorem oN (d:tK):(bU d).1.length≤1472:=by
 unfold bU
 repeat' split
 all_goals first|exact DH _|simp
theorem oM (L:Lay) (s:St) (op bk:Nat) (tx dt:List UInt8) (fs:List eH) (A:Option Addr) (cap n:Nat) (w:World) (h:aA w L s)
 (hop:op<65536) (hbk:bk<65536) (hn:fs.length=n) (hA:SlR w noB 2 A n (gJ fs)) (hnc:n≤cap) (hwf:wtF fs≤1048576) (htx:tx.length≤1048576) (hdt:dt.length≤1048576):
 Calls Tryz.prog 139 #[.pointer (some ⟨L.p,0,none⟩),.agg #[.int .u16 (op:Int),.int .u16 (bk:Int),.string (bs tx),.string (bs dt),.slice A n cap]] w (bH L (s.waits ⟨op,bk,tx,dt,fs⟩) (.tuple #[]) w):=by
 have hpa:=(Bk.new w 123 #[.int .u16 (op:Int),.int .u16 (bk:Int),.string (bs tx),.string (bs dt),.slice A n cap]).cells
 have hf0:Fr noB w (w.alloc (.cells #[.int .u16 (op:Int),.int .u16 (bk:Int),.string (bs tx),.string (bs dt),.slice A n cap] 123)):=(Fr.refl _ _).alloc _
 have hcall:=rR op bk tx dt fs A cap _ hop hbk (by rw[hn];exact hA.keep hf0) (by rw[hn];exact hnc) hwf htx hdt (h.gb.tabs.none hf0)
 obtain⟨lt,hlt'⟩:∃lt,(bU ⟨op,bk,tx,dt,fs⟩).1=lt:=⟨_,rfl⟩
 have hlt:lt.length≤1472:=by rw[←hlt'];exact oN _
 rw[hn]at hcall
 unfold fX at hcall
 rw[hlt']at hcall
 have Hcall:=Lib.hid hcall
 have Hlt:=Lib.hid hlt'
 clear hcall hlt'
 go_enter Tryz.func139,Tryz.ntmps139
 go_wp2_with fail
 refine Hcall.out.mono ?_
 rintro e w2 ⟨rfl,f2⟩
 have hf2:=hf0.none f2
 have hB2:=h.none hf2
 have c43:=hB2.g43
 have c35:=hB2.g35
 have c36:=hB2.g36
 have c33:=hB2.g33
 have c42:=hB2.g42
 have hfz:=hB2.fr
 clear hpa hf0 f2 Hcall
 by_cases hph:s.phase=1
 ·have b1:((s.phase:Int)==1)=true:=by rw[hph];rfl
  obtain⟨s4,hs4⟩:∃s4:St,{s with last:=lt,goal:=69,tsends:=1}=s4:=⟨_,rfl⟩
  have hM4:aA ((((w2.setCell ⟨L.p,43,none⟩ (.string (bs lt))).setCell ⟨L.p,36,none⟩ (.int .u16 (s.peer:Int))).setCell ⟨L.p,36,none⟩ (.int .u16 69)).setCell ⟨L.p,42,none⟩ (.int .i64 1)) L s4:=by
   rw[←hs4]
   exact(((hB2.set1 43 (.string (bs lt)) {s with last:=lt} rfl rfl rfl rfl rfl rfl {h.ok with last:=hlt}).set1 36 (.int .u16 (s.peer:Int)) {s with last:=lt,goal:=s.peer} rfl rfl rfl rfl rfl rfl {h.ok with last:=hlt,goal:=h.ok.peer}).set1 36 (.int .u16 69) {s with last:=lt,goal:=69} rfl rfl rfl rfl rfl rfl {h.ok with last:=hlt,goal:=by show 69<65536;decide}).set1 42 (.int .i64 1) {s with last:=lt,goal:=69,tsends:=1} rfl rfl rfl rfl rfl rfl {h.ok with last:=hlt,goal:=by show 69<65536;decide,tsends:=by show 1≤4;decide}
  have f4:Fr (bM L) w ((((w2.setCell ⟨L.p,43,none⟩ (.string (bs lt))).setCell ⟨L.p,36,none⟩ (.int .u16 (s.peer:Int))).setCell ⟨L.p,36,none⟩ (.int .u16 69)).setCell ⟨L.p,42,none⟩ (.int .i64 1)):=((((hf2.of_no (bM L)).trans (bV L _ 43 _)).trans (bV L _ 36 _)).trans (bV L _ 36 _)).trans (bV L _ 42 _)
  have hwt:s.waits ⟨op,bk,tx,dt,fs⟩={s4 with tagain:=wrap64 (s4.now+s4.wait 0)}:=by rw[←hs4];unfold St.waits;rw[Hlt.out,if_pos hph];first|rfl|done
  clear hph
  go_upto_region 6 with fail
  generalize(((w2.setCell ⟨L.p,43,none⟩ (.string (bs lt))).setCell ⟨L.p,36,none⟩ (.int .u16 (s.peer:Int))).setCell ⟨L.p,36,none⟩ (.int .u16 69)).setCell ⟨L.p,42,none⟩ (.int .i64 1)=w4 at*
  have q:=mM (s4.now+s4.wait 0)
  refine wpr (fun w'=>aA w' L s4∧Fr noB w4 w') [11] (.p 0 (.p 1 (.p 2 (.p 3 (.p 5 (.q 4 (.e 6 (.p 7 (.p 8 (.p 9 (.p 10 (.e 11 (.nil))))))))))))) (⟨hM4.drew,(Fr.refl _ _).drew⟩) ?_
  intro ops Q' hO hQ' wr1 hR1
  iterate 5 refine pP hO ?_
  refine pQ hO rfl rfl (fun w' hS=>by obtain⟨hB,hF⟩:=hS;have c16:=hB.g16;exact qd) ?_
  refine gD hO rfl rfl rfl (fun K hK=> ?_)
  go_simp
  refine(lB L s4 0 (by decide) _ hR1.1).mono ?_
  rintro e w5 ⟨rfl,fw5⟩
  refine hK _ _ (⟨hR1.1.none fw5,hR1.2.none fw5⟩) (fun hR_6=> ?_)
  clear hK K
  iterate 4 refine pP hO ?_
  refine iL hO rfl rfl rfl (fun K hK=> ?_)
  have c41:=hR_6.1.g41
  have hfz:=hR_6.1.fr
  go_simp
  refine hK _ _ ?_
  clear hK K
  refine bL (hQ' _ _ ?_)
  have hM6:=hR_6.1.set1 41 (.int .i64 (wrap64 (s4.now+s4.wait 0))) {s4 with tagain:=wrap64 (s4.now+s4.wait 0)} rfl rfl rfl rfl rfl rfl {hR_6.1.ok with}
  have f6:=bV L w5 41 (.int .i64 (wrap64 (s4.now+s4.wait 0)))
  go_wp2_with fail
  refine bodyPost_end (results_none rfl _ _ _) rfl ?_
  exact⟨rfl,by rw[hwt];exact hM6,f4.trans ((hR_6.2.of_no (bM L)).trans f6)⟩
 ·have b1:((s.phase:Int)==1)=false:=by simp;omega
  obtain⟨s4,hs4⟩:∃s4:St,{s with last:=lt,goal:=s.peer,tsends:=1}=s4:=⟨_,rfl⟩
  have hM4:aA (((w2.setCell ⟨L.p,43,none⟩ (.string (bs lt))).setCell ⟨L.p,36,none⟩ (.int .u16 (s.peer:Int))).setCell ⟨L.p,42,none⟩ (.int .i64 1)) L s4:=by
   rw[←hs4]
   exact((hB2.set1 43 (.string (bs lt)) {s with last:=lt} rfl rfl rfl rfl rfl rfl {h.ok with last:=hlt}).set1 36 (.int .u16 (s.peer:Int)) {s with last:=lt,goal:=s.peer} rfl rfl rfl rfl rfl rfl {h.ok with last:=hlt,goal:=h.ok.peer}).set1 42 (.int .i64 1) {s with last:=lt,goal:=s.peer,tsends:=1} rfl rfl rfl rfl rfl rfl {h.ok with last:=hlt,goal:=h.ok.peer,tsends:=by show 1≤4;decide}
  have f4:Fr (bM L) w (((w2.setCell ⟨L.p,43,none⟩ (.string (bs lt))).setCell ⟨L.p,36,none⟩ (.int .u16 (s.peer:Int))).setCell ⟨L.p,42,none⟩ (.int .i64 1)):=(((hf2.of_no (bM L)).trans (bV L _ 43 _)).trans (bV L _ 36 _)).trans (bV L _ 42 _)
  have hwt:s.waits ⟨op,bk,tx,dt,fs⟩={s4 with tagain:=wrap64 (s4.now+s4.wait 0)}:=by rw[←hs4];unfold St.waits;rw[Hlt.out,if_neg hph];first|rfl|done
  clear hph
  go_upto_region 6 with fail
  generalize((w2.setCell ⟨L.p,43,none⟩ (.string (bs lt))).setCell ⟨L.p,36,none⟩ (.int .u16 (s.peer:Int))).setCell ⟨L.p,42,none⟩ (.int .i64 1)=w4 at*
  have q:=mM (s4.now+s4.wait 0)
  refine wpr (fun w'=>aA w' L s4∧Fr noB w4 w') [11] (.p 0 (.p 1 (.p 2 (.p 3 (.p 5 (.q 4 (.e 6 (.p 7 (.p 8 (.p 9 (.p 10 (.e 11 (.nil))))))))))))) (⟨hM4.drew,(Fr.refl _ _).drew⟩) ?_
  intro ops Q' hO hQ' wr1 hR1
  iterate 5 refine pP hO ?_
  refine pQ hO rfl rfl (fun w' hS=>by obtain⟨hB,hF⟩:=hS;have c16:=hB.g16;exact qd) ?_
  refine gD hO rfl rfl rfl (fun K hK=> ?_)
  go_simp
  refine(lB L s4 0 (by decide) _ hR1.1).mono ?_
  rintro e w5 ⟨rfl,fw5⟩
  refine hK _ _ (⟨hR1.1.none fw5,hR1.2.none fw5⟩) (fun hR_6=> ?_)
  clear hK K
  iterate 4 refine pP hO ?_
  refine iL hO rfl rfl rfl (fun K hK=> ?_)
  have c41:=hR_6.1.g41
  have hfz:=hR_6.1.fr
  go_simp
  refine hK _ _ ?_
  clear hK K
  refine bL (hQ' _ _ ?_)
  have hM6:=hR_6.1.set1 41 (.int .i64 (wrap64 (s4.now+s4.wait 0))) {s4 with tagain:=wrap64 (s4.now+s4.wait 0)} rfl rfl rfl rfl rfl rfl {hR_6.1.ok with}
  have f6:=bV L w5 41 (.int .i64 (wrap64 (s4.now+s4.wait 0)))
  go_wp2_with fail
  refine bodyPost_end (results_none rfl _ _ _) rfl ?_
  exact⟨rfl,by rw[hwt];exact hM6,f4.trans ((hR_6.2.of_no (bM L)).trans f6)⟩
theorem pV (L:Lay) (s:St) (w:World) (h:aA w L s):
 Calls Tryz.prog 237 #[.pointer (some ⟨L.p,0,none⟩)] w (bH L s.got (.tuple #[]) w):=by
 have c39:=h.g39
 obtain⟨nx,hnx⟩:∃nx,s.next%65536=nx:=⟨_,rfl⟩
 rw[hnx]at c39
 obtain⟨bk,hbk⟩:∃bk,(s.next+65535)%65536=bk:=⟨_,rfl⟩
 have hbl:bk<65536:=by omega
 have q:IntKind.u16.wrap ((nx:Int)-1)=(bk:Int):=by rw[IntKind.wrap_u16];omega
 have hcall:=oM L s 4 bk [] [] [] none 0 0 w h (by decide) hbl rfl SlR.nil (Nat.le_refl 0) (by decide) (by decide) (by decide)
 have Hcall:=Lib.hid hcall
 have Hbk:=Lib.hid hbk
 clear hcall hbk hnx
 go_enter Tryz.func237,Tryz.ntmps237
 go_wp2_with fail
 refine Hcall.out.mono ?_
 rintro e w2 ⟨rfl,hM2,f2⟩
 obtain⟨s2,hs2⟩:∃s2,s.waits ⟨4,bk,[],[],[]⟩=s2:=⟨_,rfl⟩
 rw[hs2]at hM2
 have hgot:s.got=({s2 with came:=0}:St).tell:=by unfold St.got;rw[Hbk.out,hs2]
 have Hgot:=Lib.hid hgot
 clear hgot hs2 c39
 have hM3:=hM2.set1 40 (.int .i64 0) {s2 with came:=0} rfl rfl rfl rfl rfl rfl {hM2.ok with}
 have f3:=bV L w2 40 (.int .i64 0)
 have c40:=hM2.g40
 have hfz:=hM2.fr
 go_upto_region 2 with fail
 obtain⟨s3,hs3⟩:∃s3:St,{s2 with came:=0}=s3:=⟨_,rfl⟩
 rw[hs3]at hM3 Hgot
 generalize w2.setCell ⟨L.p,40,none⟩ (.int .i64 0)=w3 at*
 have c43:=hM3.g43
 clear c40 hfz hM2 hs3
 go_wp2_with fail
 refine(rQ L s3 s3.last w3 hM3 (by have:=hM3.ok.last;omega)).mono ?_
 rintro e w4 ⟨rfl,hM4,f4⟩
 go_wp2_with fail
 refine bodyPost_end (results_none rfl _ _ _) rfl ?_
 rw[Hgot.out]
 exact⟨rfl,hM4,(f2.trans f3).trans f4⟩
end Go.Proofs.YtcbkaiakdhiloacGreatDoor
namespace Go.Proofs.YtcbkaiakdhiloacGreatDoor
open Go.RowKit Go.Proofs
attribute [local go_sem] aG aD aC aE
theorem uW:∀(f n:Nat),n<f→wN f n=Lib.decDigits n
 |0,n,h=>absurd h (Nat.not_lt_zero n)
 |f+1,n,h=>by
  unfold wN
  rw[Lib.decDigits]
  by_cases h1:n<10
  ·rw[if_pos h1,dif_pos h1]
  ·rw[if_neg h1,dif_neg h1,uW f (n/10) (by omega)]
theorem Bg:∀(f n:Nat),(wN f n).length≤f
 |0,_=>Nat.le_refl _
 |f+1,n=>by
  unfold wN
  split
  ·simp
  ·have:=Bg f (n/10)
   rw[List.length_append,List.length_singleton];omega
theorem IH (w:World) (k:Nat) (os:Array Obj):Fr noB w (Sort.grow (w.drewN k) os):=
 ⟨rfl,rfl,rfl,by show w.heap.size≤(w.heap++os).size;simp,fun b hb _=>by show(w.heap++os)[b]? =_;rw[Array.getElem?_append_left hb]⟩
theorem Ck (n:Nat) (w:World) (hn:n≤600000) (h:Glb w):
 Calls Tryz.prog 138 #[.int .i64 (n:Int)] w fun e w'=>e= .returned (.string (bs (dec n)))∧Fr noB w w':=by
 refine(Tryz.strconv_Itoa (n:Int) (by omega) (by omega) w h.pow).mono ?_
 rintro e w' ⟨rfl,k,os,rfl⟩
 refine⟨?_,IH w k os⟩
 rw[Lib.itoa_nonneg,show dec n=Lib.decDigits n from uW (n+1) n (by omega)]
 rfl
theorem Ez (L:Lay) (s:St) (w:World) (h:aA w L s):
 Calls Tryz.prog 77 #[.pointer (some ⟨L.p,0,none⟩)] w (bC L s.read (.tuple #[]) w):=by
 obtain⟨d6,hd6⟩:∃d6,s.draw%60000=d6:=⟨_,rfl⟩
 obtain⟨pt,hpt⟩:∃pt,1024+d6=pt:=⟨_,rfl⟩
 have qt:Int.tmod (s.draw:Int) 60000=(d6:Int):=by rw[Int.tmod_eq_emod_of_nonneg (by omega)];omega
 have qe:(s.draw:Int)%60000=(d6:Int):=by omega
 have q2:IntKind.u32.wrap (1024+(d6:Int))=(pt:Int):=by rw[IntKind.wrap_u32'];omega
 have q3:IntKind.u16.wrap (pt:Int)=(pt:Int):=by rw[IntKind.wrap_u16];omega
 have hptl:pt<65536:=by omega
 have Hpt:Hid (1024+s.draw%60000=pt):=Lib.hid (by omega)
 clear hd6 hpt
 obtain⟨w1,hw1⟩:∃w1,((((((((((((w.setCell ⟨L.p,33,none⟩ (.int .i64 1)).setCell ⟨L.p,34,none⟩ (.int .u16 (pt:Int))).setCell ⟨L.p,35,none⟩ (.int .u16 0)).setCell ⟨L.p,36,none⟩ (.int .u16 0)).setCell ⟨L.p,37,none⟩ (.int .i64 512)).setCell ⟨L.p,38,none⟩ (.int .i64 1)).setCell ⟨L.p,39,none⟩ (.int .u16 1)).setCell ⟨L.p,40,none⟩ (.int .i64 0)).setCell ⟨L.p,41,none⟩ (.int .i64 0)).setCell ⟨L.p,42,none⟩ (.int .i64 0)).setCell ⟨L.p,43,none⟩ (.string ⟨#[]⟩)).setCell ⟨L.p,44,none⟩ (.slice none 0 0))=w1:=⟨_,rfl⟩
 obtain⟨s1,hs1⟩:∃s1:St,{s with phase:=1,port:=pt,peer:=0,goal:=0,block:=512,wind:=1,next:=1,came:=0,tagain:=0,tsends:=0,last:=[],image:=[]}=s1:=⟨_,rfl⟩
 obtain⟨L1,hL1⟩:∃L1:Lay,{L with img:=none,icap:=0}=L1:=⟨_,rfl⟩
 have hce0:(((((((((((((dM s L).setIfInBounds 33 (.int .i64 1)).setIfInBounds 34 (.int .u16 (pt:Int))).setIfInBounds 35 (.int .u16 0)).setIfInBounds 36 (.int .u16 0)).setIfInBounds 37 (.int .i64 512)).setIfInBounds 38 (.int .i64 1)).setIfInBounds 39 (.int .u16 1)).setIfInBounds 40 (.int .i64 0)).setIfInBounds 41 (.int .i64 0)).setIfInBounds 42 (.int .i64 0)).setIfInBounds 43 (.string ⟨#[]⟩)).setIfInBounds 44 (.slice none 0 0))=dM s1 L1:=by
  rw[←hs1,←hL1]
  unfold dM
  simp only[List.setIfInBounds_toArray,List.set_cons_zero,List.set_cons_succ]
  rfl
 have hb1:Bk w1 L.p 106 (dM s1 L1):=by rw[←hw1,←hce0];exact((((((((((((h.bk.set 33 (.int .i64 1)).set 34 (.int .u16 (pt:Int))).set 35 (.int .u16 0)).set 36 (.int .u16 0)).set 37 (.int .i64 512)).set 38 (.int .i64 1)).set 39 (.int .u16 1)).set 40 (.int .i64 0)).set 41 (.int .i64 0)).set 42 (.int .i64 0)).set 43 (.string ⟨#[]⟩)).set 44 (.slice none 0 0))
 clear hce0
 have hf1:Fr (aI L.p) w w1:=by rw[←hw1];exact(((((((((((((Fr.refl (aI L.p) w).setCell (p:=⟨L.p,33,none⟩) (fun _=>rfl) (.int .i64 1)).setCell (p:=⟨L.p,34,none⟩) (fun _=>rfl) (.int .u16 (pt:Int))).setCell (p:=⟨L.p,35,none⟩) (fun _=>rfl) (.int .u16 0)).setCell (p:=⟨L.p,36,none⟩) (fun _=>rfl) (.int .u16 0)).setCell (p:=⟨L.p,37,none⟩) (fun _=>rfl) (.int .i64 512)).setCell (p:=⟨L.p,38,none⟩) (fun _=>rfl) (.int .i64 1)).setCell (p:=⟨L.p,39,none⟩) (fun _=>rfl) (.int .u16 1)).setCell (p:=⟨L.p,40,none⟩) (fun _=>rfl) (.int .i64 0)).setCell (p:=⟨L.p,41,none⟩) (fun _=>rfl) (.int .i64 0)).setCell (p:=⟨L.p,42,none⟩) (fun _=>rfl) (.int .i64 0)).setCell (p:=⟨L.p,43,none⟩) (fun _=>rfl) (.string ⟨#[]⟩)).setCell (p:=⟨L.p,44,none⟩) (fun _=>rfl) (.slice none 0 0))
 have Hw1:=Lib.hid hw1
 clear hw1
 have hown:∀b,bM L1 b→bM L b:=by
  rw[←hL1]
  rintro b (hb|⟨a,ha,_⟩)
  ·exact .inl hb
  ·cases ha
 have hL1p:L1.p=L.p:=by rw[←hL1]
 have hn:=h.ne
 simp only[Lay.blocks,List.nodup_cons,List.mem_cons,List.not_mem_nil,or_false,not_or]at hn
 obtain⟨⟨n1,n2,n3,n4,n5⟩,_⟩:=hn
 have hM1:aA w1 L1 s1:=by
  rw[←hs1,←hL1]
  rw[←hs1,←hL1]at hb1
  exact⟨hb1,h.rx.keep hf1 (fun x=>n1 x.symm) (fun x=>n2 x.symm),h.tx.keep hf1 (fun x=>n3 x.symm) (fun x=>n4 x.symm),h.mp.keep hf1 (fun x=>n5 x.symm),⟨by simp[u8s],.inl ⟨rfl,rfl⟩⟩,h.ne,(fun a ha=>by cases ha),
   {h.ok with port:=hptl,peer:=by show 0<65536;decide,goal:=by show 0<65536;decide,blk:=by show 512≤1024;decide,wind:=by show 1≤8;decide,next:=by simp,tsends:=by show 0≤4;decide,last:=by simp,image:=by simp},
   h.gb.keep hf1 (fun b hb x=>h.gd _ (nH L) (x▸hb)),fun b hb=>h.gd b (by rcases hb with hb|⟨a,ha,_⟩;exact .inl hb;cases ha)⟩
 have Hf1:Hid (Fr (bM L) w w1):=Lib.hid (hf1.mono fun b _ hb=>by obtain rfl:b=L.p:=hb;exact nH L)
 have hcb:s1.c.block≤1024:=hM1.ok.block
 have hcw:s1.c.window≤8:=hM1.ok.window
 have Hwf:Hid (wtF [⟨St.bNm,dec s1.c.block⟩,⟨St.wNm,dec s1.c.window⟩,⟨St.tNm,[48]⟩]≤1048576):=Lib.hid (by
  have e1:=Bg (s1.c.block+1) s1.c.block
  have e2:=Bg (s1.c.window+1) s1.c.window
  simp only[wtF,St.bNm,St.wNm,St.tNm,List.length_cons,List.length_nil,dec]
  omega)
 have Hs1:=Lib.hid hs1
 clear hs1 hcb hcw hb1 hf1 hL1
 have c33:=h.g33
 have c34:=h.g34
 have c35:=h.g35
 have c36:=h.g36
 have c37:=h.g37
 have c38:=h.g38
 have c39:=h.g39
 have c40:=h.g40
 have c41:=h.g41
 have c42:=h.g42
 have c43:=h.g43
 have c44:=h.g44
 have hfz:=h.fr
 have c17:=h.g17
 go_enter Tryz.func77,Tryz.ntmps77
 go_upto_region 1 with fail
 rw[Hw1.out]
 rw[←hL1p]
 have HL1p:=Lib.hid hL1p
 clear hL1p
 refine wpr (fun w'=>aA w' L1 s1∧Fr noB w1 w') [] (.p 0 (.p 1 (.p 2 (.p 3 (.p 7 (.p 8 (.p 9 (.p 10 (.p 14 (.q 4 (.q 11 (.e 5 (.p 6 (.e 12 (.p 13 (.e 15 (.p 16 .nil))))))))))))))))) (⟨hM1.drew,(Fr.refl _ _).drew⟩) ?_
 intro ops Q' hO hQ' wr1 hR1
 iterate 9 refine pP hO ?_
 iterate 2 (refine pQ hO rfl rfl (fun w' hS=>by obtain⟨hB,hF⟩:=hS;have c9:=hB.g9;have c10:=hB.g10;exact qd) ?_)
 refine gD hO rfl rfl rfl (fun K hK=> ?_)
 go_simp
 refine(Ck s1.c.block _ (Nat.le_trans hM1.ok.block (by decide)) hR1.1.gb).mono ?_
 rintro e w2 ⟨rfl,fw2⟩
 refine hK _ _ (⟨hR1.1.none fw2,hR1.2.none fw2⟩) (fun hR_5=> ?_)
 clear hK K
 refine pP hO ?_
 refine gD hO rfl rfl rfl (fun K hK=> ?_)
 go_simp
 refine(Ck s1.c.window _ (Nat.le_trans hM1.ok.window (by decide)) hR_5.1.gb).mono ?_
 rintro e w3 ⟨rfl,fw3⟩
 refine hK _ _ (⟨hR_5.1.none fw3,hR_5.2.none fw3⟩) (fun hR_12=> ?_)
 clear hK K
 refine pP hO ?_
 refine gD hO rfl rfl rfl (fun K hK=> ?_)
 go_simp
 refine hK _ _ (⟨hR_12.1.none ((Fr.refl _ _).alloc _),hR_12.2.none ((Fr.refl _ _).alloc _)⟩) (fun hR_15=> ?_)
 clear hK K
 refine pP hO ?_
 refine bL (hQ' _ _ ?_)
 have hM4:=hR_15.1
 have hF4:=hR_15.2
 have hsl:SlR (w3.alloc (.cells #[.string ⟨#[98,108,107,115,105,122,101]⟩,.string (bs (dec s1.c.block)),.string ⟨#[119,105,110,100,111,119,115,105,122,101]⟩,.string (bs (dec s1.c.window)),.string ⟨#[116,115,105,122,101]⟩,.string ⟨#[48]⟩] 196)) noB 2 (some ⟨w3.heap.size,0,none⟩) 3 (gJ [⟨St.bNm,dec s1.c.block⟩,⟨St.wNm,dec s1.c.window⟩,⟨St.tNm,[48]⟩]):=SlR.of_bk (Bk.new w3 196 #[.string ⟨#[98,108,107,115,105,122,101]⟩,.string (bs (dec s1.c.block)),.string ⟨#[119,105,110,100,111,119,115,105,122,101]⟩,.string (bs (dec s1.c.window)),.string ⟨#[116,115,105,122,101]⟩,.string ⟨#[48]⟩]) (fun x=>x) rfl
 obtain⟨g3,hg3⟩:∃g3,w3.heap.size=g3:=⟨_,rfl⟩
 rw[hg3]at hsl⊢
 have Hg3:=Lib.hid hg3
 generalize w3.alloc (.cells #[.string ⟨#[98,108,107,115,105,122,101]⟩,.string (bs (dec s1.c.block)),.string ⟨#[119,105,110,100,111,119,115,105,122,101]⟩,.string (bs (dec s1.c.window)),.string ⟨#[116,115,105,122,101]⟩,.string ⟨#[48]⟩] 196)=w4 at*
 have Hsl:=Lib.hid hsl
 clear hsl hg3 hR_15 hR1
 have c6:=hM4.g6
 go_wp2_with fail
 refine(oM L1 s1 1 0 s1.c.name [] [⟨St.bNm,dec s1.c.block⟩,⟨St.wNm,dec s1.c.window⟩,⟨St.tNm,[48]⟩] (some ⟨g3,0,none⟩) 3 3 w4 hM4 (by decide) (by decide) rfl Hsl.out (by decide) Hwf.out (by have:=hM4.ok.name;omega) (by decide)).mono ?_
 rintro e w5 ⟨rfl,hM5,f5⟩
 obtain⟨s5,hs5⟩:∃s5,s1.waits ⟨1,0,s1.c.name,[],[⟨St.bNm,dec s1.c.block⟩,⟨St.wNm,dec s1.c.window⟩,⟨St.tNm,[48]⟩]⟩=s5:=⟨_,rfl⟩
 rw[hs5]at hM5
 have hu:s.read=s5.tell:=by rw[←hs5,←Hs1.out,←Hpt.out];rfl
 have Hu:=Lib.hid hu
 have c43:=hM5.g43
 clear hu hs5 c6
 go_wp2_with fail
 refine(rQ L1 s5 s5.last w5 hM5 (by have:=hM5.ok.last;omega)).mono ?_
 rintro e w6 ⟨rfl,hM6,f6⟩
 go_wp2_with fail
 refine bodyPost_end (results_none rfl _ _ _) rfl ⟨rfl,L1,HL1p.out,fun b hb=> .inl (hown b hb),by rw[Hu.out];exact hM6,?_⟩
 exact(Hf1.out.trans (hF4.of_no (bM L))).trans ((f5.trans f6).mono fun b _ hb=>hown b hb)
end Go.Proofs.YtcbkaiakdhiloacGreatDoor
namespace Go.Proofs.YtcbkaiakdhiloacGreatDoor
open Go.RowKit Go.Proofs
attribute [local simp] dM ibq ibn eqN ltN leN eqL ltL gtL leL geL
def St.renew (s:St):St:=
 if s.untl=0 then s
 else if s.untl≤s.now then s.drop
 else if s.t2≤s.now∧s.lease≠6 then({s with lease:=6,lagain:=wrap64 (s.now+8)}:St).say 3 false []
 else if s.t1≤s.now∧s.lease=4 then({s with lease:=5,lagain:=wrap64 (s.now+8)}:St).say 3 true []
 else if s.lease=4∨s.now<s.lagain then s
 else({s with lagain:=wrap64 (s.now+8)}:St).say 3 (s.lease==5) []
theorem C2 (L:Lay) (s:St) (w:World) (h:aA w L s):
 Calls Tryz.prog 78 #[.pointer (some ⟨L.p,0,none⟩),.pointer (some ⟨L.p,21,none⟩)] w (bC L s.renew (.tuple #[]) w):=by
 obtain⟨r,hr⟩:∃r,r=s.renew:=⟨_,rfl⟩
 rw[←hr]
 unfold St.renew at hr
 refine en Tryz.func78 Tryz.ntmps78 ?_
 refine cZ ?_
 by_cases hu:s.untl=0
 ·refine W ?_
  exact bH.two ⟨rfl,by rw[hr,if_pos hu];exact h,Fr.refl _ _⟩
 rw[if_neg hu]at hr
 refine W ?_
 refine uZ ?_
 refine cS ?_
 refine cM [0,1] [] (fun w'=>∃l,aA w' L {s with lease:=l}∧Fr (bM L) w w'∧r=({s with lease:=l,lagain:=wrap64 (s.now+8)}:St).say 3 (l==5) []) ?_ ?_
 ·refine W ?_
  refine dI h [] (up 10 0) (h:= ?_)
  intro w1 h1 f1
  by_cases a1:s.untl≤s.now
  ·refine D ?_
   refine W ?_
   refine sC (rE L s w1 h1) ?_
   intro w2 h2
   refine W ?_
   exact .comp (L1:=L) rfl (fun _=> .inl) (f1.of_no _) ⟨rfl,by rw[hr,if_pos a1];exact h2⟩
  rw[if_neg a1]at hr
  refine D ?_
  refine W ?_
  obtain⟨b,hb⟩:∃b,b=decide (s.t2≤s.now∧s.lease≠6):=⟨_,rfl⟩
  refine cM [0,1] [(21,.bool b)] (fun w'=>aA w' L s∧Fr noB w w') ?_ ?_
  ·refine dI (An h1 f1) [] (up 17 0) (h:= ?_)
   intro w2 h2 _
   by_cases a2:s.t2≤s.now<;>by_cases a3:s.lease=6<;>refine D ?_<;>refine tN ?_<;>exact mt h2
  rintro u w2 ⟨h2,f2⟩
  refine cC (fun e=> ?_) fun e=> ?_
  ·rw[if_pos (of_decide_eq_true (hb.symm.trans e))]at hr
   clear hb
   refine W ?_
   refine sB {s with lease:=6} {h2.ok with} h2 ?_
   intro w3 h3 f3
   refine W ?_
   exact mt ⟨6,h3,(f2.of_no _).trans f3,hr⟩
  rw[if_neg (of_decide_eq_false (hb.symm.trans e))]at hr
  clear hb e h h1 f1
  obtain⟨b,hb⟩:∃b,b=decide (s.t1≤s.now∧s.lease=4):=⟨_,rfl⟩
  refine cS ?_
  refine cM [0,1] [(41,.bool b)] (fun w'=>aA w' L s∧Fr noB w w') ?_ ?_
  ·refine dI (An h2 f2) [] (up 17 0) (h:= ?_)
   intro w2 h2 _
   by_cases a2:s.t1≤s.now<;>by_cases a3:s.lease=4<;>refine D ?_<;>refine tN ?_<;>exact mt h2
  rintro u w3 ⟨h3,f3⟩
  refine cC (fun e=> ?_) fun e=> ?_
  ·rw[if_pos (of_decide_eq_true (hb.symm.trans e))]at hr
   clear hb
   refine W ?_
   refine sB {s with lease:=5} {h3.ok with} h3 ?_
   intro w4 h4 f4
   refine W ?_
   exact mt ⟨5,h4,(f3.of_no _).trans f4,hr⟩
  rw[if_neg (of_decide_eq_false (hb.symm.trans e))]at hr
  clear hb e h2 f2
  refine W ?_
  refine dI (An h3 f3) [] (up 17 0) (h:= ?_)
  rintro w4 ⟨h4,f4⟩ _
  by_cases a2:s.lease=4
  ·refine D ?_
   refine W ?_
   exact bH.two ⟨rfl,by rw[hr,if_pos (.inl a2)];exact h4,f4.of_no _⟩
  by_cases a3:s.now<s.lagain
  ·refine D ?_
   refine W ?_
   exact bH.two ⟨rfl,by rw[hr,if_pos (.inr a3)];exact h4,f4.of_no _⟩
  rw[if_neg (by rintro(x|x);exact a2 x;exact a3 x)]at hr
  refine D ?_
  refine W ?_
  exact mt ⟨s.lease,h4,f4.of_no _,hr⟩
 rintro u w1 ⟨l,h1,f1,e⟩
 clear hr h
 refine W ?_
 rw[mM]
 refine sB {s with lease:=l,lagain:=wrap64 (s.now+8)} {h1.ok with} h1 ?_
 intro w2 h2 f2
 refine W ?_
 by_cases hl:l=5
 ·subst hl
  refine sC (mS L _ 3 true [] none 0 0 w2 h2 rfl .nil (by decide)) ?_
  rintro w3 ⟨h3,f3⟩
  refine W ?_
  exact bH.two ⟨rfl,by rw[e];exact h3,(f1.trans f2).trans f3⟩
 ·have hb:(l==5)=false:=by simpa using hl
  rw[hb]at e
  refine sC (mS L _ 3 false [] none 0 0 w2 h2 rfl .nil (by decide)) ?_
  rintro w3 ⟨h3,f3⟩
  refine W ?_
  exact bH.two ⟨rfl,by rw[e];exact h3,(f1.trans f2).trans f3⟩
end Go.Proofs.YtcbkaiakdhiloacGreatDoor
namespace Go.Proofs.YtcbkaiakdhiloacGreatDoor
open Go.RowKit Go.Proofs
attribute [local go_sem] aG aD aC aE
theorem Lq (L:Lay) (s:St) (w:World) (h:aA w L s) (hl:s.lease=0):
 Calls Tryz.prog 44 #[.pointer (some ⟨L.p,0,none⟩)] w (bH L (({s with xid:=s.draw}:St).goes 1) (.tuple #[]) w):=by
 have c21:=h.g21
 have hfz:=h.fr
 rw[hl]at c21
 have c17:=h.g17
 have c22:=h.g22
 have hM2:=h.set1 22 (.int .u32 (s.draw:Int)) {s with xid:=s.draw} rfl rfl rfl rfl rfl rfl {h.ok with xid:=h.ok.draw}
 go_enter Tryz.func44,Tryz.ntmps44
 go_wp2_with fail
 refine(yG L {s with xid:=s.draw} 1 _ hM2).mono ?_
 rintro e w2 ⟨rfl,hM3,f3⟩
 go_wp2_with fail
 exact bodyPost_end (results_none rfl _ _ _) rfl ⟨rfl,hM3,(bV L w 22 _).trans f3⟩
theorem KW (L:Lay) (s:St) (w:World) (h:aA w L s) (hl:s.lease=1) (h1:s.now<s.lagain):
 Calls Tryz.prog 44 #[.pointer (some ⟨L.p,0,none⟩)] w (bH L s (.tuple #[]) w):=by
 have c21:=h.g21
 have hfz:=h.fr
 rw[hl]at c21
 go_enter Tryz.func44,Tryz.ntmps44
 go_upto_region 8 with fail
 refine wpr (fun w'=>aA w' L s∧Fr noB w w') [] (.p 0 (.p 1 (.p 2 (.p 4 (.p 5 (.p 6 (.q 3 (.q 7 (.p 8 .nil))))))))) (⟨h.drew,(Fr.refl _ _).drew⟩) ?_
 intro ops Q' hO hQ' wr1 hR1
 iterate 6 refine pP hO ?_
 iterate 2 (refine pQ hO rfl rfl (fun w' hS=>by obtain⟨hB,hF⟩:=hS;have c16:=hB.g16;have c31:=hB.g31;have c32:=hB.g32;exact qd) ?_)
 refine pP hO ?_
 refine bL (hQ' _ _ ?_)
 go_wp2_with fail
 exact bodyPost_end (results_none rfl _ _ _) rfl ⟨rfl,hR1.1,hR1.2.of_no _⟩
theorem Ki (L:Lay) (s:St) (w:World) (h:aA w L s) (hl:s.lease=1) (h1:s.lagain≤s.now) (h4:s.lsends=4):
 Calls Tryz.prog 44 #[.pointer (some ⟨L.p,0,none⟩)] w (bC L s.fail (.tuple #[]) w):=by
 have c21:=h.g21
 have hfz:=h.fr
 rw[hl]at c21
 have g1:decide (s.now<s.lagain)=false:=by simp;omega
 go_enter Tryz.func44,Tryz.ntmps44
 go_upto_region 8 with fail
 refine wpr (fun w'=>aA w' L s∧Fr noB w w') [] (.p 0 (.p 1 (.p 2 (.p 4 (.p 5 (.p 6 (.q 3 (.q 7 (.p 8 .nil))))))))) (⟨h.drew,(Fr.refl _ _).drew⟩) ?_
 intro ops Q' hO hQ' wr1 hR1
 iterate 6 refine pP hO ?_
 iterate 2 (refine pQ hO rfl rfl (fun w' hS=>by obtain⟨hB,hF⟩:=hS;have c16:=hB.g16;have c31:=hB.g31;have c32:=hB.g32;exact qd) ?_)
 refine pP hO ?_
 refine bL (hQ' _ _ ?_)
 have d32:=hR1.1.g32
 rw[h4]at d32
 go_wp2_with fail
 refine(bX L s _ hR1.1).mono ?_
 intro e w2 hp
 obtain⟨rfl,hp⟩:=hp
 go_wp2_with fail
 exact bodyPost_end (results_none rfl _ _ _) rfl (bC.comp (L1:=L) rfl (fun b hb=> .inl hb) (hR1.2.of_no _) ⟨rfl,hp⟩)
theorem KB (L:Lay) (s:St) (w:World) (h:aA w L s) (hl:s.lease=1) (h1:s.lagain≤s.now) (h4:s.lsends≠4):
 Calls Tryz.prog 44 #[.pointer (some ⟨L.p,0,none⟩)] w (bH L (({s with lagain:=wrap64 (s.now+s.wait s.lsends),lsends:=s.lsends+1}:St).asks) (.tuple #[]) w):=by
 have c21:=h.g21
 have hfz:=h.fr
 rw[hl]at c21
 have g1:decide (s.now<s.lagain)=false:=by simp;omega
 have b4:((s.lsends:Int)==4)=false:=by simp;omega
 have hls:=h.ok.lsends
 obtain⟨n1,hn1⟩:∃n1,s.lsends+1=n1:=⟨_,rfl⟩
 have hn4:n1≤4:=by omega
 have q1:IntKind.i64.wrap ((s.lsends:Int)+1)=(n1:Int):=by rw[IntWalk.i64_in _ (by omega)];omega
 have q:=mM (s.now+s.wait s.lsends)
 have Hn1:=Lib.hid hn1
 have H4:=Lib.hid h4
 have Hls:=Lib.hid hls
 clear hn1 h4 hls
 go_enter Tryz.func44,Tryz.ntmps44
 go_upto_region 8 with fail
 refine wpr (fun w'=>aA w' L s∧Fr noB w w') [] (.p 0 (.p 1 (.p 2 (.p 4 (.p 5 (.p 6 (.q 3 (.q 7 (.p 8 .nil))))))))) (⟨h.drew,(Fr.refl _ _).drew⟩) ?_
 intro ops Q' hO hQ' wr1 hR1
 iterate 6 refine pP hO ?_
 iterate 2 (refine pQ hO rfl rfl (fun w' hS=>by obtain⟨hB,hF⟩:=hS;have c16:=hB.g16;have c31:=hB.g31;have c32:=hB.g32;exact qd) ?_)
 refine pP hO ?_
 refine bL (hQ' _ _ ?_)
 have d32:=hR1.1.g32
 go_upto_region 11 with fail
 refine wpr (fun w'=>aA w' L s∧Fr noB w w') [14] (.p 0 (.p 1 (.p 2 (.p 3 (.p 5 (.p 6 (.p 7 (.p 8 (.q 4 (.q 9 (.e 10 (.p 11 (.p 12 (.p 13 (.e 14 (.nil)))))))))))))))) (⟨hR1.1.drew,hR1.2.drew⟩) ?_
 intro ops Q' hO hQ' wr2 hR2
 iterate 8 refine pP hO ?_
 iterate 2 (refine pQ hO rfl rfl (fun w' hS=>by obtain⟨hB,hF⟩:=hS;have c16:=hB.g16;have c31:=hB.g31;have c32:=hB.g32;exact qd) ?_)
 refine gD hO rfl rfl rfl (fun K hK=> ?_)
 go_simp
 refine(lB L s s.lsends h.ok.lsends _ hR2.1).mono ?_
 rintro e w5 ⟨rfl,fw5⟩
 refine hK _ _ (⟨hR2.1.none fw5,hR2.2.none fw5⟩) (fun hR_10=> ?_)
 clear hK K
 iterate 3 refine pP hO ?_
 refine iL hO rfl rfl rfl (fun K hK=> ?_)
 have d31:=hR_10.1.g31
 have hfz2:=hR_10.1.fr
 go_simp
 refine hK _ _ ?_
 clear hK K
 refine bL (hQ' _ _ ?_)
 have hM6:=(hR_10.1.set1 31 (.int .i64 (wrap64 (s.now+s.wait s.lsends))) {s with lagain:=wrap64 (s.now+s.wait s.lsends)} rfl rfl rfl rfl rfl rfl {h.ok with})
 have hM7:=hM6.set1 32 (.int .i64 (n1:Int)) {s with lagain:=wrap64 (s.now+s.wait s.lsends),lsends:=n1} rfl rfl rfl rfl rfl rfl {h.ok with lsends:=hn4}
 have f7:=(bV L w5 31 (.int .i64 (wrap64 (s.now+s.wait s.lsends)))).trans (bV L _ 32 (.int .i64 (n1:Int)))
 have d32:=hR_10.1.g32
 have hfz3:=hR_10.1.fr
 go_wp2_with fail
 refine(qS L _ _ hM7).mono ?_
 rintro e w8 ⟨rfl,hM8,f8⟩
 go_wp2_with fail
 refine bodyPost_end (results_none rfl _ _ _) rfl ?_
 rw[Hn1.out]
 exact⟨rfl,hM8,(hR_10.2.of_no (bM L)).trans (f7.trans f8)⟩
theorem JU (L:Lay) (s:St) (w:World) (h:aA w L s) (hl:s.lease=2) (h1:s.now<s.lagain):
 Calls Tryz.prog 44 #[.pointer (some ⟨L.p,0,none⟩)] w (bH L s (.tuple #[]) w):=by
 have c21:=h.g21
 have hfz:=h.fr
 rw[hl]at c21
 go_enter Tryz.func44,Tryz.ntmps44
 go_upto_region 8 with fail
 refine wpr (fun w'=>aA w' L s∧Fr noB w w') [] (.p 0 (.p 1 (.p 2 (.p 4 (.p 5 (.p 6 (.q 3 (.q 7 (.p 8 .nil))))))))) (⟨h.drew,(Fr.refl _ _).drew⟩) ?_
 intro ops Q' hO hQ' wr1 hR1
 iterate 6 refine pP hO ?_
 iterate 2 (refine pQ hO rfl rfl (fun w' hS=>by obtain⟨hB,hF⟩:=hS;have c16:=hB.g16;have c31:=hB.g31;have c32:=hB.g32;exact qd) ?_)
 refine pP hO ?_
 refine bL (hQ' _ _ ?_)
 go_wp2_with fail
 exact bodyPost_end (results_none rfl _ _ _) rfl ⟨rfl,hR1.1,hR1.2.of_no _⟩
theorem K2 (L:Lay) (s:St) (w:World) (h:aA w L s) (hl:s.lease=2) (h1:s.lagain≤s.now) (h4:s.lsends=4):
 Calls Tryz.prog 44 #[.pointer (some ⟨L.p,0,none⟩)] w (bC L s.fail (.tuple #[]) w):=by
 have c21:=h.g21
 have hfz:=h.fr
 rw[hl]at c21
 have g1:decide (s.now<s.lagain)=false:=by simp;omega
 go_enter Tryz.func44,Tryz.ntmps44
 go_upto_region 8 with fail
 refine wpr (fun w'=>aA w' L s∧Fr noB w w') [] (.p 0 (.p 1 (.p 2 (.p 4 (.p 5 (.p 6 (.q 3 (.q 7 (.p 8 .nil))))))))) (⟨h.drew,(Fr.refl _ _).drew⟩) ?_
 intro ops Q' hO hQ' wr1 hR1
 iterate 6 refine pP hO ?_
 iterate 2 (refine pQ hO rfl rfl (fun w' hS=>by obtain⟨hB,hF⟩:=hS;have c16:=hB.g16;have c31:=hB.g31;have c32:=hB.g32;exact qd) ?_)
 refine pP hO ?_
 refine bL (hQ' _ _ ?_)
 have d32:=hR1.1.g32
 rw[h4]at d32
 go_wp2_with fail
 refine(bX L s _ hR1.1).mono ?_
 intro e w2 hp
 obtain⟨rfl,hp⟩:=hp
 go_wp2_with fail
 exact bodyPost_end (results_none rfl _ _ _) rfl (bC.comp (L1:=L) rfl (fun b hb=> .inl hb) (hR1.2.of_no _) ⟨rfl,hp⟩)
theorem JR (L:Lay) (s:St) (w:World) (h:aA w L s) (hl:s.lease=2) (h1:s.lagain≤s.now) (h4:s.lsends≠4):
 Calls Tryz.prog 44 #[.pointer (some ⟨L.p,0,none⟩)] w (bH L (({s with lagain:=wrap64 (s.now+s.wait s.lsends),lsends:=s.lsends+1}:St).asks) (.tuple #[]) w):=by
 have c21:=h.g21
 have hfz:=h.fr
 rw[hl]at c21
 have g1:decide (s.now<s.lagain)=false:=by simp;omega
 have b4:((s.lsends:Int)==4)=false:=by simp;omega
 have hls:=h.ok.lsends
 obtain⟨n1,hn1⟩:∃n1,s.lsends+1=n1:=⟨_,rfl⟩
 have hn4:n1≤4:=by omega
 have q1:IntKind.i64.wrap ((s.lsends:Int)+1)=(n1:Int):=by rw[IntWalk.i64_in _ (by omega)];omega
 have q:=mM (s.now+s.wait s.lsends)
 have Hn1:=Lib.hid hn1
 have H4:=Lib.hid h4
 have Hls:=Lib.hid hls
 clear hn1 h4 hls
 go_enter Tryz.func44,Tryz.ntmps44
 go_upto_region 8 with fail
 refine wpr (fun w'=>aA w' L s∧Fr noB w w') [] (.p 0 (.p 1 (.p 2 (.p 4 (.p 5 (.p 6 (.q 3 (.q 7 (.p 8 .nil))))))))) (⟨h.drew,(Fr.refl _ _).drew⟩) ?_
 intro ops Q' hO hQ' wr1 hR1
 iterate 6 refine pP hO ?_
 iterate 2 (refine pQ hO rfl rfl (fun w' hS=>by obtain⟨hB,hF⟩:=hS;have c16:=hB.g16;have c31:=hB.g31;have c32:=hB.g32;exact qd) ?_)
 refine pP hO ?_
 refine bL (hQ' _ _ ?_)
 have d32:=hR1.1.g32
 go_upto_region 11 with fail
 refine wpr (fun w'=>aA w' L s∧Fr noB w w') [14] (.p 0 (.p 1 (.p 2 (.p 3 (.p 5 (.p 6 (.p 7 (.p 8 (.q 4 (.q 9 (.e 10 (.p 11 (.p 12 (.p 13 (.e 14 (.nil)))))))))))))))) (⟨hR1.1.drew,hR1.2.drew⟩) ?_
 intro ops Q' hO hQ' wr2 hR2
 iterate 8 refine pP hO ?_
 iterate 2 (refine pQ hO rfl rfl (fun w' hS=>by obtain⟨hB,hF⟩:=hS;have c16:=hB.g16;have c31:=hB.g31;have c32:=hB.g32;exact qd) ?_)
 refine gD hO rfl rfl rfl (fun K hK=> ?_)
 go_simp
 refine(lB L s s.lsends h.ok.lsends _ hR2.1).mono ?_
 rintro e w5 ⟨rfl,fw5⟩
 refine hK _ _ (⟨hR2.1.none fw5,hR2.2.none fw5⟩) (fun hR_10=> ?_)
 clear hK K
 iterate 3 refine pP hO ?_
 refine iL hO rfl rfl rfl (fun K hK=> ?_)
 have d31:=hR_10.1.g31
 have hfz2:=hR_10.1.fr
 go_simp
 refine hK _ _ ?_
 clear hK K
 refine bL (hQ' _ _ ?_)
 have hM6:=(hR_10.1.set1 31 (.int .i64 (wrap64 (s.now+s.wait s.lsends))) {s with lagain:=wrap64 (s.now+s.wait s.lsends)} rfl rfl rfl rfl rfl rfl {h.ok with})
 have hM7:=hM6.set1 32 (.int .i64 (n1:Int)) {s with lagain:=wrap64 (s.now+s.wait s.lsends),lsends:=n1} rfl rfl rfl rfl rfl rfl {h.ok with lsends:=hn4}
 have f7:=(bV L w5 31 (.int .i64 (wrap64 (s.now+s.wait s.lsends)))).trans (bV L _ 32 (.int .i64 (n1:Int)))
 have d32:=hR_10.1.g32
 have hfz3:=hR_10.1.fr
 go_wp2_with fail
 refine(qS L _ _ hM7).mono ?_
 rintro e w8 ⟨rfl,hM8,f8⟩
 go_wp2_with fail
 refine bodyPost_end (results_none rfl _ _ _) rfl ?_
 rw[Hn1.out]
 exact⟨rfl,hM8,(hR_10.2.of_no (bM L)).trans (f7.trans f8)⟩
theorem K1 (L:Lay) (s:St) (w:World) (h:aA w L s) (hl:s.lease=3) (h1:s.now<s.lagain):
 Calls Tryz.prog 44 #[.pointer (some ⟨L.p,0,none⟩)] w (bH L s (.tuple #[]) w):=by
 have c21:=h.g21
 have hfz:=h.fr
 rw[hl]at c21
 have g1:decide (s.lagain≤s.now)=false:=by simp;omega
 go_enter Tryz.func44,Tryz.ntmps44
 go_upto_region 15 with fail
 refine wpr (fun w'=>aA w' L s∧Fr noB w w') [] (.p 0 (.p 1 (.p 2 (.p 4 (.p 5 (.p 6 (.q 3 (.q 7 (.p 8 .nil))))))))) (⟨h.drew,(Fr.refl _ _).drew⟩) ?_
 intro ops Q' hO hQ' wr1 hR1
 iterate 6 refine pP hO ?_
 iterate 2 (refine pQ hO rfl rfl (fun w' hS=>by obtain⟨hB,hF⟩:=hS;have c16:=hB.g16;have c31:=hB.g31;have c32:=hB.g32;exact qd) ?_)
 refine pP hO ?_
 refine bL (hQ' _ _ ?_)
 go_wp2_with fail
 exact bodyPost_end (results_none rfl _ _ _) rfl ⟨rfl,hR1.1,hR1.2.of_no _⟩
end Go.Proofs.YtcbkaiakdhiloacGreatDoor
namespace Go.Proofs.YtcbkaiakdhiloacGreatDoor
open Go.RowKit Go.Proofs
attribute [local go_sem] aG aD aC aE
theorem xL (s:St) (h:4≤s.lease):s.leases=s.renew:=by
 rcases s with⟨c,rx,tx,now,draw,boots,lost,id,cache,lease,xid,addr,mask,router,server,source,t1,t2,untl,lagain,lsends,phase,port,peer,block,wind,next,came,tagain,tsends,goal,last,image⟩
 unfold St.leases St.renew
 dsimp only at h⊢
 rw[if_neg (by omega),if_neg (by omega),if_neg (by omega)]
 by_cases hu:untl=0
 ·rw[if_pos hu,if_pos hu]
 rw[if_neg hu,if_neg hu]
 by_cases h1:untl≤now
 ·rw[if_pos h1,if_pos h1]
 rw[if_neg h1,if_neg h1]
 have n1:lease=6→¬lease=4:=by omega
 by_cases h2:t2≤now
 ·by_cases h6:lease=6
  ·subst h6
   by_cases h5:lagain≤now
   ·have h5':¬now<lagain:=by omega
    simp[h2,h5,h5']
   ·have h5':now<lagain:=by omega
    simp[h2,h5,h5']
  ·have h6':¬6=lease:=fun x=>h6 x.symm
   simp[h2,h6,h6']
 ·by_cases h4:lease=4
  ·subst h4
   by_cases h3:t1≤now
   ·simp[h2,h3]
   ·simp[h2,h3]
  ·by_cases h5:lagain≤now
   ·have h5':¬now<lagain:=by omega
    simp[h2,h4,h5,h5']
   ·have h5':now<lagain:=by omega
    simp[h2,h4,h5,h5']
theorem KA (L:Lay) (s:St) (w:World) (h:aA w L s) (hl:s.lease=3) (h1:s.lagain≤s.now):
 Calls Tryz.prog 44 #[.pointer (some ⟨L.p,0,none⟩)] w (bC L (({s with lease:=4}:St).read) (.tuple #[]) w):=by
 have c21:=h.g21
 have hfz:=h.fr
 rw[hl]at c21
 go_enter Tryz.func44,Tryz.ntmps44
 go_upto_region 15 with fail
 refine wpr (fun w'=>aA w' L s∧Fr noB w w') [] (.p 0 (.p 1 (.p 2 (.p 4 (.p 5 (.p 6 (.q 3 (.q 7 (.p 8 .nil))))))))) (⟨h.drew,(Fr.refl _ _).drew⟩) ?_
 intro ops Q' hO hQ' wr1 hR1
 iterate 6 refine pP hO ?_
 iterate 2 (refine pQ hO rfl rfl (fun w' hS=>by obtain⟨hB,hF⟩:=hS;have c16:=hB.g16;have c31:=hB.g31;have c32:=hB.g32;exact qd) ?_)
 refine pP hO ?_
 refine bL (hQ' _ _ ?_)
 have hM2:=hR1.1.set1 21 (.int .i64 4) {s with lease:=4} rfl rfl rfl rfl rfl rfl {h.ok with}
 have d21:=hR1.1.g21
 have hfz2:=hR1.1.fr
 go_wp2_with fail
 refine(Ez L _ _ hM2).mono ?_
 intro e w2 hp
 obtain⟨rfl,hp⟩:=hp
 go_wp2_with fail
 exact bodyPost_end (results_none rfl _ _ _) rfl (bC.comp (L1:=L) rfl (fun b hb=> .inl hb) ((hR1.2.of_no _).trans (bV L _ 21 _)) ⟨rfl,hp⟩)
theorem Mn (L:Lay) (s:St) (w:World) (h:aA w L s) (hl:4≤s.lease):
 Calls Tryz.prog 44 #[.pointer (some ⟨L.p,0,none⟩)] w (bC L s.leases (.tuple #[]) w):=by
 have c21:=h.g21
 have hfz:=h.fr
 have hcall:=C2 L s w h
 rw[←xL s hl]at hcall
 have Hcall:=Lib.hid hcall
 have b0:((s.lease:Int)==0)=false:=by simp;omega
 have b1:((s.lease:Int)==1)=false:=by simp;omega
 have b2:((s.lease:Int)==2)=false:=by simp;omega
 have b3:((s.lease:Int)==3)=false:=by simp;omega
 have Hl:=Lib.hid hl
 clear hcall hl
 go_enter Tryz.func44,Tryz.ntmps44
 go_wp2_with fail
 refine Hcall.out.mono ?_
 intro e w2 hp
 obtain⟨rfl,hp⟩:=hp
 go_wp2_with fail
 exact bodyPost_end (results_none rfl _ _ _) rfl ⟨rfl,hp⟩
theorem tG (L:Lay) (s:St) (w:World) (h:aA w L s):
 Calls Tryz.prog 44 #[.pointer (some ⟨L.p,0,none⟩)] w (bC L s.leases (.tuple #[]) w):=by
 by_cases hl:4≤s.lease
 ·exact Mn L s w h hl
 unfold St.leases
 rcases(by omega:s.lease=0∨s.lease=1∨s.lease=2∨s.lease=3)with h0|h0|h0|h0
 ·rw[if_pos h0];exact(Lq L s w h h0).mono fun _ _ x=>x.two
 ·rw[if_neg (by omega),if_pos (by omega)]
  by_cases h1:s.now<s.lagain
  ·rw[if_pos h1];exact(KW L s w h h0 h1).mono fun _ _ x=>x.two
  rw[if_neg h1]
  by_cases h4:s.lsends=4
  ·rw[if_pos h4];exact Ki L s w h h0 (by omega) h4
  ·rw[if_neg h4];exact(KB L s w h h0 (by omega) h4).mono fun _ _ x=>x.two
 ·rw[if_neg (by omega),if_pos (by omega)]
  by_cases h1:s.now<s.lagain
  ·rw[if_pos h1];exact(JU L s w h h0 h1).mono fun _ _ x=>x.two
  rw[if_neg h1]
  by_cases h4:s.lsends=4
  ·rw[if_pos h4];exact K2 L s w h h0 (by omega) h4
  ·rw[if_neg h4];exact(JR L s w h h0 (by omega) h4).mono fun _ _ x=>x.two
 ·rw[if_neg (by omega),if_neg (by omega),if_pos h0]
  by_cases h1:s.now<s.lagain
  ·rw[if_pos h1];exact(K1 L s w h h0 h1).mono fun _ _ x=>x.two
  ·rw[if_neg h1];exact KA L s w h h0 (by omega)
end Go.Proofs.YtcbkaiakdhiloacGreatDoor
namespace Go.Proofs.YtcbkaiakdhiloacGreatDoor
open Go.RowKit Go.Proofs
attribute [local simp] ltN leN eqL ltL gtL leL geL
theorem En (x:Nat) (h:x<4294967296):4294967295^^^x=4294967295-x:=by
 have h1:(BitVec.allOnes 32^^^BitVec.ofNat 32 x)= ~~~(BitVec.ofNat 32 x):=by rw[BitVec.xor_comm,BitVec.xor_allOnes]
 have h2:=congrArg BitVec.toNat h1
 rw[BitVec.toNat_xor,BitVec.toNat_not,BitVec.toNat_ofNat,BitVec.toNat_allOnes,Nat.mod_eq_of_lt (by omega:x<2^32)]at h2
 simpa using h2
theorem M4 (e:UInt32):bits .xor .u32 (if IntKind.u32.signed=true then-1 else IntKind.u32.max) (e.toNat:Int)=((~~~e).toNat:Int):=by
 have he:=e.toNat_lt
 rw[show(if IntKind.u32.signed=true then(-1:Int)else IntKind.u32.max)=((4294967295:Nat):Int)from rfl,u32_xor_nat _ _ (by omega) (by omega),En _ (by omega),UInt32.toNat_not,show UInt32.size=4294967296 from rfl]
theorem NE (e f g:UInt32):bits .xor .u32 (bits .and .u32 (e.toNat:Int) (f.toNat:Int)) (bits .and .u32 (bits .xor .u32 (if IntKind.u32.signed=true then-1 else IntKind.u32.max) (e.toNat:Int)) (g.toNat:Int))=((chs e f g).toNat:Int):=by
 rw[M4,Km,Km,DE];rfl
theorem KV (i gh gw:Nat) (e f g hh kk xx:UInt32) (a:Act) (w:World) (K:KT) (hs:Sz 195 a)
 (h4:sl a 4= .pointer (some ⟨gw,0,none⟩)) (h11:sl a 11= .pointer (some ⟨gh,0,none⟩)) (h12:sl a 12= .int .i64 (i:Int)) (h13:sl a 13= .int .u32 (e.toNat:Int)) (hi:i<64) (h_7:w.cell? ⟨gh,7,none⟩=some (.int .u32 (hh.toNat:Int))) (h_5:w.cell? ⟨gh,5,none⟩=some (.int .u32 (f.toNat:Int))) (h_6:w.cell? ⟨gh,6,none⟩=some (.int .u32 (g.toNat:Int))) (hk:w.cell? ⟨5,i,none⟩=some (.int .u32 (kk.toNat:Int))) (hx:w.cell? ⟨gw,i,none⟩=some (.int .u32 (xx.toNat:Int)))
 (hK:∀a' w',Sz 195 a'→Kp [0,1,4,5,6,7,8,9,10,11,12,13,14,16,17,18,104,178] a a'→sl a' 15= .int .u32 ((hh+bg1 e+chs e f g+kk+xx).toNat:Int)→Fr noB w w'→K .normal a' w'):
 (aH Tryz.f187 18).wp Tryz.prog K a w:=by
 refine rgE hK (bF hs) fun HK=> ?_;clear hK hs
 have xle:(e.toNat:Int)≤4294967295:=by have:=e.toNat_lt;omega
 have xlf:(f.toNat:Int)≤4294967295:=by have:=f.toNat_lt;omega
 have xlg:(g.toNat:Int)≤4294967295:=by have:=g.toNat_lt;omega
 have xlhh:(hh.toNat:Int)≤4294967295:=by have:=hh.toNat_lt;omega
 have xlkk:(kk.toNat:Int)≤4294967295:=by have:=kk.toNat_lt;omega
 have xlxx:(xx.toNat:Int)≤4294967295:=by have:=xx.toNat_lt;omega
 simp only[fS,h4,h11,h12,h13]
 go_quiet (exact MT _ _ _ _ (by decide))
 exact HK.out _ _ ⟨rfl,rfl⟩ kZ (congrArg (fun v=>Value.int .u32 v) (by rw[Np,NE,UInt32.toNat_add,UInt32.toNat_add,UInt32.toNat_add,UInt32.toNat_add];omega)) ((Fr.refl _ _).drewN _)
theorem K0 (gh:Nat) (x y z:UInt32) (a:Act) (w:World) (K:KT) (hs:Sz 195 a)
 (h11:sl a 11= .pointer (some ⟨gh,0,none⟩)) (h14:sl a 14= .int .u32 (x.toNat:Int)) (h_1:w.cell? ⟨gh,1,none⟩=some (.int .u32 (y.toNat:Int))) (h_2:w.cell? ⟨gh,2,none⟩=some (.int .u32 (z.toNat:Int)))
 (hK:∀a' w',Sz 195 a'→Kp [0,1,4,5,6,7,8,9,10,11,12,13,14,15,17,18,104,178] a a'→sl a' 16= .int .u32 ((bg0 x+maj x y z).toNat:Int)→Fr noB w w'→K .normal a' w'):
 (aH Tryz.f187 19).wp Tryz.prog K a w:=by
 refine rgE hK (bF hs) fun HK=> ?_;clear hK hs
 have xlx:(x.toNat:Int)≤4294967295:=by have:=x.toNat_lt;omega
 have xly:(y.toNat:Int)≤4294967295:=by have:=y.toNat_lt;omega
 have xlz:(z.toNat:Int)≤4294967295:=by have:=z.toNat_lt;omega
 simp only[fS,h11,h14]
 go_quiet (exact MT _ _ _ _ (by decide))
 exact HK.out _ _ ⟨rfl,rfl⟩ kZ (congrArg (fun v=>Value.int .u32 v) (by rw[M3,NF,UInt32.toNat_add];omega)) ((Fr.refl _ _).drewN _)
theorem uw (a b:UInt32):IntKind.u32.wrap ((a.toNat:Int)+(b.toNat:Int))=((a+b).toNat:Int):=Ln a b
theorem uwi (n:Nat) (h:n<4294967296):IntKind.u32.wrap (n:Int)=(n:Int):=by show(n:Int)%4294967296=n;omega
theorem KK (i gw:Nat) (x y pp q:UInt32) (z:Value) (a:Act) (w:World) (K:KT) (hs:Sz 195 a)
 (h4:sl a 4= .pointer (some ⟨gw,0,none⟩)) (h6:sl a 6= .int .i64 (i:Int)) (h9:sl a 9= .int .u32 (pp.toNat:Int)) (h10:sl a 10= .int .u32 (q.toNat:Int)) (hi:16≤i) (hi2:i<64) (hx:w.cell? ⟨gw,i-16,none⟩=some (.int .u32 (x.toNat:Int))) (hy:w.cell? ⟨gw,i-7,none⟩=some (.int .u32 (y.toNat:Int))) (hz:w.cell? ⟨gw,i,none⟩=some (z)) (hfz:w.frozen? ⟨gw,i,none⟩=false)
 (hK:∀a' w',Sz 195 a'→Kp [0,1,4,5,6,7,8,9,10,11,12,13,14,15,16,17,18,104,178] a a'→w'=w.drew.setCell ⟨gw,i,none⟩ (.int .u32 ((x+pp+y+q).toNat:Int))→K .normal a' w'):
 (aH Tryz.f187 12).wp Tryz.prog K a w:=by
 refine rgF [(4,.pointer (some ⟨gw,0,none⟩)),(6,.int .i64 (i:Int)),(9,.int .u32 (pp.toNat:Int)),(10,.int .u32 (q.toNat:Int))] hK hs (by simp[h4,h6,h9,h10]) ?_
 clear hK hs h4 h6 h9 h10
 intro HK hl
 obtain⟨j,hj⟩:∃j,j=i-16:=⟨_,rfl⟩
 obtain⟨k,hk⟩:∃k,k=i-7:=⟨_,rfl⟩
 rw[←hj]at hx
 rw[←hk]at hy
 have q0:(i:Int)-16=(j:Int):=by omega
 have q1:j<64:=by omega
 have q2:(i:Int)-7=(k:Int):=by omega
 have q3:k<64:=by omega
 have c0:∀w4,w4=w.drew→w4.cell? ⟨gw,j,none⟩=some (.int .u32 (x.toNat:Int)):=by rintro w4 rfl;exact hx
 have c1:∀w4,w4=w.drew→w4.cell? ⟨gw,k,none⟩=some (.int .u32 (y.toNat:Int)):=by rintro w4 rfl;exact hy
 have hfz2:w.drew.frozen? ⟨gw,i,none⟩=false:=hfz
 have hcx:w.drew.cell? ⟨gw,i,none⟩=some z:=hz
 refine dJ (fun w'=>w'=w.drew) [15] (up 16 0) rfl (h:= ?_)
 rintro w1 rfl
 have wj:IntKind.i64.wrap (j:Int)=(j:Int):=by rw[mM];exact IntWalk.wrap64_in _ ⟨by omega,by omega⟩
 have wk:IntKind.i64.wrap (k:Int)=(k:Int):=by rw[mM];exact IntWalk.wrap64_in _ ⟨by omega,by omega⟩
 clear hx hy hfz hj hk hi hz
 refine D ?_
 refine dQ (v:= .int .u32 (x.toNat:Int)) ?_ ?_
 ·intro w4 h4
  have c:=c0 w4 h4
  go_simp
 refine D ?_
 refine dQ (v:= .int .u32 (y.toNat:Int)) ?_ ?_
 ·intro w4 h4
  have c:=c1 w4 h4
  go_simp
 clear c0 c1
 refine D ?_
 refine dS (h:= ?_)
 refine D ?_
 refine HK.out _ _ LG (kpF hl) ?_
 rw[uw,uw,uw];rfl
theorem Kh (i p gh:Nat) (x y:UInt32) (a:Act) (w:World) (K:KT) (hs:Sz 195 a)
 (h0:sl a 0= .pointer (some ⟨p,0,none⟩)) (h11:sl a 11= .pointer (some ⟨gh,0,none⟩)) (h17:sl a 17= .int .i64 (i:Int)) (hi:i<8) (hx:w.cell? ⟨p,i,none⟩=some (.int .u32 (x.toNat:Int))) (hy:w.cell? ⟨gh,i,none⟩=some (.int .u32 (y.toNat:Int))) (hfz:w.frozen? ⟨p,i,none⟩=false)
 (hK:∀a' w',Sz 195 a'→Kp [0,1,4,5,6,7,8,9,10,11,12,13,14,15,16,17,18,104,178] a a'→w'=w.drew.setCell ⟨p,i,none⟩ (.int .u32 ((x+y).toNat:Int))→K .normal a' w'):
 (aH Tryz.f187 27).wp Tryz.prog K a w:=by
 refine rgF [(0,.pointer (some ⟨p,0,none⟩)),(11,.pointer (some ⟨gh,0,none⟩)),(17,.int .i64 (i:Int))] hK hs (by simp[h0,h11,h17]) ?_
 clear hK hs h0 h11 h17
 intro HK hl
 refine dJ (fun w'=>w'=w.drew) [13] (up 14 0) rfl (h:= ?_)
 rintro w1 rfl
 have hfz2:w.drew.frozen? ⟨p,i,none⟩=false:=hfz
 have hcx:w.drew.cell? ⟨p,i,none⟩=some (.int .u32 (x.toNat:Int)):=hx
 have hcy:w.drew.cell? ⟨gh,i,none⟩=some (.int .u32 (y.toNat:Int)):=hy
 clear hx hy hfz
 refine D ?_
 refine dQ (v:= .int .u32 (x.toNat:Int)) ?_ ?_
 ·rintro w4 rfl
  go_simp
 refine D ?_
 refine dQ (v:= .int .u32 (y.toNat:Int)) ?_ ?_
 ·rintro w4 rfl
  go_simp
 refine D ?_
 refine dS (h:= ?_)
 refine D ?_
 refine HK.out _ _ LG (kpF hl) ?_
 rw[uw];rfl
theorem L9 (i gw gb off cb:Nat) (b0 b1 b2 b3:UInt8) (z:Value) (a:Act) (w:World) (K:KT) (hs:Sz 195 a)
 (h1:sl a 1= .slice (some ⟨gb,off,none⟩) 64 cb) (h4:sl a 4= .pointer (some ⟨gw,0,none⟩)) (h5:sl a 5= .int .i64 (i:Int)) (hi:i<16) (g0:w.cell? ⟨gb,off+(4*i+0),none⟩=some (.int .u8 (b0.toNat:Int))) (g1:w.cell? ⟨gb,off+(4*i+1),none⟩=some (.int .u8 (b1.toNat:Int))) (g2:w.cell? ⟨gb,off+(4*i+2),none⟩=some (.int .u8 (b2.toNat:Int))) (g3:w.cell? ⟨gb,off+(4*i+3),none⟩=some (.int .u8 (b3.toNat:Int))) (hz:w.cell? ⟨gw,i,none⟩=some (z)) (hfz:w.frozen? ⟨gw,i,none⟩=false)
 (hK:∀a' w',Sz 195 a'→Kp [0,1,4,5,6,7,8,9,10,11,12,13,14,15,16,17,18,104,178] a a'→w'=w.drew.setCell ⟨gw,i,none⟩ (.int .u32 ((wd b0 b1 b2 b3).toNat:Int))→K .normal a' w'):
 (aH Tryz.f187 4).wp Tryz.prog K a w:=by
 refine rgF [(1,.slice (some ⟨gb,off,none⟩) 64 cb),(4,.pointer (some ⟨gw,0,none⟩)),(5,.int .i64 (i:Int))] hK hs (by simp[h1,h4,h5]) ?_
 clear hK hs h1 h4 h5
 intro HK hl
 refine dJ (fun w'=>w'=w.drew) [35] (up 36 0) rfl (h:= ?_)
 rintro w1 rfl
 obtain⟨j0,hj0⟩:∃j,j=4*i+0:=⟨_,rfl⟩
 rw[←hj0]at g0
 have l0:j0<64:=by omega
 have c0:w.drew.cell? ⟨gb,off+j0,none⟩=some (.int .u8 (b0.toNat:Int)):=g0
 have y0:IntKind.i64.wrap (j0:Int)=(j0:Int):=by rw[mM];exact IntWalk.wrap64_in _ ⟨by omega,by omega⟩
 have z0:=b0.toNat_lt
 have v0:IntKind.u32.wrap (b0.toNat:Int)=(b0.toNat:Int):=uwi _ (by omega)
 obtain⟨j1,hj1⟩:∃j,j=4*i+1:=⟨_,rfl⟩
 rw[←hj1]at g1
 have l1:j1<64:=by omega
 have c1:w.drew.cell? ⟨gb,off+j1,none⟩=some (.int .u8 (b1.toNat:Int)):=g1
 have y1:IntKind.i64.wrap (j1:Int)=(j1:Int):=by rw[mM];exact IntWalk.wrap64_in _ ⟨by omega,by omega⟩
 have z1:=b1.toNat_lt
 have v1:IntKind.u32.wrap (b1.toNat:Int)=(b1.toNat:Int):=uwi _ (by omega)
 obtain⟨j2,hj2⟩:∃j,j=4*i+2:=⟨_,rfl⟩
 rw[←hj2]at g2
 have l2:j2<64:=by omega
 have c2:w.drew.cell? ⟨gb,off+j2,none⟩=some (.int .u8 (b2.toNat:Int)):=g2
 have y2:IntKind.i64.wrap (j2:Int)=(j2:Int):=by rw[mM];exact IntWalk.wrap64_in _ ⟨by omega,by omega⟩
 have z2:=b2.toNat_lt
 have v2:IntKind.u32.wrap (b2.toNat:Int)=(b2.toNat:Int):=uwi _ (by omega)
 obtain⟨j3,hj3⟩:∃j,j=4*i+3:=⟨_,rfl⟩
 rw[←hj3]at g3
 have l3:j3<64:=by omega
 have c3:w.drew.cell? ⟨gb,off+j3,none⟩=some (.int .u8 (b3.toNat:Int)):=g3
 have y3:IntKind.i64.wrap (j3:Int)=(j3:Int):=by rw[mM];exact IntWalk.wrap64_in _ ⟨by omega,by omega⟩
 have z3:=b3.toNat_lt
 have v3:IntKind.u32.wrap (b3.toNat:Int)=(b3.toNat:Int):=uwi _ (by omega)
 have u0:IntKind.u32.wrap ((b0.toNat:Int)*16777216)=(b0.toNat:Int)*16777216:=uwi (b0.toNat*16777216) (by omega)
 have u1:IntKind.u32.wrap ((b1.toNat:Int)*65536)=(b1.toNat:Int)*65536:=uwi (b1.toNat*65536) (by omega)
 have u2:IntKind.u32.wrap ((b2.toNat:Int)*256)=(b2.toNat:Int)*256:=uwi (b2.toNat*256) (by omega)
 have hi64:i<64:=by omega
 have q0:4*(i:Int)=(j0:Int):=by omega
 have q1:(j0:Int)+1=(j1:Int):=by omega
 have q2:(j0:Int)+2=(j2:Int):=by omega
 have q3:(j0:Int)+3=(j3:Int):=by omega
 have hfz2:w.drew.frozen? ⟨gw,i,none⟩=false:=hfz
 have hcx:w.drew.cell? ⟨gw,i,none⟩=some z:=hz
 clear hfz hz g0 g1 g2 g3 hj0 hj1 hj2 hj3
 refine D ?_
 refine dQ (v:= .int .u8 (b0.toNat:Int)) ?_ ?_
 ·rintro w4 rfl
  go_simp
 refine D ?_
 refine dQ (v:= .int .u8 (b1.toNat:Int)) ?_ ?_
 ·rintro w4 rfl
  go_simp
 refine D ?_
 refine dQ (v:= .int .u8 (b2.toNat:Int)) ?_ ?_
 ·rintro w4 rfl
  go_simp
 refine D ?_
 refine dQ (v:= .int .u8 (b3.toNat:Int)) ?_ ?_
 ·rintro w4 rfl
  go_simp
 refine D ?_
 refine dS (h:= ?_)
 refine D ?_
 refine HK.out _ _ LG (kpF hl) ?_
 rw[wdW];rfl
end Go.Proofs.YtcbkaiakdhiloacGreatDoor
