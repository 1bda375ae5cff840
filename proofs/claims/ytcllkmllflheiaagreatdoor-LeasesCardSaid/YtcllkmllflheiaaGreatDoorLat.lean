/- Parts of the walk; written by programs, merged. -/
import Derived.Test.YtcllkmllflheiaaGreatDoorLar
import Derived.Test.YtcllkmllflheiaaGreatDoorLas
import Derived.Laws.RangeString
import Derived.Lib.OthersKept
set_option linter.unusedSimpArgs false
set_option linter.unusedVariables false
set_option maxRecDepth 20000
set_option maxHeartbeats 8000000
namespace Go.Proofs.YtcllkmllflheiaaGreatDoor
open Go.RowKit Go.Proofs
attribute [local simp] eC ibq ibn eqN ltN leN eqL ltL gtL leL geL
attribute [local go_sem] aG aD aE aF
theorem Now.of {L:Lay} {w w':World} {s:St} (h:aC w' L s) (hf:Fr (bW L) w w'):Now L w s w':=⟨L,rfl,fun _ hb=> .inl hb,h,hf⟩
theorem Gl {s:St} (h:s.Ok):({s with cache:=s.cache.filterMap (St.keepE s.now)}:St).Ok:=by
 have key:∀e∈s.cache.filterMap (St.keepE s.now),e.waits.length≤1500∧0≤e.due∧e.due≤4611686018427388000:=by
  intro e he
  obtain⟨x,hx,hk⟩:=List.mem_filterMap.1 he
  have h1:=h.waits x hx
  have h2:=h.dues x hx
  have n0:=h.now0
  have n1:=h.now1
  unfold St.keepE at hk
  split at hk
  ·cases hk;exact⟨h1,h2⟩
  ·split at hk
   ·cases hk
   ·cases hk
    have hw:wrap64 (x.due+2)=x.due+2:=IntWalk.wrap64_in _ ⟨by omega,by omega⟩
    exact⟨h1,by simp only[hw];omega,by simp only[hw];omega⟩
 exact {h with waits:=fun e he=>(key e he).1,dues:=fun e he=>(key e he).2,cache:=Nat.le_trans (List.length_filterMap_le _ _) h.cache}
theorem Gu {s:St} {L:Lay} {w:World} (h:aC w L s):∀ip∈gY s.cache s.now,ip<4294967296:=by
 intro ip hip
 obtain⟨D,_,hr⟩:=h.mp
 have h1:=(cQ _).mem_iff.1 hip
 obtain⟨e,he,rfl⟩:=List.mem_map.1 h1
 exact hr.lt e (List.mem_filter.1 he).1
theorem Cz (L:Lay) (s:St) (dr:Nat) (w:World) (h:aC w L s) (hn:s.now<4611686018427387904) (hdr:dr<4294967296)
 (cT:∀(t:St) (w:World),t=({s with now:=wrap64 (s.now+1),draw:=dr}:St).neighbours→aC w L t→Calls Tryz.prog 38 #[.pointer (some ⟨L.p,0,none⟩)] w (bP L t.leases (.tuple #[]) w))
 (cE:({s with now:=wrap64 (s.now+1),draw:=dr}:St).neighbours.leases.busy=true→∀(L:Lay) (s:St) (ld:List UInt8) (w:World),aC w L s→ld.length≤4611686018427387000→Calls Tryz.prog 41 #[.pointer (some ⟨L.p,0,none⟩),.string (bs ld)] w (cH L (s.udp s.source s.port s.goal ld) (.tuple #[]) w)):
 Calls Tryz.prog 19 #[.pointer (some ⟨L.p,0,none⟩),.int .u32 (dr:Int)] w (bP L (s.tick dr) (.tuple #[]) w):=by
 have hn0:=h.ok.now0
 have hw1:wrap64 (s.now+1)=s.now+1:=IntWalk.wrap64_in _ ⟨by omega,by omega⟩
 have Hn:=Lib.hid (And.intro hn0 hw1)
 clear hw1 hn0
 refine en Tryz.func19 Tryz.ntmps19 ?_
 refine W ?_
 rw[iQ]
 refine sB {s with now:=wrap64 (s.now+1)} {h.ok with now0:=by have h:=Hn.out;show 0≤wrap64 (s.now+1);rw[h.2];omega,now1:=by have h:=Hn.out;show wrap64 (s.now+1)≤4611686018427387904;rw[h.2];omega} h ?_
 intro w1 h1 f1
 refine W ?_
 refine sB {s with now:=wrap64 (s.now+1),draw:=dr} {h1.ok with draw:=hdr} h1 ?_
 intro w2 h2 f2
 have f:=f1.trans f2
 obtain⟨r,hr⟩:∃r,r=s.tick dr:=⟨_,rfl⟩
 rw[←hr]
 obtain⟨v,hv⟩:∃v:St,v={s with now:=wrap64 (s.now+1),draw:=dr}:=⟨_,rfl⟩
 rw[←hv]at h2 cE
 replace cT:∀w,aC w L v.neighbours→Calls Tryz.prog 38 #[.pointer (some ⟨L.p,0,none⟩)] w (bP L v.neighbours.leases (.tuple #[]) w):=fun w=>cT _ w (by rw[hv])
 replace hr:r=if v.over then v else v.neighbours.leases.again:=by rw[hr,hv];rfl
 obtain⟨nb,hnb⟩:∃nb,nb=v.neighbours:=⟨_,rfl⟩
 rw[←hnb]at cT hr cE
 have CT:=Lib.hid cT
 have CE:=Lib.hid cE
 clear cT cE
 clear hv h1 h f1 f2 Hn hn hdr
 refine W ?_
 refine sC (Ad L v w2 h2) ?_
 rintro _ rfl
 cases ho:v.over
 rotate_left
 ·rw[if_pos ho]at hr
  refine W ?_
  exact cH.two ⟨rfl,by rw[hr];exact h2,f⟩
 rw[if_neg (by rw[ho];decide)]at hr
 clear ho
 refine W ?_
 refine dI h2 [7] [0,1,2,3,4,5,9,6,7,8] (h:= ?_)
 intro w3 h3 f3
 refine D ?_
 have hne:=h3.ne
 simp only[Lay.blocks,List.nodup_cons,List.mem_cons,List.not_mem_nil,or_false,not_or]at hne
 refine dT (Bt L.p 15 L.mp v.cache v.now w3 h3.g15 (fun x=>hne.1.2.2.2.2 x) h3.mp h3.ok.cache) ?_
 rintro e w4 ⟨A,cap,rfl,hsl,hm4,f4⟩
 refine⟨_,rfl,?_⟩
 have h4:=h3.mpTurn f4 hm4 (Gl h3.ok)
 replace hsl:=hsl.sub (T:=bW L) (fun b _ hb=>h3.lt b hb)
 have hips:=Gu h3
 replace f:=(f.trans (f3.of_no _)).trans (f4.mono fun b _ hb=>by obtain rfl:b=L.mp:=hb;exact oP L)
 have hal:(gY v.cache v.now).length≤4:=by unfold gY;rw[(cQ _).length_eq,List.length_map];exact Nat.le_trans (List.length_filter_le _ _) h3.ok.cache
 replace hnb:nb=(gY v.cache v.now).foldl (fun(t:St) ip=>t.ask t.address ip) {v with cache:=v.cache.filterMap (St.keepE v.now)}:=hnb
 generalize gY v.cache v.now=asks at*
 obtain⟨s3,hs3⟩:∃s3:St,s3={v with cache:=v.cache.filterMap (St.keepE v.now)}:=⟨_,rfl⟩
 rw[←hs3]at h4 hnb
 clear hs3 h3 h2 f3 f4 hm4 hne
 refine D ?_
 refine cM [0] [] (fun w'=>aC w' L (asks.foldl (fun(t:St) ip=>t.ask t.address ip) s3)∧Fr (bW L) w w') ?_ ?_
 ·refine W ?_
  refine cL (fun i=>asks.length-i) (fun i=>[(28,.int .i64 ((i:Nat):Int)),(0,.pointer (some ⟨L.p,0,none⟩)),(26,.slice A asks.length cap),(27,.int .i64 (asks.length:Int))]) (fun i w'=>i≤asks.length∧aC w' L ((asks.take i).foldl (fun(t:St) ip=>t.ask t.address ip) s3)∧Fr (bW L) w4 w') 0 (mt (p:=True) trivial).1 ⟨Nat.zero_le _,h4,Fr.refl _ _⟩ ?_
  rintro i u w5 ⟨hi,h5,f5⟩
  by_cases hlt:i<asks.length
  ·obtain⟨ip,hip⟩:∃ip,asks[i]? =some ip:=⟨_,List.getElem?_eq_getElem hlt⟩
   have hipl:=hips ip (List.mem_of_getElem? hip)
   obtain⟨ad,x,hAe,hx,hcx⟩:=(hsl.keep f5).at_ hlt
   have hx2:x=kV ip:=by rw[List.getElem?_map,hip]at hx;exact(Option.some.inj hx).symm
   subst hx2
   unfold kV at hcx
   have hi1:wrap64 ((i:Int)+1)=((i+1:Nat):Int):=by rw[IntWalk.wrap64_in _ ⟨by omega,by omega⟩];omega
   have Hi:=Lib.hid hi1
   rw[hAe]
   clear hi1 hx hips hsl hal hi
   refine W ?_
   refine sC (aY L _ w5 h5) ?_
   rintro _ rfl
   have hadl:=h5.ok.addr
   refine W ?_
   refine sC (rG L _ (St.address _) ip w5 h5 (by unfold St.address;split;exact hadl;omega) hipl) ?_
   rintro w6 ⟨h6,f6⟩
   refine W ?_
   rw[iQ,Hi.out]
   exact⟨i+1,(mt (p:=True) trivial).1,⟨by omega,by rw[nY asks i ip hip,List.foldl_append];exact h6,f5.trans f6⟩,by omega⟩
  ·have hge:i=asks.length:=by omega
   rw[hge,List.take_length]at h5
   clear hips hsl hal hi
   refine W ?_
   exact mt ⟨h5,f.trans f5⟩
 rintro u w5 ⟨h5,f5⟩
 clear hips hsl hal
 rw[←hnb]at h5
 clear hnb f h4
 refine W ?_
 refine sC (CT.out w5 h5) ?_
 rintro w6 ⟨L1,p1,ow1,h6,F1⟩
 replace CE:=CE.out
 generalize nb.leases=z at*
 replace CE:=Lib.hid CE
 obtain⟨y,fin,f0⟩:∃y,(∀w' s',Now L1 y s' w'→Now L w s' w')∧Fr noB y w6:=⟨w6,fun _ _ hN=>Now.comp (L1:=L) rfl (fun _ hb=> .inl hb) f5 (Now.comp p1 ow1 F1 hN),Fr.refl _ _⟩
 have Fin:=Lib.hid fin
 rw[←p1]
 clear fin p1 ow1 F1 f5 h5
 refine W ?_
 obtain⟨b,hb⟩:∃b,b=decide (z.busy=false∨z.now<z.tagain):=⟨_,rfl⟩
 unfold St.again at hr
 refine cM [0] [(65,.bool b)] (fun w'=>aC w' L1 z∧Fr noB y w') ?_ ?_
 ·replace hb:b=decide ((¬z.phase=1∧¬z.phase=2)∨z.now<z.tagain):=by
   rw[hb];unfold St.busy;congr 1;apply propext;simp
  clear hr
  refine dI (An h6 f0) [] (up 26 0) (h:= ?_)
  intro w7 h7 _
  by_cases a1:z.phase=1
  rotate_left
  by_cases a2:z.phase=2
  all_goals
   refine D ?_
   refine tN ?_
   exact mt h7
 rintro u w7 ⟨h7,f7⟩
 cases b
 rotate_left
 ·rw[if_pos (of_decide_eq_true hb.symm)]at hr
  clear hb
  refine W ?_
  rw[hr]
  exact(Fin.out _ _ (Now.of h7 (f7.of_no _))).lpost
 have hzb:=of_decide_eq_false hb.symm
 rw[if_neg hzb]at hr
 replace CE:=Lib.hid (CE.out (by cases e:z.busy with|true=>rfl|false=>exact absurd (.inl e) hzb))
 clear hb hzb
 by_cases a4:z.tsends=4
 ·rw[if_pos a4]at hr
  refine W ?_
  refine sC (oK L1 z w7 h7) ?_
  intro w8 h8
  refine W ?_
  rw[hr]
  exact(Fin.out _ _ (Now.comp rfl (fun _=> .inl) (f7.of_no _) h8)).lpost
 rw[if_neg a4]at hr
 have hts:=h7.ok.tsends
 have Hi:=Lib.hid (show wrap64 ((z.tsends:Int)+1)=((z.tsends+1:Nat):Int) by rw[IntWalk.wrap64_in _ ⟨by omega,by omega⟩];omega)
 have Hts:=Lib.hid (And.intro hts a4)
 clear hts
 refine W ?_
 refine dI (An h7 f7) [16] [0,1,2,3,5,6,7,8,9,4,10,11,12,13,14,15,16] (h:= ?_)
 intro w8 h8 _
 refine D ?_
 refine dC (rR L1 z z.tsends Hts.out.1 w8 h8.1) ?_ ?_
 ·intro w' fw
  exact⟨h8.1.none fw,h8.2.none fw⟩
 intro w9 _ h9
 refine D ?_
 rw[iQ]
 refine dB {z with tagain:=wrap64 (z.now+z.wait z.tsends)} {h9.1.ok with} h9.1 ?_
 intro w10 h10 f10
 have f10:=(h9.2.of_no (bW L1)).trans f10
 clear h9 h8 h7 f7
 refine D ?_
 refine W ?_
 rw[iQ,Hi.out]
 refine sB {z with tagain:=wrap64 (z.now+z.wait z.tsends),tsends:=z.tsends+1} {h10.ok with tsends:=by have:=Hts.out;show z.tsends+1≤4;omega} h10 ?_
 intro w11 h11 f11
 have hla:=h11.ok.last
 have f11:=f10.trans f11
 clear h10 f10
 refine W ?_
 refine sC (CE.out L1 _ z.last w11 h11 (Nat.le_trans hla (by decide))) ?_
 rintro w12 ⟨h12,f12⟩
 refine W ?_
 rw[hr]
 exact(Fin.out _ _ (Now.of h12 (f11.trans f12))).lpost
end Go.Proofs.YtcllkmllflheiaaGreatDoor
namespace Go.Proofs.YtcllkmllflheiaaGreatDoor
open Go.RowKit Go.Proofs
attribute [local go_sem] aG aD aE aF
theorem pA {id j:Nat} {Q:Exit→Act→World→Prop} {a:Act} {w:World} (hne:j≠id) (h:Q (.exit j) a w):Exit.inBlock id Q (.exit j) a w:=by
 simp only[Exit.inBlock,if_neg hne];exact h
def BB (u:Nat→Value):Act:=⟨#[u 0,u 1,u 2,u 3,u 4,u 5,u 6,u 7,u 8,u 9,u 10,u 11,u 12,u 13,u 14,u 15,u 16,u 17,u 18,u 19,u 20,u 21,u 22,u 23,u 24,u 25,u 26,u 27,u 28,u 29],[]⟩
set_option maxRecDepth 100000 in
theorem Ge (u:Nat→Value):BB u=frN 30 u:=rfl
theorem iE {a:Act} (h:Sz 30 a):a=BB (sl a):=h.eq.trans (Ge _).symm
theorem I5 (a:Act) (w:World) (K:KT) (hs:Sz 30 a)
 (hK:∀a' w',Sz 30 a'→Kp [0,1,5,6,7] a a'→w'=w→K .normal a' w'):
 (aB Tryz.f21 0).wp Tryz.prog K a w:=by
 refine rgE hK (iE hs) fun HK=> ?_;clear hK hs
 simp only[BB]
 go_wp2_with fail
 exact HK.out _ _ ⟨rfl,rfl⟩ kZ rfl
theorem I6 (a:Act) (w:World) (K:KT) (hs:Sz 30 a)
 (hK:∀a' w',Sz 30 a'→Kp [0,1,4,6,7] a a'→sl a' 5= .int .i64 0→w'=w→K .normal a' w'):
 (aB Tryz.f21 1).wp Tryz.prog K a w:=by
 refine rgE hK (iE hs) fun HK=> ?_;clear hK hs
 simp only[BB]
 go_wp2_with fail
 exact HK.out _ _ ⟨rfl,rfl⟩ kZ (rfl) rfl
theorem Ja (k:Nat) (n:Int) (a:Act) (w:World) (K:KT) (hs:Sz 30 a)
 (h1:sl a 1= .int .i64 n) (h5:sl a 5= .int .i64 (k:Int))
 (hK:∀a' w',Sz 30 a'→Kp [0,1,4,5,6,7] a a'→sl a' 10= .bool (decide ((k:Int)<n))→w'=w→K .normal a' w'):
 (aB Tryz.f21 2).wp Tryz.prog K a w:=by
 refine rgE hK (iE hs) fun HK=> ?_;clear hK hs
 simp only[BB,h1,h5]
 go_wp2_with fail
 exact HK.out _ _ ⟨rfl,rfl⟩ kZ (rfl) rfl
theorem Jh (L:Lay) (s:St) (a:Act) (w:World) (K:KT) (hs:Sz 30 a)
 (h0:sl a 0= .pointer (some ⟨L.p,0,none⟩)) (h:aC w L s)
 (hK:∀a' w',Sz 30 a'→Kp [0,1,4,5] a a'→sl a' 6= .string (bs (s.rx.head?.getD []))→sl a' 7= .bool (!s.rx.isEmpty)→aC w' L {s with rx:=s.rx.tail}→Fr (bW L) w w'→K .normal a' w'):
 (aB Tryz.f21 4).wp Tryz.prog K a w:=by
 refine rgE hK (iE hs) fun HK=> ?_;clear hK hs
 simp only[BB,h0]
 have c13:=h.g13
 have hcall:=zW L.rx L.rxs s.c.rx s.rx w h.ok.rx0 (by have:=h.ok.rx1;omega) h.rx
 have Hcall:=Lib.hid hcall
 clear hcall
 go_wp2_with fail
 refine Hcall.out.mono ?_
 rintro e w2 ⟨rfl,hr2,hf2⟩
 go_wp2_with fail
 exact HK.out _ _ ⟨rfl,rfl⟩ kZ (rfl) (rfl) (h.rxTurn hf2 hr2) (hf2.mono fun b _ hb=>by rcases hb with rfl|rfl;exact BH L;exact xD L)
theorem JC (b:Bool) (a:Act) (w:World) (K:KT) (hs:Sz 30 a)
 (h7:sl a 7= .bool b)
 (hK:∀a' w',Sz 30 a'→Kp [0,1,4,5,6,7] a a'→sl a' 22= .bool (!b)→w'=w→K .normal a' w'):
 (aB Tryz.f21 5).wp Tryz.prog K a w:=by
 refine rgE hK (iE hs) fun HK=> ?_;clear hK hs
 simp only[BB,h7]
 go_wp2_with fail
 exact HK.out _ _ ⟨rfl,rfl⟩ kZ (rfl) rfl
theorem Jf (L:Lay) (s:St) (a:Act) (w:World) (K:KT) (hs:Sz 30 a)
 (h0:sl a 0= .pointer (some ⟨L.p,0,none⟩)) (h:aC w L s)
 (hK:∀a' w',Sz 30 a'→Kp [0,1,4,5,6,7] a a'→sl a' 25= .bool (!s.over)→w'=w→K .normal a' w'):
 (aB Tryz.f21 6).wp Tryz.prog K a w:=by
 refine rgE hK (iE hs) fun HK=> ?_;clear hK hs
 simp only[BB,h0]
 go_wp2_with fail
 refine(Ad L s _ h).mono ?_
 rintro e w2 ⟨rfl,rfl⟩
 go_wp2_with fail
 exact HK.out _ _ ⟨rfl,rfl⟩ kZ (rfl) rfl
theorem Jw (L:Lay) (s:St) (f:List UInt8) (u1:St) (a:Act) (w:World) (K:KT) (hs:Sz 30 a)
 (h0:sl a 0= .pointer (some ⟨L.p,0,none⟩)) (h6:sl a 6= .string (bs f)) (h:aC w L s) (hc:Calls Tryz.prog 48 #[.pointer (some ⟨L.p,0,none⟩),.string (bs f)] w (bP L u1 (.tuple #[]) w))
 (hK:∀a' w',Sz 30 a'→Kp [0,1,4,5,6,7] a a'→Now L w u1 w'→K .normal a' w'):
 (aB Tryz.f21 7).wp Tryz.prog K a w:=by
 refine rgE hK (iE hs) fun HK=> ?_;clear hK hs
 simp only[BB,h0,h6]
 have Hcall:=Lib.hid hc
 clear hc
 go_wp2_with fail
 refine Hcall.out.mono ?_
 intro e w6 hp6
 obtain⟨rfl,hp6⟩:=hp6
 go_wp2_with fail
 exact HK.out _ _ ⟨rfl,rfl⟩ kZ hp6
theorem IN (i j:Nat) (a:Act) (w:World) (K:KT) (hs:Sz 30 a)
 (h5:sl a 5= .int .i64 (i:Int)) (q:IntKind.i64.wrap ((i:Int)+1)=(j:Int))
 (hK:∀a' w',Sz 30 a'→Kp [0,1,4,6,7] a a'→sl a' 5= .int .i64 (j:Int)→w'=w→K .normal a' w'):
 (aB Tryz.f21 3).wp Tryz.prog K a w:=by
 refine rgE hK (iE hs) fun HK=> ?_;clear hK hs
 simp only[BB,h5]
 clear h5
 go_wp2_with fail
 exact HK.out _ _ ⟨rfl,rfl⟩ kZ (rfl) rfl
theorem Jb (k:Nat) (a:Act) (w:World) (K:KT) (hs:Sz 30 a)
 (h5:sl a 5= .int .i64 (k:Int))
 (hK:∀a' w',Sz 30 a'→Kp [0,1,5,6,7] a a'→sl a' 4= .int .i64 (k:Int)→w'=w→K .normal a' w'):
 (aB Tryz.f21 8).wp Tryz.prog K a w:=by
 refine rgE hK (iE hs) fun HK=> ?_;clear hK hs
 simp only[BB,h5]
 go_wp2_with fail
 exact HK.out _ _ ⟨rfl,rfl⟩ kZ (rfl) rfl
theorem CQ (Inv:St→Prop) (fr:St→List UInt8→St) (hI:CK Inv fr) (hF:∀(t:St) (f:List UInt8) (r:List (List UInt8)),Inv t→t.rx=f::r→t.over=false→∀(L:Lay) (w:World),aC w L {t with rx:=r}→Calls Tryz.prog 48 #[.pointer (some ⟨L.p,0,none⟩),.string (bs f)] w (bP L (fr {t with rx:=r} f) (.tuple #[]) w)) (L:Lay) (s:St) (n:Int) (hn:n≤9223372036854775807) (w:World) (h:aC w L s) (hi:Inv s):
 Calls Tryz.prog 21 #[.pointer (some ⟨L.p,0,none⟩),.int .i64 n] w (bP L (bL fr n.toNat s 0).1 (.int .i64 ((bL fr n.toNat s 0).2:Int)) w):=by
 go_enter Tryz.func21,Tryz.ntmps21
 refine wp_seq ?_
 refine I5 _ w _ ⟨rfl,rfl⟩ ?_
 intro a0 w0 hs0 k0 hw;subst hw
 refine wp_seq ?_
 refine I6 a0 w0 _ hs0 ?_
 intro a1 w1 hs1 k1 o5 hw;subst hw
 have e0:sl a1 0= .pointer (some ⟨L.p,0,none⟩):=k1.t ((k0 0 (by decide)).trans rfl)
 have e1:sl a1 1= .int .i64 n:=k1.t ((k0 1 (by decide)).trans rfl)
 clear k1 k0
 refine wp_seq (wp_block ?_)
 refine fQ 30 (fun a' w'=>∃(k m:Nat) (t:St),k+m=n.toNat∧sl a' 5= .int .i64 (k:Int)∧Kp [0,1] a1 a'∧Now L w1 t w'∧Inv t∧bL fr m t k=bL fr n.toNat s 0) (fun a' _=>n.toNat-(intOf (sl a' 5)).toNat)
  hs1 ⟨0,n.toNat,s,by omega,o5,Kp.refl _ _,⟨L,rfl,fun _ x=> .inl x,h,Fr.refl _ _⟩,hi,rfl⟩ ?_
 rintro b1 v1 hs1' ⟨k,m,t,hkm,i5,j1,hN,ht,hpf⟩
 have fin:∀b2 v2,Sz 30 b2→Kp [0,1,5] b1 b2→Now L w1 (bL fr n.toNat s 0).1 v2→(bL fr n.toNat s 0).2=k→((aB Tryz.f21 8).seq .ret).wp Tryz.prog (bodyPost Tryz.prog Tryz.f21 (bP L (bL fr n.toNat s 0).1 (.int .i64 ((bL fr n.toNat s 0).2:Int)) w1)) b2 v2:=by
  intro b2 v2 hs2 j2 hN2 hk
  refine wp_seq ?_
  refine Jb k b2 v2 _ hs2 (j2.t i5) ?_
  intro b3 v3 hs3 j3 o4 hw;subst hw
  refine wp_ret ?_
  refine bodyPost_ret (results_tmp rfl _ _ _) hs3.defers ?_
  have hres:b3.tmps.getD 4 undef= .int .i64 ((bL fr n.toNat s 0).2:Int):=by rw[hk];exact o4
  rw[hres]
  exact hN2.lpost
 refine wp_seq (wp_seq ?_)
 refine Ja k n b1 v1 _ hs1' (j1.t e1) i5 ?_
 intro b2 v2 hs2' j2 i10 hw;subst hw
 refine fK i10 (fun hb=> ?_) (fun hb=> ?_)
 ·have hlt:=of_decide_eq_true hb
  obtain⟨m,rfl⟩:∃m',m=m'+1:=⟨m-1,by omega⟩
  refine wp_skip ?_
  refine wp_seq (wp_block (wp_seq ?_))
  obtain⟨L1,p1,ow1,B1,F1⟩:=hN
  have z0:sl b2 0= .pointer (some ⟨L1.p,0,none⟩):=j2.t ((j1 0 (by decide)).trans (by rw[p1];exact e0))
  refine Jh L1 t b2 v2 _ hs2' z0 B1 ?_
  intro b3 v3 hs3' j3 i6 i7 B3 F3
  have z0:=j3.t z0
  have i5':=j3.t (j2.t i5)
  refine wp_seq (wp_seq ?_)
  refine JC _ b3 v3 _ hs3' i7 ?_
  intro b4 v4 hs4' j4 i22 hw;subst hw
  have z0:=j4.t z0
  have i5':=j4.t i5'
  refine fK i22 (fun hb=> ?_) (fun hb=> ?_)
  ·have hemp:t.rx=[]:=by simpa using hb
   refine wp_exit (bD (pA (by decide) (bD (bD (bU ?_)))))
   have hpf2:bL fr n.toNat s 0=(t,k):=by rw[←hpf];unfold bL;rw[hemp]
   refine fin b4 v4 hs4' (fun x hx=>(j4 x (by revert hx;revert x;decide)).trans ((j3 x (by revert hx;revert x;decide)).trans (j2 x (by revert hx;revert x;decide)))) ?_ (by rw[hpf2])
   rw[hpf2]
   have het:({t with rx:=t.rx.tail}:St)=t:=by rw[hemp];obtain⟨c,rx⟩:=t;simp only at hemp;subst hemp;rfl
   rw[het]at B3
   exact Now.comp p1 ow1 F1 ⟨L1,rfl,fun _ x=> .inl x,B3,F3⟩
  ·obtain⟨f,r,hfr⟩:∃f r,t.rx=f::r:=by
    cases hq:t.rx with
    |nil=>rw[hq]at hb;cases hb
    |cons f r=>exact⟨f,r,rfl⟩
   rw[hfr]at B3 i6
   have B3:aC _ L1 {t with rx:=r}:=B3
   have hstep:bL fr m (if t.over then {t with rx:=r}else fr {t with rx:=r} f) (k+1)=bL fr n.toNat s 0:=by rw[←hpf];conv=>rhs;unfold bL;rw[hfr]
   refine wp_skip ?_
   refine wp_seq ?_
   refine Jf L1 _ b4 v4 _ hs4' z0 B3 ?_
   intro b5 v5 hs5' j5 i25 hw;subst hw
   have z0:=j5.t z0
   have i5':=j5.t i5'
   have last:∀b6 v6 (t':St),Sz 30 b6→Kp [0,1,5] b5 b6→Now L w1 t' v6→Inv t'→bL fr m t' (k+1)=bL fr n.toNat s 0→(aB Tryz.f21 3).wp Tryz.prog (Exit.then (fun a' w'=>Sz 30 a'∧(∃(k m:Nat) (t:St),k+m=n.toNat∧sl a' 5= .int .i64 (k:Int)∧Kp [0,1] a1 a'∧Now L w1 t w'∧Inv t∧bL fr m t k=bL fr n.toNat s 0)∧n.toNat-(intOf (sl a' 5)).toNat<n.toNat-(intOf (sl b1 5)).toNat) (Exit.inBlock 0 (Exit.then (((aB Tryz.f21 8).seq .ret).wp Tryz.prog (bodyPost Tryz.prog Tryz.f21 (bP L (bL fr n.toNat s 0).1 (.int .i64 ((bL fr n.toNat s 0).2:Int)) w1))) (bodyPost Tryz.prog Tryz.f21 (bP L (bL fr n.toNat s 0).1 (.int .i64 ((bL fr n.toNat s 0).2:Int)) w1))))) b6 v6:=by
    intro b6 v6 t' hs6 j6 hN6 hi6 hp6
    refine IN k (k+1) b6 v6 _ hs6 (j6.t i5') ((IntWalk.i64_in _ (by omega)).trans (by omega)) ?_
    intro b7 v7 hs7 j7 i5n hw;subst hw
    refine⟨hs7,⟨k+1,m,t',by omega,i5n,fun x hx=>(j7 x (by revert hx;revert x;decide)).trans ((j6 x (by revert hx;revert x;decide)).trans ((j5 x (by revert hx;revert x;decide)).trans ((j4 x (by revert hx;revert x;decide)).trans ((j3 x (by revert hx;revert x;decide)).trans ((j2 x (by revert hx;revert x;decide)).trans (j1 x hx)))))),hN6,hi6,hp6⟩,?_⟩
    rw[i5n,i5];simp only[intOf];omega
   have hov:({t with rx:=r}:St).over=t.over:=rfl
   rw[hov]at i25
   refine fK i25 (fun hb=> ?_) (fun hb=> ?_)
   ·have hnov:t.over=false:=by simpa using hb
    rw[hnov]at hstep
    refine Jw L1 _ f _ b5 v5 _ hs5' z0 (j5.t (j4.t i6)) B3 (hF t f r ht hfr hnov L1 _ B3) ?_
    intro b6 v6 hs6' j6 hN6
    refine last b6 v6 _ hs6' (fun x hx=>j6 x (by revert hx;revert x;decide)) (Now.comp p1 ow1 F1 (Now.comp rfl (fun _ h=> .inl h) F3 hN6)) (hI.go t f r ht hfr hnov) hstep
   ·have hyov:t.over=true:=by simpa using hb
    rw[hyov]at hstep
    exact wp_skip (last b5 v5 _ hs5' (Kp.refl _ _) (Now.comp p1 ow1 F1 ⟨L1,rfl,fun _ x=> .inl x,B3,F3⟩) (hI.over t f r ht hfr hyov) hstep)
 ·have hge:=of_decide_eq_false hb
  have hm0:m=0:=by omega
  subst hm0
  have hpf2:bL fr n.toNat s 0=(t,k):=by rw[←hpf];rfl
  refine wp_exit (bD (bD (bU ?_)))
  exact fin b2 v2 hs2' (fun x hx=>j2 x (by revert hx;revert x;decide)) (by rw[hpf2];exact hN) (by rw[hpf2])
end Go.Proofs.YtcllkmllflheiaaGreatDoor
set_option maxRecDepth 20000
namespace Go.Proofs.YtcllkmllflheiaaGreatDoor
open Go.RowKit Go.Proofs
attribute [local go_sem] aG aD aE aF
def AC (u:Nat→Value):Act:=⟨#[u 0,u 1,u 2,u 3,u 4,u 5,u 6,u 7,u 8,u 9,u 10,u 11,u 12,u 13,u 14,u 15,u 16,u 17,u 18,u 19,u 20,u 21,u 22,u 23,u 24,u 25,u 26,u 27,u 28,u 29,u 30,u 31,u 32,u 33,u 34,u 35,u 36,u 37,u 38,u 39,u 40,u 41],[]⟩
set_option maxRecDepth 100000 in
theorem Gh (u:Nat→Value):AC u=frN 42 u:=rfl
theorem fS {a:Act} (h:Sz 42 a):a=AC (sl a):=h.eq.trans (Gh _).symm
theorem IG (a:Act) (w:World) (K:KT) (hs:Sz 42 a)
 (hK:∀a' w',Sz 42 a'→Kp [0,1,5,6] a a'→w'=w→K .normal a' w'):
 (aB Tryz.f22 0).wp Tryz.prog K a w:=by
 refine rgE hK (fS hs) fun HK=> ?_;clear hK hs
 simp only[AC]
 go_wp2_with fail
 exact HK.out _ _ ⟨rfl,rfl⟩ kZ rfl
theorem I1 (a:Act) (w:World) (K:KT) (hs:Sz 42 a)
 (hK:∀a' w',Sz 42 a'→Kp [0,1,4,6] a a'→sl a' 5= .int .i64 0→w'=w→K .normal a' w'):
 (aB Tryz.f22 1).wp Tryz.prog K a w:=by
 refine rgE hK (fS hs) fun HK=> ?_;clear hK hs
 simp only[AC]
 go_wp2_with fail
 exact HK.out _ _ ⟨rfl,rfl⟩ kZ (rfl) rfl
theorem HQ (k:Nat) (n:Int) (a:Act) (w:World) (K:KT) (hs:Sz 42 a)
 (h1:sl a 1= .int .i64 n) (h5:sl a 5= .int .i64 (k:Int)) (hk:¬(k:Int)<n)
 (hK:∀a' w',Sz 42 a'→Kp [0,1,4,5,6] a a'→sl a' 17= .bool false→w'=w→K .normal a' w'):
 (aB Tryz.f22 2).wp Tryz.prog K a w:=by
 refine rgE hK (fS hs) fun HK=> ?_;clear hK hs
 simp only[AC,h1,h5]
 go_wp2_with fail
 exact HK.out _ _ ⟨rfl,rfl⟩ kZ (rfl) rfl
theorem G6 (p T:Nat) (M:bQ) (s:St) (k:Nat) (n:Int) (a:Act) (w:World) (K:KT) (hs:Sz 42 a)
 (h0:sl a 0= .pointer (some ⟨p,0,none⟩)) (h1:sl a 1= .int .i64 n) (h5:sl a 5= .int .i64 (k:Int)) (h:aA w p T M s) (hk:(k:Int)<n)
 (hK:∀a' w',Sz 42 a'→Kp [0,1,4,5,6] a a'→sl a' 17= .bool (decide (0<s.rx.length))→w'=w→K .normal a' w'):
 (aB Tryz.f22 2).wp Tryz.prog K a w:=by
 refine rgE hK (fS hs) fun HK=> ?_;clear hK hs
 simp only[AC,h0,h1,h5]
 have c14:=h.g14
 have e_:decide ((0:Int)<(s.rx.length:Int))=decide (0<s.rx.length):=decide_eq_decide.2 (by omega)
 go_wp2_with fail
 exact HK.out _ _ ⟨rfl,rfl⟩ kZ (rfl) rfl
theorem Js (p T:Nat) (M:bQ) (s:St) (f:List UInt8) (r:List (List UInt8)) (a:Act) (w:World) (K:KT) (hs:Sz 42 a)
 (h0:sl a 0= .pointer (some ⟨p,0,none⟩)) (h:aA w p T M s) (ht:s.rx=f::r)
 (hK:∀a' w',Sz 42 a'→Kp [0,1,4,5] a a'→sl a' 6= .string (bs f)→w'=w→K .normal a' w'):
 (aB Tryz.f22 3).wp Tryz.prog K a w:=by
 refine rgE hK (fS hs) fun HK=> ?_;clear hK hs
 simp only[AC,h0]
 have c14:=h.g14
 have ow:=h.rx
 rw[ht]at c14 ow
 obtain⟨g,hA,hc,hat⟩:=fN (n:=r.length) ow
 rw[hA]at c14
 have q0:=hat 0 _ rfl
 clear hat ow
 go_wp2_with fail
 exact HK.out _ _ ⟨rfl,rfl⟩ kZ (rfl) rfl
theorem Hz (p T:Nat) (M:bQ) (s:St) (f:List UInt8) (a:Act) (w:World) (K:KT) (hs:Sz 42 a)
 (h0:sl a 0= .pointer (some ⟨p,0,none⟩)) (h:aA w p T M s) (ht:s.rx=[f]) (hne:M.rxc=1)
 (hK:∀a' w',Sz 42 a'→Kp [0,1,4,5,6] a a'→bE p T M w {s with rx:=[]} w'→K .normal a' w'):
 (aB Tryz.f22 4).wp Tryz.prog K a w:=by
 refine rgE hK (fS hs) fun HK=> ?_;clear hK hs
 simp only[AC,h0]
 have c14:=h.g14
 have hfz:=h.fr
 have ow:=h.rx
 rw[ht]at c14 ow
 obtain⟨g,hA,hc,hat⟩:=fN (n:=0) ow
 rw[hA,hne]at c14
 have q0:=hat 0 _ rfl
 clear hat ow
 obtain⟨i0,hi,hz0,hz1,hz2⟩:=info_parts mC
 have hap:∀w,(Builtin.append_ #[49,49] 49 #[.slice none 0 0,.slice (some ⟨g,0,none⟩) 0 0]).run Tryz.prog w= .ok (.slice none 0 0) w:=fun w=>by
  simp[Builtin.append_,run_underlying Tryz.underlying49,sizeOf,typeInfo,hi,Builtin.lenOf,Builtin.firstCells,loadCells,loadCellsFrom]
 go_wp2_with fail
 have hq:=h.rxTurn (q:=[]) (A:=none) (c:=0) (Fr.refl _ _) (World.ownsRow_nil _ _ _ _) (fun b hb=>by cases hb) (Nat.zero_le _)
 exact HK.out _ _ ⟨rfl,rfl⟩ kZ hq
theorem Ie (p T:Nat) (M:bQ) (s:St) (f:List UInt8) (r:List (List UInt8)) (a:Act) (w:World) (K:KT) (hs:Sz 42 a)
 (h0:sl a 0= .pointer (some ⟨p,0,none⟩)) (h:aA w p T M s) (ht:s.rx=f::r) (hne:M.rxc≠1)
 (hK:∀a' w',Sz 42 a'→Kp [0,1,4,5,6] a a'→bE p T M w {s with rx:=r} w'→K .normal a' w'):
 (aB Tryz.f22 4).wp Tryz.prog K a w:=by
 unfold Kp at hK;refine rgE hK (fS hs) fun HK=> ?_;clear hK hs;generalize sl a=u at*
 simp only[AC,h0]
 have c14:=h.g14
 have ow:=h.rx
 rw[ht]at c14 ow
 obtain⟨g,hA,hc,hat⟩:=fN (n:=r.length) ow
 have htl:=h.rxl
 have ht1:=h.ok.rx1
 rw[ht,List.length_cons]at htl
 rw[hA]at c14
 obtain⟨i0,hi,hz0,hz1,hz2⟩:=info_parts mC
 have hat1:∀j u,(wM r)[j]? =some u→w.cell? ((⟨g,1,none⟩:Addr).add j)=some u:=fun j u hj=>by
  have:=hat (j+1) u (by simpa[wM]using hj)
  rw[show(⟨g,1,none⟩:Addr).add j=⟨g,j+1,none⟩ by simp[Addr.add,Nat.add_comm]]
  exact this
 clear hat ow
 rw[List.length_cons]at c14
 go_wp2_with (at_builtin;refine wpList_append_own_at _ rfl _ _ 49 rfl 0 9 i0 (.string ⟨#[]⟩) 1 16 Tryz.underlying49 hi hz0 hz1 hz2 rfl (by decide) _ 0 [] rfl (World.ownsRow_nil _ _ _ _) ⟨g,1,none⟩ r.length (M.rxc-1) (wM r) rfl (by simp[wM]) hat1 (by simp[wM,Value.oneCell']) (by unfold maxLen;omega) (by omega) (Nat.zero_le _) ?_;intro v' w3 hown' hg3 hnil3 hbk3;obtain⟨A',c',hv',hown2⟩:=zL hown';subst hv';have hf3:Fr noB w w3:=(Fr.refl _ _).grown hg3 (fun g h _=>by cases h);have hB3:=h.none hf3;have cc:=hB3.g14;have hfz:=hB3.fr;skip)
 have hq:=h.rxTurn (q:=r) (A:=A') (c:=c') (hf3.of_no _) (by simpa using hown2) (fun b hb=>by
  have hb1:=zN (n:=0+r.length) (c:=c') hb
  rcases hbk3 with e|e
  ·rw[e]at hb1;cases hb1
  ·exact .inr (by rw[e]at hb1;injection hb1 with hb1;omega)) (by omega)
 exact HK.out _ _ ⟨rfl,rfl⟩ kZ hq
theorem Jd (i j:Nat) (a:Act) (w:World) (K:KT) (hs:Sz 42 a)
 (h5:sl a 5= .int .i64 (i:Int)) (q:IntKind.i64.wrap ((i:Int)+1)=(j:Int))
 (hK:∀a' w',Sz 42 a'→Kp [0,1,4,6] a a'→sl a' 5= .int .i64 (j:Int)→w'=w→K .normal a' w'):
 (aB Tryz.f22 5).wp Tryz.prog K a w:=by
 refine rgE hK (fS hs) fun HK=> ?_;clear hK hs
 simp only[AC,h5]
 clear h5
 go_wp2_with fail
 exact HK.out _ _ ⟨rfl,rfl⟩ kZ (rfl) rfl
theorem I3 (p T:Nat) (M:bQ) (s:St) (a:Act) (w:World) (K:KT) (hs:Sz 42 a)
 (h0:sl a 0= .pointer (some ⟨p,0,none⟩)) (h:aA w p T M s)
 (hK:∀a' w',Sz 42 a'→Kp [0,1,4,5,6] a a'→sl a' 37= .bool (!s.over)→w'=w→K .normal a' w'):
 (aB Tryz.f22 6).wp Tryz.prog K a w:=by
 refine rgE hK (fS hs) fun HK=> ?_;clear hK hs
 simp only[AC,h0]
 go_wp2_with fail
 refine(Co p T M s _ h).mono ?_
 rintro e w2 ⟨rfl,hw2⟩
 subst w2
 go_wp2_with fail
 exact HK.out _ _ ⟨rfl,rfl⟩ kZ (rfl) rfl
theorem IA (p T:Nat) (M:bQ) (s:St) (f:List UInt8) (u1:St) (a:Act) (w:World) (K:KT) (hs:Sz 42 a)
 (h0:sl a 0= .pointer (some ⟨p,0,none⟩)) (h6:sl a 6= .string (bs f)) (hc:Calls Tryz.prog 49 #[.pointer (some ⟨p,0,none⟩),.string (bs f)] w fun e w'=>e= .returned (.tuple #[])∧bE p T M w u1 w')
 (hK:∀a' w',Sz 42 a'→Kp [0,1,4,5,6] a a'→bE p T M w u1 w'→K .normal a' w'):
 (aB Tryz.f22 7).wp Tryz.prog K a w:=by
 refine rgE hK (fS hs) fun HK=> ?_;clear hK hs
 simp only[AC,h0,h6]
 have Hcall:=Lib.hid hc
 clear hc
 go_wp2_with fail
 refine Hcall.out.mono ?_
 rintro e w6 ⟨rfl,hN⟩
 go_wp2_with fail
 exact HK.out _ _ ⟨rfl,rfl⟩ kZ hN
theorem IQ (k:Nat) (a:Act) (w:World) (K:KT) (hs:Sz 42 a)
 (h5:sl a 5= .int .i64 (k:Int))
 (hK:∀a' w',Sz 42 a'→Kp [0,1,5,6] a a'→sl a' 4= .int .i64 (k:Int)→w'=w→K .normal a' w'):
 (aB Tryz.f22 8).wp Tryz.prog K a w:=by
 refine rgE hK (fS hs) fun HK=> ?_;clear hK hs
 simp only[AC,h5]
 go_wp2_with fail
 exact HK.out _ _ ⟨rfl,rfl⟩ kZ (rfl) rfl
theorem IZ (p T:Nat) (M:bQ) (s:St) (f:List UInt8) (r:List (List UInt8)) (a:Act) (w:World) (K:KT) (hs:Sz 42 a) (h0:sl a 0= .pointer (some ⟨p,0,none⟩)) (h:aA w p T M s) (ht:s.rx=f::r)
 (hK:∀a' w',Sz 42 a'→Kp [0,1,4,5,6] a a'→bE p T M w {s with rx:=r} w'→K .normal a' w'):(aB Tryz.f22 4).wp Tryz.prog K a w:=by
 by_cases hne:M.rxc=1
 ·have hr:r=[]:=by
   have ow:=h.rx
   rw[ht]at ow
   obtain⟨g,hA,hc,hat⟩:=fN (n:=r.length) ow
   cases r with
   |nil=>rfl
   |cons x y=>simp at hc;omega
  subst hr
  exact Hz p T M s f a w K hs h0 h ht hne hK
 ·exact Ie p T M s f r a w K hs h0 h ht hne hK
theorem D5 (p T:Nat) (Inv:St→Prop) (fr:St→List UInt8→St) (hI:CK Inv fr) (hF:∀(t:St) (f:List UInt8) (r:List (List UInt8)),Inv t→t.rx=f::r→t.over=false→∀(M:bQ) (w:World),aA w p T M {t with rx:=r}→Calls Tryz.prog 49 #[.pointer (some ⟨p,0,none⟩),.string (bs f)] w fun e w'=>e= .returned (.tuple #[])∧bE p T M w (fr {t with rx:=r} f) w')
 (M:bQ) (s:St) (n:Int) (hn:n≤9223372036854775807) (w:World) (h:aA w p T M s) (hi:Inv s):
 Calls Tryz.prog 22 #[.pointer (some ⟨p,0,none⟩),.int .i64 n] w (fun e w'=>e= .returned (.int .i64 ((bL fr n.toNat s 0).2:Int))∧bE p T M w (bL fr n.toNat s 0).1 w'):=by
 go_enter Tryz.func22,Tryz.ntmps22
 refine wp_seq ?_
 refine IG _ w _ ⟨rfl,rfl⟩ ?_
 intro a0 w0 hs0 k0 hw;subst w0
 refine wp_seq ?_
 refine I1 a0 w _ hs0 ?_
 intro a1 w1 hs1 k1 o5 hw;subst w1
 have e0:sl a1 0= .pointer (some ⟨p,0,none⟩):=k1.t ((k0 0 (by decide)).trans rfl)
 have e1:sl a1 1= .int .i64 n:=k1.t ((k0 1 (by decide)).trans rfl)
 clear k1 k0
 refine wp_seq (wp_block ?_)
 refine fQ 42 (fun a' w'=>∃(k m:Nat) (t:St),k+m=n.toNat∧sl a' 5= .int .i64 (k:Int)∧Kp [0,1] a1 a'∧bE p T M w t w'∧Inv t∧bL fr m t k=bL fr n.toNat s 0) (fun a' _=>n.toNat-(intOf (sl a' 5)).toNat)
  hs1 ⟨0,n.toNat,s,by omega,o5,Kp.refl _ _,bE.at_ h,hi,rfl⟩ ?_
 rintro b1 v1 hs1' ⟨k,m,t,hkm,i5,j1,hN,ht,hpf⟩
 have fin:∀b2 v2,Sz 42 b2→Kp [0,1,5] b1 b2→bE p T M w (bL fr n.toNat s 0).1 v2→(bL fr n.toNat s 0).2=k→((aB Tryz.f22 8).seq .ret).wp Tryz.prog (bodyPost Tryz.prog Tryz.f22 (fun e w'=>e= .returned (.int .i64 ((bL fr n.toNat s 0).2:Int))∧bE p T M w (bL fr n.toNat s 0).1 w')) b2 v2:=by
  intro b2 v2 hs2 j2 hN2 hk
  refine wp_seq ?_
  refine IQ k b2 v2 _ hs2 (j2.t i5) ?_
  intro b3 v3 hs3 j3 o4 hw;subst v3
  refine wp_ret ?_
  refine bodyPost_ret (results_tmp rfl _ _ _) hs3.defers ?_
  have hres:b3.tmps.getD 4 undef= .int .i64 ((bL fr n.toNat s 0).2:Int):=by rw[hk];exact o4
  rw[hres]
  exact⟨rfl,hN2⟩
 refine wp_seq (wp_seq ?_)
 obtain⟨M1,om1,B1,F1⟩:=hN
 have z0:sl b1 0= .pointer (some ⟨p,0,none⟩):=j1.t e0
 have z1:=j1.t e1
 by_cases hk:(k:Int)<n
 rotate_left
 ·refine HQ k n b1 v1 _ hs1' z1 i5 hk ?_
  intro b2 v2 hs2 j2 i17 hw;subst v2
  refine fK i17 (fun hb=>by cases hb) (fun _=> ?_)
  have hm0:m=0:=by omega
  subst hm0
  have hpf2:bL fr n.toNat s 0=(t,k):=by rw[←hpf];rfl
  refine wp_exit (bD (bD (bU ?_)))
  exact fin b2 v1 hs2 (fun x hx=>j2 x (by revert hx;revert x;decide)) (by rw[hpf2];exact⟨M1,om1,B1,F1⟩) (by rw[hpf2])
 refine G6 p T M1 t k n b1 v1 _ hs1' z0 z1 i5 B1 hk ?_
 intro b2 v2 hs2 j2 i17 hw;subst v2
 have z0:=j2.t z0
 have i5':=j2.t i5
 refine fK i17 (fun hb=> ?_) (fun hb=> ?_)
 rotate_left
 ·have hemp:t.rx=[]:=List.eq_nil_of_length_eq_zero (by have:=of_decide_eq_false hb;omega)
  refine wp_exit (bD (bD (bU ?_)))
  obtain⟨m,rfl⟩:∃m',m=m'+1:=⟨m-1,by omega⟩
  have hpf2:bL fr n.toNat s 0=(t,k):=by rw[←hpf];unfold bL;rw[hemp]
  exact fin b2 v1 hs2 (fun x hx=>j2 x (by revert hx;revert x;decide)) (by rw[hpf2];exact⟨M1,om1,B1,F1⟩) (by rw[hpf2])
 obtain⟨m,rfl⟩:∃m',m=m'+1:=⟨m-1,by omega⟩
 obtain⟨f,r,hfr⟩:∃f r,t.rx=f::r:=by
  cases hq:t.rx with
  |nil=>rw[hq]at hb;cases of_decide_eq_true hb
  |cons f r=>exact⟨f,r,rfl⟩
 have hstep:bL fr m (if t.over then {t with rx:=r}else fr {t with rx:=r} f) (k+1)=bL fr n.toNat s 0:=by rw[←hpf];conv=>rhs;unfold bL;rw[hfr]
 refine wp_skip ?_
 refine wp_block (wp_seq ?_)
 refine Js p T M1 t f r b2 v1 _ hs2 z0 B1 hfr ?_
 intro b3 v3 hs3 j3 i6 hw;subst v3
 have z0:=j3.t z0
 have i5':=j3.t i5'
 refine wp_seq ?_
 refine IZ p T M1 t f r b3 v1 _ hs3 z0 B1 hfr ?_
 intro b4 v4 hs4 j4 hN4
 obtain⟨M4,om4,B4,F4⟩:=hN4
 have z0:=j4.t z0
 have i5':=j4.t i5'
 have i6:=j4.t i6
 refine wp_seq ?_
 refine Jd k (k+1) b4 v4 _ hs4 i5' ((IntWalk.i64_in _ (by omega)).trans (by omega)) ?_
 intro b5 v5 hs5 j5 i5n hw;subst v5
 have z0:=j5.t z0
 have i6:=j5.t i6
 have j15:Kp [0,1] a1 b5:=fun x hx=>(j5 x (by revert hx;revert x;decide)).trans ((j4 x (by revert hx;revert x;decide)).trans ((j3 x (by revert hx;revert x;decide)).trans ((j2 x (by revert hx;revert x;decide)).trans (j1 x hx))))
 refine wp_seq ?_
 refine I3 p T M4 _ b5 v4 _ hs5 z0 B4 ?_
 intro b6 v6 hs6 j6 i37 hw;subst v6
 have z0:=j6.t z0
 have i5n:=j6.t i5n
 have i6:=j6.t i6
 have hov:({t with rx:=r}:St).over=t.over:=rfl
 rw[hov]at i37
 refine fK i37 (fun hb=> ?_) (fun hb=> ?_)
 ·have hnov:t.over=false:=by simpa using hb
  rw[hnov]at hstep
  refine IA p T M4 {t with rx:=r} f _ b6 v4 _ hs6 z0 i6 (hF t f r ht hfr hnov M4 v4 B4) ?_
  intro b7 v7 hs7 j7 hN7
  have i5n:=j7.t i5n
  refine⟨hs7,⟨k+1,m,_,by omega,i5n,fun x hx=>(j7 x (by revert hx;revert x;decide)).trans ((j6 x (by revert hx;revert x;decide)).trans (j15 x hx)),bE.comp om1 F1 (bE.comp om4 F4 hN7),hI.go t f r ht hfr hnov,hstep⟩,?_⟩
  rw[i5n,i5];simp only[intOf];omega
 ·have hyov:t.over=true:=by simpa using hb
  rw[hyov]at hstep
  refine wp_skip ?_
  refine⟨hs6,⟨k+1,m,_,by omega,i5n,fun x hx=>(j6 x (by revert hx;revert x;decide)).trans (j15 x hx),bE.comp om1 F1 ⟨M4,om4,B4,F4⟩,hI.over t f r ht hfr hyov,hstep⟩,?_⟩
  rw[i5n,i5];simp only[intOf];omega
end Go.Proofs.YtcllkmllflheiaaGreatDoor
namespace Go.Proofs.YtcllkmllflheiaaGreatDoor
open Go.RowKit Go.Proofs
theorem AM {k:Int} (L:Lay) (s:St) (dr:Nat) (w:World) (h:aC w L s) (hl:Lw k s) (hk:k<4611686018427387904) (h3:s.lease=3→s.now+1<s.lagain) (hdr:dr<4294967296):
 Calls Tryz.prog 19 #[.pointer (some ⟨L.p,0,none⟩),.int .u32 (dr:Int)] w (bP L (s.tick dr) (.tuple #[]) w):=by
 obtain⟨hw,ht⟩:=hl.turn hk dr
 have h3':({s with now:=wrap64 (s.now+1),draw:=dr}:St).lease=3→({s with now:=wrap64 (s.now+1),draw:=dr}:St).now<({s with now:=wrap64 (s.now+1),draw:=dr}:St).lagain:=fun e=>by show wrap64 _<_;rw[hw];exact h3 e
 refine Cz L s dr w h (by have:=hl.now1;omega) hdr (fun t w e h=> ?_) (fun e=> ?_)
 ·rw[ht.nb]at e;subst e
  exact nD L _ w h ht.lease h3'
 ·rw[ht.nb,(ht.leases h3').busy]at e;cases e
theorem By {k:Int} (p T:Nat) (M:bQ) (s:St) (d:Nat) (w:World) (h:aA w p T M s) (hl:Lw k s) (hk:k<4611686018427387904) (h3:s.lease=3→s.now+1<s.lagain) (hd:d<4294967296):
 Calls Tryz.prog 20 #[.pointer (some ⟨p,0,none⟩),.int .u32 (d:Int)] w fun e w'=>e= .returned (.tuple #[])∧bE p T M w (s.tick d) w':=by
 obtain⟨hw,ht⟩:=hl.turn hk d
 have h3':({s with now:=wrap64 (s.now+1),draw:=d}:St).lease=3→({s with now:=wrap64 (s.now+1),draw:=d}:St).now<({s with now:=wrap64 (s.now+1),draw:=d}:St).lagain:=fun e=>by show wrap64 _<_;rw[hw];exact h3 e
 refine Eo p T M s d w h (by have:=hl.now1;omega) hd (fun M w h=> ?_) (fun M w h=> ?_) (fun e=> ?_)
 ·rw[ht.nb];exact C6 p T M _ w h ht.cache
 ·rw[ht.nb]at h⊢;exact tQ p T M _ w h ht.lease h3'
 ·rw[ht.nb,(ht.leases h3').busy]at e;cases e
theorem AK {k:Int} (L:Lay) (s:St) (n:Int) (hn:n≤9223372036854775807) (w:World) (h:aC w L s) (hi:Lw k s):
 Calls Tryz.prog 21 #[.pointer (some ⟨L.p,0,none⟩),.int .i64 n] w (bP L (bL St.frame n.toNat s 0).1 (.int .i64 ((bL St.frame n.toNat s 0).2:Int)) w):=
 CQ (Lw k) St.frame (yO k) (fun t f r ht hr _ L w hB=>tZ L _ f w hB (by have:=ht.rx f (by rw[hr];exact List.mem_cons_self);omega) (ht.rxT hr).busy) L s n hn w h hi
theorem Bx {k:Int} (p T:Nat) (M:bQ) (s:St) (n:Int) (hn:n≤9223372036854775807) (w:World) (h:aA w p T M s) (hi:Lw k s):
 Calls Tryz.prog 22 #[.pointer (some ⟨p,0,none⟩),.int .i64 n] w fun e w'=>e= .returned (.int .i64 ((bL St.frame n.toNat s 0).2:Int))∧bE p T M w (bL St.frame n.toNat s 0).1 w':=
 D5 p T (Lw k) St.frame (yO k) (fun t f r ht hr _ M w hB=>xS p T M _ f w hB (ht.rx f (by rw[hr];exact List.mem_cons_self)) (ht.rxT hr).busy (fun x w h _ _ _=>by rw[(ht.rxT hr).arped_eq];exact Cj p T M _ x w h (ht.rxT hr).lease (ht.rxT hr).cache) (fun d A cap n w h hO=>DA p T M _ d A cap n w h hO)) M s n hn w h hi
end Go.Proofs.YtcllkmllflheiaaGreatDoor
namespace Go.Proofs.YtcllkmllflheiaaGreatDoor
open Go.RowKit Go.Proofs
attribute [local go_sem] aG aD aE aF
structure eD where
 card:Mac
 name:List UInt8
 cap:Int
 digest:List UInt8
 block:Int
 window:Int
 rx:Int
 tx:Int
def gI (c:eD):Array Value:= #[.int .u8 (c.card.1.toNat:Int),.int .u8 (c.card.2.1.toNat:Int),.int .u8 (c.card.2.2.1.toNat:Int),.int .u8 (c.card.2.2.2.1.toNat:Int),.int .u8 (c.card.2.2.2.2.1.toNat:Int),.int .u8 (c.card.2.2.2.2.2.toNat:Int),.string (bs c.name),.int .i64 c.cap,.string (bs c.digest),.int .i64 c.block,.int .i64 c.window,.int .i64 c.rx,.int .i64 c.tx]
def eD.Ok1 (c:eD):Prop:=1≤c.name.length∧c.name.length≤20∧c.digest.length=32
def eD.Ok2 (c:eD):Prop:=(1≤c.cap∧c.cap≤600000)∧(8≤c.block∧c.block≤1024)∧(1≤c.window∧c.window≤8)∧(1≤c.rx∧c.rx≤16)∧(1≤c.tx∧c.tx≤16)
instance (c:eD):Decidable c.Ok1:=by unfold eD.Ok1;infer_instance
instance (c:eD):Decidable c.Ok2:=by unfold eD.Ok2;infer_instance
def eD.Ok (c:eD):Prop:=c.Ok1∧c.name.all eQ=true∧c.Ok2∧c.card≠nA∧c.card.1.toNat%2≠1
instance (c:eD):Decidable c.Ok:=by unfold eD.Ok;infer_instance
def eD.cfg (c:eD):JM:=⟨c.card,c.name,c.cap.toNat,c.digest,c.block.toNat,c.window.toNat,c.rx.toNat,c.tx.toNat⟩
def iH (c:eD):St:=⟨c.cfg,[],[],0,0,0,0,0,[],0,0,0,0,0,0,0,0,0,0,0,0,0,0,0,0,0,0,0,0,0,0,[],[]⟩
theorem DI:(Tryz.prog.info? 101).map (fun i=>(i.zero,i.size,i.bytes))=some (some (.agg #[.bool false,.string ⟨#[]⟩]),2,24):=by kernel_rfl
theorem DZ (n k:Nat) (h:k<n):(madeCells #[.bool false,.string ⟨#[]⟩] (n*2))[k*2]? =some (.bool false)∧(madeCells #[.bool false,.string ⟨#[]⟩] (n*2))[k*2+1]? =some (.string ⟨#[]⟩):=by
 unfold madeCells
 constructor
 ·rw[Array.getElem?_map,Array.getElem?_range,if_pos (by omega)]
  have:k*2%2=0:=by omega
  simp[this]
 ·rw[Array.getElem?_map,Array.getElem?_range,if_pos (by omega)]
  have:(k*2+1)%2=1:=by omega
  simp[this]
theorem BJ (n:Nat) (w:World) (h1:1≤n) (h2:n≤16):
 Calls Tryz.prog 28 #[.int .i64 (n:Int)] w fun e w'=>∃r g,e= .returned (.pointer (some ⟨r,0,none⟩))∧fG w' r g n []∧Fr noB w w'∧w.heap.size≤r∧w.heap.size≤g∧r≠g:=by
 obtain⟨i,hi,hz,hs,hb⟩:=info_parts DI
 have hrun:=run_make (P:=Tryz.prog) (w:=w) 95 101 i _ Tryz.underlying95 hi hz .i64 .i64 (n:Int) (n:Int) (by omega) (by omega) (by rw[hb];omega) (by omega)
 rw[Int.toNat_natCast,hs]at hrun
 have hcs:(Value.agg #[.bool false,.string ⟨#[]⟩]).cells= #[.bool false,.string ⟨#[]⟩]:=rfl
 rw[hcs]at hrun
 have hat:=DZ n
 have hsz:=size_madeCells #[.bool false,.string ⟨#[]⟩] (n*2)
 generalize madeCells #[.bool false,.string ⟨#[]⟩] (n*2)=cs at*
 have hB:=(Bk.new w 101 cs).alloc (.cells #[.slice (some ⟨w.heap.size,0,none⟩) n n,.int .i64 0,.int .i64 0] 97)
 have hR:=Bk.new (w.alloc (.cells cs 101)) 97 #[.slice (some ⟨w.heap.size,0,none⟩) n n,.int .i64 0,.int .i64 0]
 have hF:Fr noB w ((w.alloc (.cells cs 101)).alloc (.cells #[.slice (some ⟨w.heap.size,0,none⟩) n n,.int .i64 0,.int .i64 0] 97)):=((Fr.refl _ _).alloc _).alloc _
 have hsz1:(w.alloc (.cells cs 101)).heap.size=w.heap.size+1:=by simp
 clear hcs hi hz hs hb
 have Hat:=Lib.hid hat
 clear hat
 go_enter Tryz.func28,Tryz.ntmps28
 go_wp2_with fail
 go_ret
 rw[hsz1]at hR
 refine⟨w.heap.size+1,w.heap.size,rfl,⟨0,cs,?_,hB,hsz,h1,Nat.zero_le _,by omega,?_⟩,hF,by omega,by omega,by omega⟩
 ·rw[show(0+([]:List (List UInt8)).length)%n=0 by simp];exact hR
 ·refine⟨fun k f hf=>by simp at hf,fun k _ hk=> ?_⟩
  rw[Nat.zero_add,Nat.mod_eq_of_lt hk]
  exact⟨(Hat.out k hk).1,_,(Hat.out k hk).2⟩
theorem fG.lt {w:World} {r g n:Nat} {q:List (List UInt8)} (h:fG w r g n q):r<w.heap.size∧g<w.heap.size:=by obtain⟨i,cs,a,b,_⟩:=h;exact⟨a.lt,b.lt⟩
theorem Dv (s:ByteArray) (i:Nat):1≤(Utf8.decode s i).2:=by
 unfold Utf8.decode
 dsimp only
 repeat' split
 all_goals simp
theorem FB (s:ByteArray) (i:Nat) (h:i<s.size) (hb:128≤(s[i]'h).toNat):128≤(Utf8.decode s i).1:=by
 have e:s.get! (i+0)=s[i]'h:=by
  show s.get! i=_
  simp[ByteArray.get!,getElem!_pos,h]
  rfl
 have hb':128≤(s.get! (i+0)).toNat:=by rw[e];exact hb
 unfold Utf8.decode
 dsimp only
 rw[if_neg (by omega)]
 repeat' split
 all_goals(simp[Utf8.runeError]at*;try omega)
theorem KA (x:Nat) (h:x<256):bits .and .u8 (x:Int) 1=((x%2:Nat):Int):=by
 rw[show(1:Int)=((1:Nat):Int)from rfl,u8_and_nat x 1 h (by omega),Nat.and_one_is_mod]
theorem CU (w:World) (k:Nat) (s:ByteArray) (pos:Nat):Fr (aJ k) w (w.iterAt k s pos):=
 ⟨rfl,rfl,rfl,by show _≤(w.heap.setIfInBounds k _).size;simp,fun j hj hne=>by
  show(w.heap.setIfInBounds k _)[j]? =_
  rw[Array.getElem?_setIfInBounds_ne (fun e=>hne e.symm)]⟩
theorem FD (w:World) (s:ByteArray) (pos:Nat):Fr noB w (w.iter s pos):=(Fr.refl noB w).alloc _
def ckL (c:eD):List Bool:=[decide (1≤c.cap∧c.cap≤600000),decide (8≤c.block∧c.block≤1024),decide (1≤c.window∧c.window≤8),decide (1≤c.rx∧c.rx≤16),decide (1≤c.tx∧c.tx≤16)]
theorem Gn (c:eD):(ckL c).all id=decide c.Ok2:=by
 rw[Bool.eq_iff_iff]
 unfold ckL eD.Ok2
 simp[List.all_cons,and_assoc]
def FX (c:eD) (w:World) (e:Ending) (w':World):Prop:=
 (c.Ok→∃L:Lay,e= .returned (.tuple #[.pointer (some ⟨L.p,0,none⟩),.int .i64 0])∧aC w' L (iH c)∧(∀b,bW L b→w.heap.size≤b)∧Fr noB w w')∧
 (¬c.Ok→e= .returned (.tuple #[.pointer none,.int .i64 8])∧Fr noB w w')
theorem JB (c:eD):(((decide c.Ok1&&c.name.all eQ)&&decide c.Ok2)&&decide (c.card≠nA∧c.card.1.toNat%2≠1))=decide c.Ok:=by
 have h:((c.Ok1∧c.name.all eQ=true)∧c.Ok2)∧(c.card≠nA∧c.card.1.toNat%2≠1)↔c.Ok:=by
  unfold eD.Ok
  exact⟨fun h=>⟨h.1.1.1,h.1.1.2,h.1.2,h.2⟩,fun h=>⟨⟨⟨h.1,h.2.1⟩,h.2.2.1⟩,h.2.2.2⟩⟩
 rw[Bool.eq_iff_iff,decide_eq_true_iff (p:=c.Ok),←h]
 simp only[Bool.and_eq_true,decide_eq_true_eq]
theorem E3 {c:eD} (h:c.Ok):(iH c).Ok:=by
 obtain⟨h1,_,h2,_⟩:=h
 obtain⟨a1,a2,a3⟩:=h1
 obtain⟨⟨b1,b2⟩,⟨b3,b4⟩,⟨b5,b6⟩,⟨b7,b8⟩,b9,b10⟩:=h2
 constructor<;>simp[iH,eD.cfg]<;>omega
attribute [local simp] gI ckL ibq ibn eqN ltN leN eqL ltL gtL leL geL
theorem zY (c:eD) (w:World) (hgb:Glb w):Calls Tryz.prog 13 #[.agg (gI c)] w (FX c w):=by
 refine en Tryz.func13 Tryz.ntmps13 ?_
 refine W ?_
 refine sA ?_
 intro w0 hG f0
 have hgg:=hG.lt
 generalize w.heap.size=g at*
 refine V ?_
 refine cS ?_
 obtain⟨b,hb⟩:∃b,b=decide c.Ok1:=⟨_,rfl⟩
 refine cM [1] [(4,.bool b)] (fun w'=>w'=w0) ?_ ?_
 ·unfold eD.Ok1 at hb
  by_cases a1:1≤c.name.length
  by_cases a2:c.name.length≤20
  by_cases a3:c.digest.length=32
  all_goals
   refine W ?_
   exact mt rfl
 have Hb:=Lib.hid hb
 clear hb
 intro u w' hw
 subst w'
 refine cS ?_
 refine cM [1] [(4,.bool (b&&c.name.all eQ))] (fun w'=>Fr noB w0 w') ?_ ?_
 ·refine W ?_
  refine sW (h:= ?_)
  have hf2:Fr noB w0 (w0.iter (bs c.name) 0):=FD _ _ _
  have hk2:(w0.iter (bs c.name) 0).heap[w0.heap.size]? =some (.stringIter (bs c.name) 0):=World.iter_heap _ _ _
  generalize w0.iter (bs c.name) 0=w2 at*
  refine W ?_
  have hsz:(bs c.name).size=c.name.length:=aG _
  refine cL (fun i=>c.name.length-i.1) (fun(i:Nat×Bool)=>[(4,.bool i.2),(1,.pointer (some ⟨g,0,none⟩)),(28,.pointer (some ⟨w0.heap.size,0,none⟩))]) (fun i w'=>w'.heap[w0.heap.size]? =some (.stringIter (bs c.name) i.1)∧Fr (aJ w0.heap.size) w2 w'∧((i.2=true∧b=true∧(c.name.take i.1).all eQ=true)∨(i.2=false∧(b&&c.name.all eQ)=false))) (0,b) (mt (p:=True) trivial).1 ⟨hk2,Fr.refl _ _,by cases b<;>simp⟩ ?_
  clear hk2
  rintro⟨pos,e⟩ u w3 ⟨hk3,hf3,hinv⟩
  dsimp only at hk3 hinv⊢
  by_cases hp:pos<c.name.length
  ·have hp':pos<(bs c.name).size:=by omega
   have hnx:=fun ty=>Lib.run_next_any_at (P:=Tryz.prog) w3 _ (bs c.name) pos ty hk3 hp'
   refine W ?_
   refine sW (h:= ?_)
   have hf4:=hf3.trans (CU w3 w0.heap.size (bs c.name) (pos+(Utf8.decode (bs c.name) pos).2))
   have hk4:=Lib.iterAt_heap w3 _ (bs c.name) pos (pos+(Utf8.decode (bs c.name) pos).2) hk3
   have hd1:=Dv (bs c.name) pos
   generalize w3.iterAt w0.heap.size (bs c.name) (pos+(Utf8.decode (bs c.name) pos).2)=w4 at*
   clear hnx hk3 hf3
   obtain⟨x,hx⟩:∃x,c.name[pos]? =some x:=⟨_,List.getElem?_eq_getElem hp⟩
   have hgx:(bs c.name)[pos]'hp'=x:=by rw[gW c.name pos hp'];rw[List.getElem?_eq_getElem hp]at hx;injection hx
   have hasc:x.toNat<128→Utf8.decode (bs c.name) pos=(x.toNat,1):=fun h=>by rw[decode_ascii (bs c.name) pos hp' (by rw[hgx];exact h),hgx]
   have hbad:¬x.toNat<128→128≤(Utf8.decode (bs c.name) pos).1:=fun h=>FB (bs c.name) pos hp' (by rw[hgx];omega)
   generalize Utf8.decode (bs c.name) pos=q at*
   obtain⟨dc,dl⟩:=q
   dsimp only at hk4 hd1 hbad⊢
   have fin:∀e',e'=(e&&decide (32<dc∧dc<127))→((e'=true∧b=true∧(c.name.take (pos+dl)).all eQ=true)∨(e'=false∧(b&&c.name.all eQ)=false)):=by
    rintro _ rfl
    rcases hinv with⟨rfl,hb0,ha⟩|⟨rfl,hT⟩
    ·by_cases h128:x.toNat<128
     ·obtain⟨rfl,rfl⟩:=Prod.mk.inj (hasc h128)
      by_cases hc:eQ x=true
      ·refine .inl ⟨?_,hb0,zZ hx ha hc⟩
       unfold eQ at hc
       simp only[Bool.and_eq_true,decide_eq_true_eq]at hc
       rw[Bool.true_and,decide_eq_true]
       omega
      ·have hcf:eQ x=false:=by simpa using hc
       refine .inr ⟨?_,?_⟩
       ·unfold eQ at hcf
        rw[Bool.true_and,decide_eq_false]
        intro hz
        have:(decide (33≤x.toNat)&&decide (x.toNat≤126))=true:=by simp;omega
        rw[this]at hcf;cases hcf
       ·have:c.name.all eQ=false:=by
         rw[List.all_eq_false];exact⟨x,List.mem_of_getElem? hx,by rw[hcf];decide⟩
        rw[this,Bool.and_false]
     ·have hcf:eQ x=false:=by unfold eQ;simp;omega
      refine .inr ⟨?_,?_⟩
      ·have:=hbad h128;rw[Bool.true_and,decide_eq_false];omega
      ·have:c.name.all eQ=false:=by
        rw[List.all_eq_false];exact⟨x,List.mem_of_getElem? hx,by rw[hcf];decide⟩
       rw[this,Bool.and_false]
    ·exact .inr ⟨Bool.false_and _,hT⟩
   clear hinv hasc hbad hgx hx hp'
   obtain⟨e',he⟩:∃e',e'=(e&&decide (32<dc∧dc<127)):=⟨_,rfl⟩
   have Fin:=Lib.hid (fin e' he)
   clear fin
   have Hd:=Lib.hid hd1
   clear hd1
   by_cases a1:32<dc
   by_cases a2:dc<127
   all_goals
    cases e<;>refine W ?_<;>exact⟨(pos+dl,e'),(mt (p:=True) trivial).1,⟨hk4,hf4,Fin.out⟩,by have:=Hd.out;dsimp only;omega⟩
  ·have hnx:=fun ty=>Lib.run_next_end_at (P:=Tryz.prog) w3 _ (bs c.name) pos ty hk3 (show ¬pos<(bs c.name).size by omega)
   have hT:e=(b&&c.name.all eQ):=by
    rcases hinv with⟨rfl,hb0,ha⟩|⟨rfl,hT⟩
    ·rw[List.take_of_length_le (by omega)]at ha;rw[hb0,ha];rfl
    ·exact hT.symm
   clear hk3 hp hinv hsz
   rw[←hT]
   clear hT
   refine W ?_
   refine sW (h:= ?_)
   refine W ?_
   exact mt (bA hf2 (Nat.le_refl _) hf3)
 intro u w1 f1
 replace hG:=hG.keep f1 id
 replace f0:=f0.none f1
 clear f1
 generalize hb1:(b&&c.name.all eQ)=b1
 refine cS ?_
 refine cM [1] [(4,.bool (b1&&decide c.Ok2))] (fun w'=>Fr noB w1 w') ?_ ?_
 ·clear hb1
  generalize b1=b
  refine W ?_
  refine sA ?_
  intro w2 hQ f2
  replace hQ:Bk w2 w1.heap.size _ #[.int .i64 c.cap,.int .i64 1,.int .i64 600000,.int .i64 c.block,.int .i64 8,.int .i64 1024,.int .i64 c.window,.int .i64 1,.int .i64 8,.int .i64 c.rx,.int .i64 1,.int .i64 16,.int .i64 c.tx,.int .i64 1,.int .i64 16]:=hQ
  generalize w1.heap.size=q at*
  refine W ?_
  refine cL (fun i=>5-i) (fun i=>[(58,.int .i64 ((i:Nat):Int)),(4,.bool (b&&((ckL c).take i).all id)),(1,.pointer (some ⟨g,0,none⟩)),(56,.slice (some ⟨q,0,none⟩) 5 5),(57,.int .i64 5)]) (fun i w'=>i≤5∧Fr noB w2 w') 0 (mt (p:=True) trivial).1 ⟨by decide,Fr.refl _ _⟩ ?_
  rintro i u w3 ⟨hi,hf3⟩
  have hQ3:=hQ.keep hf3 id
  clear hG hgg
  obtain rfl|rfl|rfl|rfl|rfl|rfl:i=0∨i=1∨i=2∨i=3∨i=4∨i=5:=by omega
  ·have e1:(b&&((ckL c).take 1).all id)=((b&&((ckL c).take 0).all id)&&decide (1≤c.cap∧c.cap≤600000)):=by simp[Bool.and_assoc]
   generalize(b&&((ckL c).take 0).all id)=e at*
   have E1:=Lib.hid e1
   clear e1
   refine W ?_
   refine sA ?_
   intro w4 hV f4
   refine W ?_
   refine sT ?_
   intro w5 hV f5
   have f5:=hf3.none (bA f4 (Nat.le_refl _) f5)
   by_cases a1:1≤c.cap
   by_cases a2:c.cap≤600000
   all_goals
    cases e<;>refine W ?_<;>exact⟨1,by rw[E1.out];exact(mt (p:=True) trivial).1,⟨by decide,f5⟩,by decide⟩
  ·have e1:(b&&((ckL c).take 2).all id)=((b&&((ckL c).take 1).all id)&&decide (8≤c.block∧c.block≤1024)):=by simp[Bool.and_assoc]
   generalize(b&&((ckL c).take 1).all id)=e at*
   have E1:=Lib.hid e1
   clear e1
   refine W ?_
   refine sA ?_
   intro w4 hV f4
   refine W ?_
   refine sT ?_
   intro w5 hV f5
   have f5:=hf3.none (bA f4 (Nat.le_refl _) f5)
   by_cases a1:8≤c.block
   by_cases a2:c.block≤1024
   all_goals
    cases e<;>refine W ?_<;>exact⟨2,by rw[E1.out];exact(mt (p:=True) trivial).1,⟨by decide,f5⟩,by decide⟩
  ·have e1:(b&&((ckL c).take 3).all id)=((b&&((ckL c).take 2).all id)&&decide (1≤c.window∧c.window≤8)):=by simp[Bool.and_assoc]
   generalize(b&&((ckL c).take 2).all id)=e at*
   have E1:=Lib.hid e1
   clear e1
   refine W ?_
   refine sA ?_
   intro w4 hV f4
   refine W ?_
   refine sT ?_
   intro w5 hV f5
   have f5:=hf3.none (bA f4 (Nat.le_refl _) f5)
   by_cases a1:1≤c.window
   by_cases a2:c.window≤8
   all_goals
    cases e<;>refine W ?_<;>exact⟨3,by rw[E1.out];exact(mt (p:=True) trivial).1,⟨by decide,f5⟩,by decide⟩
  ·have e1:(b&&((ckL c).take 4).all id)=((b&&((ckL c).take 3).all id)&&decide (1≤c.rx∧c.rx≤16)):=by simp[Bool.and_assoc]
   generalize(b&&((ckL c).take 3).all id)=e at*
   have E1:=Lib.hid e1
   clear e1
   refine W ?_
   refine sA ?_
   intro w4 hV f4
   refine W ?_
   refine sT ?_
   intro w5 hV f5
   have f5:=hf3.none (bA f4 (Nat.le_refl _) f5)
   by_cases a1:1≤c.rx
   by_cases a2:c.rx≤16
   all_goals
    cases e<;>refine W ?_<;>exact⟨4,by rw[E1.out];exact(mt (p:=True) trivial).1,⟨by decide,f5⟩,by decide⟩
  ·have e1:(b&&((ckL c).take 5).all id)=((b&&((ckL c).take 4).all id)&&decide (1≤c.tx∧c.tx≤16)):=by simp[Bool.and_assoc]
   generalize(b&&((ckL c).take 4).all id)=e at*
   have E1:=Lib.hid e1
   clear e1
   refine W ?_
   refine sA ?_
   intro w4 hV f4
   refine W ?_
   refine sT ?_
   intro w5 hV f5
   have f5:=hf3.none (bA f4 (Nat.le_refl _) f5)
   by_cases a1:1≤c.tx
   by_cases a2:c.tx≤16
   all_goals
    cases e<;>refine W ?_<;>exact⟨5,by rw[E1.out];exact(mt (p:=True) trivial).1,⟨by decide,f5⟩,by decide⟩
  ·rw[show(ckL c).take 5=ckL c from rfl,Gn]
   generalize decide c.Ok2=e
   refine W ?_
   exact mt (f2.none hf3)
 subst hb1
 intro u w2 f2
 replace hG:=hG.keep f2 id
 replace f0:=f0.none f2
 clear f2
 generalize hb3:((b&&c.name.all eQ)&&decide c.Ok2)=b3
 have ok0:=JB c
 rw[←Hb.out,hb3]at ok0
 clear hb3
 refine cS ?_
 refine cS ?_
 obtain⟨d,hd⟩:∃d,d= !(b3&&decide (c.card≠nA∧c.card.1.toNat%2≠1)):=⟨_,rfl⟩
 refine cM [1] [(92,.bool d)] (fun w'=>w'=w2) ?_ ?_
 ·have hE:=tI c.card nA
  have hGd:=eP
  have ha:=KA c.card.1.toNat c.card.1.toNat_lt
  rw[show wT nA= #[.int .u8 0,.int .u8 0,.int .u8 0,.int .u8 0,.int .u8 0,.int .u8 0]from rfl]at hE
  unfold wT at hE
  obtain⟨z,hz⟩:∃z,z=decide (c.card=nA):=⟨_,rfl⟩
  replace hd:d= !(b3&&(!z&&decide (c.card.1.toNat%2≠1))):=by rw[hd,hz,Bool.decide_and];simp
  rw[←hz]at hE
  clear ok0 hz hgb
  by_cases hp:c.card.1.toNat%2=1
  ·rw[hp]at ha
   cases b3<;>cases z<;>refine W ?_<;>exact mt rfl
  ·rw[show c.card.1.toNat%2=0 by omega]at ha
   cases b3<;>cases z<;>refine W ?_<;>exact mt rfl
 intro u w' hw
 subst w'
 rw[ok0]at hd
 clear ok0
 cases d
 rotate_left
 ·have hno:¬c.Ok:=by simpa using hd
  clear hd
  refine W ?_
  exact⟨fun h=>absurd h hno,fun _=>⟨rfl,f0⟩⟩
 have hok:c.Ok:=by simpa using hd
 clear hd
 have hnk:=E3 hok
 obtain⟨nr,hnr⟩:=Int.eq_ofNat_of_zero_le (show 0≤c.rx by have:=hok.2.2.1;unfold eD.Ok2 at this;omega)
 obtain⟨nt,hnt⟩:=Int.eq_ofNat_of_zero_le (show 0≤c.tx by have:=hok.2.2.1;unfold eD.Ok2 at this;omega)
 have hrt:1≤nr∧nr≤16∧1≤nt∧nt≤16:=by have:=hok.2.2.1;unfold eD.Ok2 at this;omega
 rw[hnr,hnt]at hG
 have Hn:=Lib.hid (And.intro hnr hnt)
 clear hnr hnt
 refine W ?_
 refine dI hG [8] [1,4,0,2,5,3,6,7,8,9] (h:= ?_)
 intro w3 hG3 f3
 refine D ?_
 refine dY (BJ nr _ hrt.1 hrt.2.1) ?_
 rintro e w4 ⟨r1,g1,rfl,hR1,hf1,hl1,hl2,hne1⟩
 refine⟨_,rfl,hG3.keep hf1 id,?_⟩
 refine D ?_
 refine dY (BJ nt _ hrt.2.2.1 hrt.2.2.2) ?_
 rintro e w5 ⟨r2,g2,rfl,hR2,hf2,hl3,hl4,hne2⟩
 refine⟨_,rfl,(hG3.keep hf1 id).keep hf2 id,?_⟩
 refine D ?_
 refine dA ?_
 intro w6 hB hf3
 have hws:=(f0.none f3).size
 have hFa:=(((f0.none f3).none hf1).none hf2).none hf3
 have hRx:=(hR1.keep hf2 id id).keep hf3 id id
 have hTx:=hR2.keep hf3 id id
 have lr:=hR1.lt
 have lt2:=hR2.lt
 have z4:=hf1.size
 have z5:=hf2.size
 have z6:=hf3.size
 have lp:=hB.lt
 obtain⟨p,hp⟩:∃p,p=w5.heap.size:=⟨_,rfl⟩
 rw[←hp]at hB⊢
 refine D ?_
 refine tN ?_
 clear hG hG3 hR1 hR2 hf1 hf2 hf3 f0 f3
 have Hp:=Lib.hid hp
 clear hp
 refine W ?_
 refine sC (qK p 15 (.map none) w6 (hB.cell 15) (hB.free 15)) ?_
 intro w7 hw7
 have hcl:=Cn (w:=w6) (cb:=p) (co:=15) hB.lt
 have hB7:=(hB.alloc (.map #[] 0)).set 15 (.map (some w6.heap.size))
 have hf7:Fr (aJ p) w6 w7:=by rw[hw7];exact(((Fr.refl (aJ p) w6).alloc _).setCell (p:=⟨p,15,none⟩) (fun _=>rfl) _)
 rw[←hw7]at hcl hB7
 clear hw7
 refine W ?_
 replace Hp:=Hp.out
 obtain⟨hnr,hnt⟩:=Hn.out
 have hFr:Fr noB w w7:=hFa.trans' hf7 (fun j hj e=>by have e':j=p:=e;omega)
 have hown:∀b,bW ⟨p,r1,g1,r2,g2,w6.heap.size,none,0⟩ b→w.heap.size≤b:=by
  rintro b (hb|⟨a,ha,_⟩)
  ·simp only[Lay.blocks,List.mem_cons,List.not_mem_nil,or_false]at hb
   rcases hb with rfl|rfl|rfl|rfl|rfl|rfl<;>omega
  ·cases ha
 refine⟨fun _=>⟨⟨p,r1,g1,r2,g2,w6.heap.size,none,0⟩,rfl,⟨?_,?_,?_,hcl,⟨by simp[u8s,iH],.inl ⟨rfl,rfl⟩⟩,?_,(fun a ha=>by cases ha),hnk,hgb.keep hFr (fun _ _ x=>x),fun b hb hx=> ?_⟩,hown,hFr⟩,fun h=>absurd hok h⟩
 ·obtain⟨_,_,h2,_⟩:=hok
  obtain⟨⟨b1,b2⟩,⟨b3,b4⟩,⟨b5,b6⟩,_⟩:=h2
  unfold eC iH eD.cfg
  rw[Int.toNat_of_nonneg (show 0≤c.cap by omega),Int.toNat_of_nonneg (show 0≤c.block by omega),Int.toNat_of_nonneg (show 0≤c.window by omega),hnr,hnt,Int.toNat_natCast,Int.toNat_natCast]
  exact hB7
 ·show fG w7 r1 g1 c.rx.toNat []
  rw[show c.rx.toNat=nr by omega]
  exact hRx.keep hf7 (fun e=>by have e':r1=p:=e;omega) (fun e=>by have e':g1=p:=e;omega)
 ·show fG w7 r2 g2 c.tx.toNat []
  rw[show c.tx.toNat=nt by omega]
  exact hTx.keep hf7 (fun e=>by have e':r2=p:=e;omega) (fun e=>by have e':g2=p:=e;omega)
 ·simp only[Lay.blocks,List.nodup_cons,List.mem_cons,List.not_mem_nil,or_false,not_or,List.nodup_nil,and_true,not_false_eq_true]
  omega
 ·have:=hown b hb;have:=Ce hgb b hx;omega
end Go.Proofs.YtcllkmllflheiaaGreatDoor
namespace Go.Proofs.YtcllkmllflheiaaGreatDoor
open Go.RowKit Go.Proofs
attribute [local go_sem] aG aD cV aF
def nZ (c:Int) (n:Nat):Nat:=((if c<0 then-(c+1)else c)%(n:Int)).toNat
theorem Ai (c:Int) (n:Nat) (h:0<n):nZ c n<n:=by
 unfold nZ
 have h1:=Int.emod_lt_of_pos (if c<0 then-(c+1)else c) (by omega:(0:Int)<(n:Int))
 have h2:=Int.emod_nonneg (if c<0 then-(c+1)else c) (by omega:(n:Int)≠0)
 omega
theorem C8 (c:Int) (n:Nat) (h:0<n):((nZ c n:Nat):Int)=(if c<0 then-(c+1)else c)%(n:Int):=by
 unfold nZ
 exact Int.toNat_of_nonneg (Int.emod_nonneg _ (by omega))
end Go.Proofs.YtcllkmllflheiaaGreatDoor
