/- Parts of the walk; written by programs, merged. -/
import Derived.Test.YtcllkmllflheiaaGreatDoorLaa
import Derived.Deep.DeepMust
import Derived.Deep.RegionHeld3
import Derived.Deep.RegionLaw
import Derived.Deep.LoopGhost
import Derived.OrdersHeld
set_option linter.unusedSimpArgs false
set_option linter.unusedVariables false
set_option maxRecDepth 20000
set_option maxHeartbeats 8000000
namespace Go.Proofs.YtcllkmllflheiaaGreatDoor
open Go.RowKit Go.Proofs
theorem kD:(Tryz.prog.info? 5).map (fun i=>(i.zero,i.size,i.bytes))=some (some (.int .u8 0),1,1):=by kernel_rfl
def wrS (p:Nat) (A:Option Addr):Nat→Prop:=fun k=>k=p∨∃a,A=some a∧a.block=k
def Wr (w:World) (p:Nat) (A:Option Addr) (l:List UInt8):Prop:=
 ∃cap,Bk w p 200 #[.slice A l.length cap]∧w.ownsRow 0 5 1 (.slice A l.length cap) l.length (u8s l)∧∀a,A=some a→a.block≠p
def Wto (w:World) (p:Nat) (A:Option Addr) (w':World) (l:List UInt8):Prop:=
 ∃A',Wr w' p A' l∧Fr (wrS p A) w w'∧∀a',A'=some a'→(w.heap.size≤a'.block∨∃a,A=some a∧a.block=a'.block)
theorem Wr.wto {w:World} {p:Nat} {A:Option Addr} {l:List UInt8} (h:Wr w p A l):Wto w p A w l:=⟨A,h,Fr.refl _ _,fun a' e=> .inr ⟨a',e,rfl⟩⟩
theorem Wto.comp {w w1 w2:World} {p:Nat} {A A1:Option Addr} {l:List UInt8} (hp:p<w.heap.size) (hf:Fr (wrS p A) w w1)
 (ha:∀a',A1=some a'→(w.heap.size≤a'.block∨∃a,A=some a∧a.block=a'.block)) (h:Wto w1 p A1 w2 l):Wto w p A w2 l:=by
 obtain⟨A2,hW,hf2,ha2⟩:=h
 refine⟨A2,hW,hf.trans' hf2 ?_,?_⟩
 ·rintro b hb (rfl|⟨a,e,rfl⟩)
  ·exact .inl rfl
  ·rcases ha a e with h1|⟨a0,e0,h0⟩
   ·omega
   ·exact .inr ⟨a0,e0,h0⟩
 ·intro a' e
  rcases ha2 a' e with h1|⟨a1,e1,h1⟩
  ·exact .inl (Nat.le_trans hf.size h1)
  ·rcases ha a1 e1 with h2|h2
   ·exact .inl (by omega)
   ·rw[h1]at h2;exact .inr h2
theorem Wr.lt {w:World} {p:Nat} {A:Option Addr} {l:List UInt8} (h:Wr w p A l):p<w.heap.size:=by
 obtain⟨_,h,_⟩:=h;exact h.lt
theorem Wr.step {w w1:World} {p cap cap':Nat} {A A':Option Addr} {l news:List UInt8} (hb:Bk w p 200 #[.slice A l.length cap])
 (hn:∀a,A=some a→a.block≠p) (m:Nat) (hm:m=news.length) (h:Apd w w1 0 5 1 A A' cap' (l.length+m) (u8s l++u8s news)):
 Wto w p A (w1.setCell ⟨p,0,none⟩ (.slice A' (l.length+m) cap')) (l++news):=by
 subst hm
 have hne:∀a,A'=some a→a.block≠p:=by
  intro a e
  rcases h.at_ a e with h1|⟨a0,e0,h1⟩
  ·have:=hb.lt;omega
  ·rw[←h1];exact hn _ e0
 have hb1:Bk w1 p 200 #[.slice A l.length cap]:=hb.keep h.fr (by rintro⟨a,e,rfl⟩;exact hn a e rfl)
 refine⟨A',⟨cap',?_,?_,hne⟩,?_,?_⟩
 ·simpa using hb1.set 0 (.slice A' (l.length+news.length) cap')
 ·have ho:=h.own
  rw[←Al]at ho
  rw[List.length_append]
  refine ho.kept (row:=some p) ⟨rfl,rfl,rfl,by simp[World.setCell],fun k _ hk=>Below.heap_setCell _ _ _ k (by rintro rfl;exact hk rfl)⟩ ?_
  cases A' with
  |none=>exact .inl rfl
  |some a=>right;simp[Value.ownBlock];exact hne a rfl
 ·exact(h.fr.mono fun b _ hx=> .inr hx).setCell (fun _=> .inl rfl) _
 ·exact h.at_
theorem Apd.cellp {w w1:World} {p cap' n:Nat} {A A':Option Addr} {v:Value} {xs:List Value} {t e:TypeId} (h:Apd w w1 0 e 1 A A' cap' n xs) (hb:Bk w p t #[v]) (hn:∀a,A=some a→a.block≠p):
 w1.cell? ⟨p,0,none⟩=some v∧w1.frozen? ⟨p,0,none⟩=false:=by
 have hb1:Bk w1 p t #[v]:=hb.keep h.fr (by rintro⟨a,e,rfl⟩;exact hn a e rfl)
 exact⟨by simpa using hb1.cell 0,hb1.free 0⟩
def vC (p:Nat) (A:Option Addr) (w:World) (l:List UInt8) (e:Ending) (w':World):Prop:=e= .returned (.pointer (some ⟨p,0,none⟩))∧Wto w p A w' l
theorem wU8 (p:Nat) (A0:Option Addr) (l:List UInt8) (w:World) (A:Option Addr) (n c:Nat) (xs:List UInt8) (S:Nat→Prop) (hW:Wr w p A0 l) (hr:SlR w S 1 A n (u8s xs)) (hl:l.length+n≤100000000000):
 Calls Tryz.prog 134 #[.pointer (some ⟨p,0,none⟩),.slice A n c] w (vC p A0 w (l++xs)):=by
 obtain⟨i0,hi0,hz0,hz1,hz2⟩:=info_parts kD
 obtain⟨cap,hb,hown,hne⟩:=hW
 have hc0:w.cell? ⟨p,0,none⟩=some (.slice A0 l.length cap):=by simpa using hb.cell 0
 have hf0:=hb.free 0
 obtain rfl:n=xs.length:=by have:=hr.1;rw[fP]at this;omega
 go_enter Tryz.func134,Tryz.ntmps134
 go_wp2_with (at_builtin
              go_must (refine eU rfl (.tmp 9) (.tmp 10) _ rfl 0 5 i0 _ 1 1 Tryz.underlying55 hi0 hz0 hz1 hz2 rfl (by omega) A0 _ _ _ rfl hown S A _ c (u8s xs) rfl hr (qY _) (by unfold maxLen;omega) (by omega) (Nat.zero_le _) ?_)
              intro A1 cap1 w1 hap
              go_must (obtain⟨hc1,hf1⟩:=hap.cellp hb hne))
 go_ret
 exact⟨rfl,Wr.step hb hne _ rfl hap⟩
theorem DF (x:Int) (h0:0≤x) (j:Nat):Value.int .u8 (IntKind.u8.wrap (x/2^(8*(j:Int)).toNat))= .int .u8 ((UInt8.ofNat (x.toNat/256^j)).toNat:Int):=by
 obtain⟨n,rfl⟩:=Int.eq_ofNat_of_zero_le h0
 rw[IntKind.wrap_u8']
 congr 1
 have e:(8*(j:Int)).toNat=8*j:=by omega
 rw[e,Int.toNat_natCast,UInt8.toNat_ofNat',show(2:Int)^(8*j)=((2^(8*j):Nat):Int) by simp,show(256:Nat)^j=2^(8*j) by rw[show(256:Nat)=2^8 from rfl,←Nat.pow_mul]]
 omega
def eI (n j x:Nat):List UInt8:=big (n-j) (x/256^j)
theorem uB (n j x:Nat) (h:j<n):eI n j x=eI n (j+1) x++[UInt8.ofNat (x/256^j)]:=by
 unfold eI
 rw[show n-j=(n-(j+1))+1 by omega,big,Nat.div_div_eq_div_mul,←Nat.pow_succ]
theorem Jy (n:Nat) (x:Int) (p:Nat) (A0:Option Addr) (l:List UInt8) (w:World) (hW:Wr w p A0 l) (hx0:0≤x) (hx1:x≤4294967295) (hn:n≤4) (hl:l.length≤1000000000):
 Calls Tryz.prog 188 #[.pointer (some ⟨p,0,none⟩),.int .i64 n,.int .u32 x] w (vC p A0 w (l++big n x.toNat)):=by
 obtain⟨i0,hi0,hz0,hz1,hz2⟩:=info_parts kD
 have hp:=hW.lt
 go_enter Tryz.func188,Tryz.ntmps188
 go_wp2_with fail
 go_loopw [7] (fun k wr=>∃j:Nat,j≤n∧k= .int .i64 ((j:Int)-1)∧Wto w p A0 wr (l++eI n j x.toNat)) (fun k _=>(intOf k+1).toNat)
 case atStart=>exact⟨n,Nat.le_refl _,rfl,by simpa[eI,big]using hW.wto⟩
 case round=>
  obtain⟨j,hj,rfl,A1,hW1,hf1,ha1⟩:=hrel
  rcases j with _|j
  ·go_wp2_with fail
   go_ret
   refine⟨rfl,?_⟩
   have e:eI n 0 x.toNat=big n x.toNat:=by simp[eI]
   rw[e]at hW1
   exact⟨A1,hW1,hf1,ha1⟩
  ·have hlen:(l++eI n (j+1) x.toNat).length≤1000000004:=by simp[eI,aH];omega
   have hlst:eI n j x.toNat=eI n (j+1) x.toNat++[UInt8.ofNat (x.toNat/256^j)]:=uB n j _ (by omega)
   rw[show(l++eI n (j+1) x.toNat)=l++eI n (j+1) x.toNat from rfl]at hW1
   generalize hq:l++eI n (j+1) x.toNat=q at*
   have Hlst:Hid (l++eI n j x.toNat=q++[UInt8.ofNat (x.toNat/256^j)]):=by
    unfold Hid
    rw[hlst,←List.append_assoc,hq]
   clear hlst hq
   obtain⟨cap,hb,hown,hne⟩:=hW1
   have hc0:wr.cell? ⟨p,0,none⟩=some (.slice A1 q.length cap):=by simpa using hb.cell 0
   have hf0:=hb.free 0
   have e1:((j+1:Nat):Int)-1=(j:Int):=by omega
   rw[e1]
   clear e1
   have a1:(0:Int)≤(j:Int):=by omega
   have a2:(j:Int)≤4:=by omega
   have a3:(0:Int)≤8*(j:Int):=by omega
   have a4:8*(j:Int)≤32:=by omega
   have a5:IntKind.i64.wrap (8*(j:Int))=8*(j:Int):=IntWalk.i64_in _ (by omega)
   have hbb:=DF x hx0 j
   generalize UInt8.ofNat (x.toNat/256^j)=b at*
   have hsr:SlR (wr.alloc (.cells #[.int .u8 (b.toNat:Int)] 5)).drew noB 1 (some ⟨wr.heap.size,0,none⟩) 1 (u8s [b]):=
    SlR.of_bk (n:=1) (size:=1) (S:=noB) (Bk.new wr 5 #[.int .u8 (b.toNat:Int)]) (fun x=>x) rfl
   have hown2:(wr.alloc (.cells #[.int .u8 (b.toNat:Int)] 5)).drew.ownsRow 0 5 1 (.slice A1 q.length cap) q.length (u8s q):=hown.alloc _
   have hb2:Bk (wr.alloc (.cells #[.int .u8 (b.toNat:Int)] 5)).drew p 200 #[.slice A1 q.length cap]:=(hb.alloc _).drew
   have HB:=Lib.hid hb2
   have hca:(wr.alloc (.cells #[.int .u8 (b.toNat:Int)] 5)).cell? ⟨p,0,none⟩=some (.slice A1 q.length cap):=by simpa using (hb.alloc (.cells #[.int .u8 (b.toNat:Int)] 5)).cell 0
   have hbound:q.length+1≤maxLen:=by unfold maxLen;omega
   have HL:=Lib.hid hbound
   clear hbound hb2
   go_wp2_with fail
   go_region_law ((refine zP (by rfl) (.tmp 18) (.tmp 24) _ (by rfl) 0 5 i0 _ 1 1 Tryz.underlying55 hi0 hz0 hz1 hz2 rfl Nat.one_pos A1 _ _ _ (by rfl) hown2 noB _ 1 1 _ (by rfl) hsr (qY _) HL.out (by omega) (Nat.zero_le _) ?_
                   intro A2 cap1 w1 hap
                   obtain⟨hc1,hf1'⟩:=hap.cellp HB.out hne))
   all_goals
    go_wp2_with fail
    go_roundw
    case rel=>
     refine⟨j,by omega,rfl,?_⟩
     rw[Hlst.out]
     have h1:=Wr.step HB.out hne 1 rfl hap
     have h2:Wto wr p A1 _ (q++[b]):=Wto.comp (A1:=A1) hb.lt (((Fr.refl _ _).alloc _).drew) (fun a' e=> .inr ⟨a',e,rfl⟩) h1
     exact Wto.comp hp hf1 ha1 h2
    case measure=>simp[intOf]
def Df (k:IntKind) (l:List Int):List Value:=l.map (.int k)
theorem oN (k:IntKind) (l:List Int):(Df k l).length=l.length:=by simp[Df]
theorem Ac (k:IntKind) (l:List Int) (i:Nat) (h:i<l.length):(Df k l)[i]? =some (.int k l[i]):=by simp[Df,h]
def bG (n:Nat) (l:List Int):List UInt8:=l.flatMap fun x=>big n x.toNat
theorem vF (n:Nat) (l:List Int) (k:Nat) (h:k<l.length):bG n (l.take (k+1))=bG n (l.take k)++big n l[k].toNat:=by
 unfold bG;rw[List.take_succ_eq_append_getElem h,List.flatMap_append];simp
theorem aN (n:Nat) (l:List Int):(bG n l).length=l.length*n:=by
 induction l with
 |nil=>simp[bG]
 |cons a r ih=>simp only[bG,List.flatMap_cons,List.length_append,aH,List.length_cons]at ih⊢;rw[ih,Nat.add_mul];omega
theorem Kg (p:Nat) (A0:Option Addr) (l:List UInt8) (w:World) (A:Option Addr) (n c:Nat) (xs:List Int) (hW:Wr w p A0 l) (hr:SlR w (wrS p A0) 1 A n (Df .u16 xs)) (hx:∀x∈xs,0≤x∧x≤65535) (hn:n≤1000) (hl:l.length≤100000000):
 Calls Tryz.prog 133 #[.pointer (some ⟨p,0,none⟩),.slice A n c] w (vC p A0 w (l++bG 2 xs)):=by
 have hp:=hW.lt
 have hlen:xs.length=n:=by have:=hr.1;rw[oN]at this;omega
 go_enter Tryz.func133,Tryz.ntmps133
 go_wp2_with fail
 go_loopw [9] (fun i wr=>∃k:Nat,k≤n∧i= .int .i64 k∧Wto w p A0 wr (l++bG 2 (xs.take k))) (fun i _=>n-(intOf i).toNat)
 case atStart=>exact⟨0,Nat.zero_le _,rfl,by simpa[bG]using hW.wto⟩
 case round=>
  obtain⟨k,hk,rfl,A1,hW1,hf1,ha1⟩:=hrel
  by_cases hlt:k<n
  ·obtain⟨ad,u,rfl,hu,hc⟩:=(hr.keep hf1).at_ hlt
   rw[Ac _ xs k (by omega)]at hu
   injection hu with hu
   subst hu
   have hx1:=hx xs[k] (List.getElem_mem _)
   have hl1:(l++bG 2 (xs.take k)).length≤1000000000:=by rw[List.length_append,aN,List.length_take];omega
   have Hsn:=Lib.hid (vF 2 xs k (by omega))
   generalize xs[k]=x at*
   obtain⟨x0,x1⟩:=hx1
   have hxw:x%4294967296=x:=by omega
   go_wp2_with fail
   refine(Jy 2 x p A1 _ _ hW1 x0 (by omega) (by omega) hl1).mono ?_
   rintro e w1 ⟨rfl,h1⟩
   go_wp2_with fail
   go_roundw
   case rel=>exact⟨k+1,by omega,by go_num,by rw[Hsn.out,←List.append_assoc];exact Wto.comp hp hf1 ha1 h1⟩
   case measure=>simp[intOf];omega
  ·go_wp2_with fail
   go_ret
   obtain rfl:k=n:=by omega
   rw[List.take_of_length_le (by omega)]at hW1
   exact⟨rfl,A1,hW1,hf1,ha1⟩
theorem wIP (p:Nat) (A0:Option Addr) (l:List UInt8) (w:World) (A:Option Addr) (n c:Nat) (xs:List Int) (hW:Wr w p A0 l) (hr:SlR w (wrS p A0) 1 A n (Df .u32 xs)) (hx:∀x∈xs,0≤x∧x≤4294967295) (hn:n≤1000) (hl:l.length≤100000000):
 Calls Tryz.prog 136 #[.pointer (some ⟨p,0,none⟩),.slice A n c] w (vC p A0 w (l++bG 4 xs)):=by
 have hp:=hW.lt
 have hlen:xs.length=n:=by have:=hr.1;rw[oN]at this;omega
 go_enter Tryz.func136,Tryz.ntmps136
 go_wp2_with fail
 go_loopw [9] (fun i wr=>∃k:Nat,k≤n∧i= .int .i64 k∧Wto w p A0 wr (l++bG 4 (xs.take k))) (fun i _=>n-(intOf i).toNat)
 case atStart=>exact⟨0,Nat.zero_le _,rfl,by simpa[bG]using hW.wto⟩
 case round=>
  obtain⟨k,hk,rfl,A1,hW1,hf1,ha1⟩:=hrel
  by_cases hlt:k<n
  ·obtain⟨ad,u,rfl,hu,hc⟩:=(hr.keep hf1).at_ hlt
   rw[Ac _ xs k (by omega)]at hu
   injection hu with hu
   subst hu
   have hx1:=hx xs[k] (List.getElem_mem _)
   have hl1:(l++bG 4 (xs.take k)).length≤1000000000:=by rw[List.length_append,aN,List.length_take];omega
   have Hsn:=Lib.hid (vF 4 xs k (by omega))
   generalize xs[k]=x at*
   obtain⟨x0,x1⟩:=hx1
   go_wp2_with fail
   refine(Jy 4 x p A1 _ _ hW1 x0 (by omega) (by omega) hl1).mono ?_
   rintro e w1 ⟨rfl,h1⟩
   go_wp2_with fail
   go_roundw
   case rel=>exact⟨k+1,by omega,by go_num,by rw[Hsn.out,←List.append_assoc];exact Wto.comp hp hf1 ha1 h1⟩
   case measure=>simp[intOf];omega
  ·go_wp2_with fail
   go_ret
   obtain rfl:k=n:=by omega
   rw[List.take_of_length_le (by omega)]at hW1
   exact⟨rfl,A1,hW1,hf1,ha1⟩
theorem Wr.keep {S:Nat→Prop} {w w':World} {p:Nat} {A:Option Addr} {l:List UInt8} (h:Wr w p A l) (hf:Fr S w w') (hS:∀b,b<w.heap.size→wrS p A b→¬S b):Wr w' p A l:=by
 obtain⟨cap,hb,hown,hne⟩:=h
 have hlt:=hown.lt
 refine⟨cap,hb.keep hf (hS _ hb.lt (.inl rfl)),⟨hown.1,?_⟩,hne⟩
 rcases hown.2 with h0|⟨g,cap',cur,hv,h0,hh,hrest⟩
 ·exact .inl h0
 ·have hA:A=some ⟨g,0,none⟩:=by injection hv
  have hg:g<w.heap.size:=(hlt g (by rw[hv];rfl)).2
  exact .inr ⟨g,cap',cur,hv,h0,(hf.block g hg (hS g hg (.inr ⟨_,hA,rfl⟩))).trans hh,hrest⟩
theorem Jq (p:Nat) (A0:Option Addr) (l:List UInt8) (w:World) (n:Nat) (hW:Wr w p A0 l) (hn:n≤1000) (hl:l.length≤100000000):
 Calls Tryz.prog 190 #[.pointer (some ⟨p,0,none⟩),.int .i64 n] w (vC p A0 w (l++List.replicate (n-l.length) 0)):=by
 obtain⟨i0,hi0,hz0,hz1,hz2⟩:=info_parts kD
 have hp:=hW.lt
 go_enter Tryz.func190,Tryz.ntmps190
 go_wp2_with fail
 go_loopg [] (n-l.length) (fun k wr=>k≤n-l.length∧Wto w p A0 wr (l++List.replicate (n-l.length-k) 0))
 case atStart=>exact⟨Nat.le_refl _,by simpa using hW.wto⟩
 case round=>
  obtain⟨hk,A1,hW1,hf1,ha1⟩:=hrel
  have hlen:(l++List.replicate (n-l.length-gk) (0:UInt8)).length=l.length+(n-l.length-gk):=by simp
  have hst:gk≠0→l++List.replicate (n-l.length-(gk-1)) (0:UInt8)=(l++List.replicate (n-l.length-gk) 0)++[0]:=by
   intro h0
   rw[show n-l.length-(gk-1)=(n-l.length-gk)+1 by omega,List.replicate_succ',List.append_assoc]
  generalize hq:l++List.replicate (n-l.length-gk) (0:UInt8)=q at*
  have Hq:=Lib.hid hq
  have Hst:=Lib.hid hst
  have hlen1:q.length≤100001000:=by omega
  have Hlen:=Lib.hid hlen
  clear hq hst hlen
  obtain⟨cap,hb,hown,hne⟩:=hW1
  have hc0:wr.cell? ⟨p,0,none⟩=some (.slice A1 q.length cap):=by simpa using hb.cell 0
  have hf0:=hb.free 0
  have hsr:SlR (wr.alloc (.cells #[.int .u8 0] 5)) noB 1 (some ⟨wr.heap.size,0,none⟩) 1 (u8s [0]):=
   SlR.of_bk (n:=1) (size:=1) (S:=noB) (Bk.new wr 5 #[.int .u8 0]) (fun x=>x) rfl
  by_cases h0:q.length<n
  ·go_wp2_with (at_builtin
                go_must (refine eU rfl (.tmp 16) (.tmp 17) _ rfl 0 5 i0 _ 1 1 Tryz.underlying55 hi0 hz0 hz1 hz2 rfl (by omega) A1 _ _ _ rfl (hown.alloc _) noB _ 1 1 _ rfl hsr (qY _) (by unfold maxLen;omega) (by omega) (Nat.zero_le _) ?_)
                intro A2 cap1 w1 hap
                go_must (obtain⟨hc1,hf1'⟩:=hap.cellp (hb.alloc _) hne))
   have hg:gk≠0:=by have:=Hlen.out;omega
   go_roundg (gk-1)
   case measure=>omega
   case rel=>
    refine⟨by omega,?_⟩
    rw[Hst.out hg]
    have h1:=Wr.step (hb.alloc _) hne 1 rfl hap
    have h2:Wto wr p A1 _ (q++[0]):=Wto.comp (A1:=A1) hb.lt ((Fr.refl _ _).alloc _) (fun a' e=> .inr ⟨a',e,rfl⟩) h1
    exact Wto.comp hp hf1 ha1 h2
  ·go_wp2_with fail
   go_ret
   have hg:l++List.replicate (n-l.length) (0:UInt8)=q:=by
    have h1:=Hlen.out
    have h2:n-l.length=n-l.length-gk:=by omega
    rw[h2];exact Hq.out
   rw[hg]
   exact⟨rfl,A1,⟨cap,hb,hown,hne⟩,hf1,ha1⟩
def FJ (l:List (List UInt8)):List Value:=l.map fun p=> .string (bs p)
theorem yB (l:List (List UInt8)):(FJ l).length=l.length:=by simp[FJ]
theorem Dy (l:List (List UInt8)) (k:Nat) (hk:k<l.length):(FJ l)[k]? =some (.string (bs l[k])):=by simp[FJ,hk]
theorem uT (l:List (List UInt8)) (k:Nat) (h:k<l.length):(l.take (k+1)).flatten=(l.take k).flatten++l[k]:=by
 rw[List.take_succ_eq_append_getElem h,List.flatten_append];simp
theorem FE (l:List (List UInt8)) (k:Nat):(l.take k).flatten.length≤l.flatten.length:=by
 conv=>rhs;rw[←List.take_append_drop k l,List.flatten_append,List.length_append]
 omega
theorem wV (l:List (List UInt8)) (k:Nat) (h:k<l.length):(l.take k).flatten.length+l[k].length≤l.flatten.length:=by
 have:=FE l (k+1);rw[uT l k h,List.length_append]at this;exact this
theorem Ju (p:Nat) (A0:Option Addr) (l:List UInt8) (w:World) (A:Option Addr) (n c:Nat) (xs:List (List UInt8)) (hW:Wr w p A0 l) (hr:SlR w (wrS p A0) 1 A n (FJ xs)) (hn:n≤1000) (hl:l.length+xs.flatten.length≤100000000):
 Calls Tryz.prog 189 #[.pointer (some ⟨p,0,none⟩),.slice A n c] w (vC p A0 w (l++xs.flatten)):=by
 obtain⟨i0,hi0,hz0,hz1,hz2⟩:=info_parts kD
 have hp:=hW.lt
 have hlen:xs.length=n:=by have:=hr.1;rw[yB]at this;omega
 go_enter Tryz.func189,Tryz.ntmps189
 go_wp2_with fail
 go_loopw [9] (fun i wr=>∃k:Nat,k≤n∧i= .int .i64 k∧Wto w p A0 wr (l++(xs.take k).flatten)) (fun i _=>n-(intOf i).toNat)
 case atStart=>exact⟨0,Nat.zero_le _,rfl,by simpa using hW.wto⟩
 case round=>
  obtain⟨k,hk,rfl,A1,hW1,hf1,ha1⟩:=hrel
  by_cases hlt:k<n
  ·obtain⟨ad,u,rfl,hu,hc⟩:=(hr.keep hf1).at_ hlt
   rw[Dy xs k (by omega)]at hu
   injection hu with hu
   subst hu
   have hl1:=wV xs k (by omega)
   have Hsn:=Lib.hid (uT xs k (by omega))
   have Hl:=Lib.hid hl
   generalize xs[k]=s at*
   have hq1:(l++(xs.take k).flatten).length+s.length≤100000000:=by rw[List.length_append];omega
   have Hsn2:Hid (l++(xs.take (k+1)).flatten=(l++(xs.take k).flatten)++s):=by unfold Hid;rw[Hsn.out,List.append_assoc]
   clear Hsn hl1 hl
   generalize l++(xs.take k).flatten=q at*
   obtain⟨cap,hb,hown,hne⟩:=hW1
   have hc0:wr.cell? ⟨p,0,none⟩=some (.slice A1 q.length cap):=by simpa using hb.cell 0
   have hf0:=hb.free 0
   go_wp2_with (at_builtin
                go_must (refine pE rfl (.tmp 17) (.tmp 18) _ _ rfl 0 5 i0 Tryz.underlying55 Tryz.underlying9 hi0 hz0 hz1 hz2 A1 _ _ _ rfl hown s rfl (by unfold maxLen;omega) (by omega) (Nat.zero_le _) ?_)
                intro A2 cap1 w1 hap
                go_must (obtain⟨hc1,hf1'⟩:=hap.cellp hb hne))
   go_roundw
   case rel=>exact⟨k+1,by omega,by go_num,by rw[Hsn2.out];exact Wto.comp hp hf1 ha1 (Wr.step hb hne _ rfl hap)⟩
   case measure=>simp[intOf];omega
  ·go_wp2_with fail
   go_ret
   obtain rfl:k=n:=by omega
   rw[List.take_of_length_le (by omega)]at hW1
   exact⟨rfl,A1,hW1,hf1,ha1⟩
theorem kH (p:Nat) (A0:Option Addr) (l:List UInt8) (w:World) (hW:Wr w p A0 l):
 Calls Tryz.prog 137 #[.pointer (some ⟨p,0,none⟩)] w fun e w'=>e= .returned (.string (bs l))∧w=w':=by
 obtain⟨cap,hb,hown,hne⟩:=hW
 have hc0:w.cell? ⟨p,0,none⟩=some (.slice A0 l.length cap):=by simpa using hb.cell 0
 have hsr:SlR w noB 1 A0 l.length (u8s l):=by
  refine⟨by simp[fP],fun h0=> ?_⟩
  rcases hown.2 with⟨_,h⟩|⟨g,cap',cur,hv,_⟩
  ·omega
  ·have hA:A0=some ⟨g,0,none⟩:=by injection hv
   subst hA
   exact⟨_,rfl,(hown.lt g rfl).2,fun x=>x,hown.cells (g:=g) rfl⟩
 have hA:A0=none∨∃g o,A0=some ⟨g,o,none⟩:=by
  rcases hown.2 with⟨h,_⟩|⟨g,cap',cur,hv,_⟩
  ·left;injection h
  ·right;exact⟨g,0,by injection hv⟩
 have hcv:=gT (P:=Tryz.prog) w 55 9 5 Tryz.underlying55 Tryz.underlying5 Tryz.underlying9 noB A0 l.length cap l hsr hA
 go_enter Tryz.func137,Tryz.ntmps137
 go_wp2_with fail
 go_ret
 exact⟨rfl,rfl⟩
abbrev Mac:=UInt8×UInt8×UInt8×UInt8×UInt8×UInt8
def cG (m:Mac):List UInt8:=[m.1,m.2.1,m.2.2.1,m.2.2.2.1,m.2.2.2.2.1,m.2.2.2.2.2]
def oG (l:List Mac):List Value:=l.flatMap fun m=>u8s (cG m)
theorem iW (l:List Mac):(oG l).length=l.length*6:=by
 induction l with
 |nil=>rfl
 |cons a r ih=>simp only[oG,List.flatMap_cons,List.length_append,List.length_cons]at ih⊢;rw[ih,fP];simp[cG];omega
theorem CD (l:List Mac) (k j:Nat) (hk:k<l.length) (hj:j<6):(oG l)[k*6+j]? =(u8s (cG l[k]))[j]? :=by
 induction l generalizing k with
 |nil=>simp at hk
 |cons a r ih=>
  have h6:(u8s (cG a)).length=6:=by rw[fP];rfl
  simp only[oG,List.flatMap_cons]
  rcases k with _|k
  ·rw[List.getElem?_append_left (by omega)];simp
  ·rw[List.getElem?_append_right (by omega),h6,show(k+1)*6+j-6=k*6+j by omega]
   simpa[oG]using ih k (by simpa using hk)
theorem Ko (p:Nat) (A0:Option Addr) (l:List UInt8) (w:World) (g n c:Nat) (xs:List Mac) (hW:Wr w p A0 l) (hr:SlR w (wrS p A0) 6 (some ⟨g,0,none⟩) n (oG xs)) (hn:n≤1000) (hl:l.length≤100000000):
 Calls Tryz.prog 135 #[.pointer (some ⟨p,0,none⟩),.slice (some ⟨g,0,none⟩) n c] w (vC p A0 w (l++xs.flatMap cG)):=by
 obtain⟨i0,hi0,hz0,hz1,hz2⟩:=info_parts kD
 have hp:=hW.lt
 have hlen:xs.length=n:=by have:=hr.1;rw[iW]at this;omega
 go_enter Tryz.func135,Tryz.ntmps135
 go_wp2_with fail
 go_loopw [9] (fun i wr=>∃k:Nat,k≤n∧i= .int .i64 k∧Wto w p A0 wr (l++(xs.take k).flatMap cG)) (fun i _=>n-(intOf i).toNat)
 case atStart=>exact⟨0,Nat.zero_le _,rfl,by simpa using hW.wto⟩
 case round=>
  obtain⟨k,hk,rfl,A1,hW1,hf1,ha1⟩:=hrel
  by_cases hlt:k<n
  ·obtain⟨ad,ead,_,hS,hcell⟩:=(hr.keep hf1).2 (by omega)
   injection ead with ead
   subst ead
   have hc:∀j,j<6→wr.cell? ⟨g,k*6+j,none⟩=(u8s (cG xs[k]))[j]? :=by
    intro j hj
    have h:=CD xs k j (by omega) hj
    rw[←h]
    have h2:(oG xs)[k*6+j]? =some ((oG xs)[k*6+j]'(by rw[iW];omega)):=List.getElem?_eq_getElem _
    rw[h2]
    have:=hcell _ _ h2
    rwa [jR,Nat.zero_add]at this
   have Hsn:Hid (l++(xs.take (k+1)).flatMap cG=(l++(xs.take k).flatMap cG)++cG xs[k]):=by
    unfold Hid;rw[List.take_succ_eq_append_getElem (by omega),List.flatMap_append];simp
   have Hq:Hid ((l++(xs.take k).flatMap cG).length≤100006000):=by
    unfold Hid
    have h1:((xs.take k).flatMap cG).length=(xs.take k).length*6:=by
     have h2:=iW (xs.take k)
     rw[←h2,oG]
     simp[List.length_flatMap,fP]
    rw[List.length_append,h1,List.length_take];omega
   have h0:=hc 0 (by omega)
   have h1:=hc 1 (by omega)
   have h2:=hc 2 (by omega)
   have h3:=hc 3 (by omega)
   have h4:=hc 4 (by omega)
   have h5:=hc 5 (by omega)
   generalize xs[k]=m at*
   obtain⟨m0,m1,m2,m3,m4,m5⟩:=m
   simp[u8s,cG,u8v]at h0 h1 h2 h3 h4 h5
   clear hc hcell
   generalize l++(xs.take k).flatMap cG=q at*
   have hql:=Hq.out
   obtain⟨cap,hb,hown,hne⟩:=hW1
   have hc0:wr.cell? ⟨p,0,none⟩=some (.slice A1 q.length cap):=by simpa using hb.cell 0
   have hf0:=hb.free 0
   go_wp2_with fail
   have hbn:=Bk.new wr 26 #[.int .u8 (m0.toNat:Int),.int .u8 (m1.toNat:Int),.int .u8 (m2.toNat:Int),.int .u8 (m3.toNat:Int),.int .u8 (m4.toNat:Int),.int .u8 (m5.toNat:Int)]
   have hb2:=hb.alloc (.cells #[.int .u8 (m0.toNat:Int),.int .u8 (m1.toNat:Int),.int .u8 (m2.toNat:Int),.int .u8 (m3.toNat:Int),.int .u8 (m4.toNat:Int),.int .u8 (m5.toNat:Int)] 26)
   have hfa:Fr (wrS p A1) wr (wr.alloc (.cells #[.int .u8 (m0.toNat:Int),.int .u8 (m1.toNat:Int),.int .u8 (m2.toNat:Int),.int .u8 (m3.toNat:Int),.int .u8 (m4.toNat:Int),.int .u8 (m5.toNat:Int)] 26)):=(Fr.refl _ _).alloc _
   have hown2:=hown.alloc (.cells #[.int .u8 (m0.toNat:Int),.int .u8 (m1.toNat:Int),.int .u8 (m2.toNat:Int),.int .u8 (m3.toNat:Int),.int .u8 (m4.toNat:Int),.int .u8 (m5.toNat:Int)] 26)
   generalize wr.alloc (.cells #[.int .u8 (m0.toNat:Int),.int .u8 (m1.toNat:Int),.int .u8 (m2.toNat:Int),.int .u8 (m3.toNat:Int),.int .u8 (m4.toNat:Int),.int .u8 (m5.toNat:Int)] 26)=wa at*
   have hsr:SlR wa.drew noB 1 (some ⟨wr.heap.size,0,none⟩) 6 (u8s (cG (m0,m1,m2,m3,m4,m5))):=
    SlR.of_bk (n:=6) (size:=1) (S:=noB) hbn.drew (fun x=>x) rfl
   have hca:wa.cell? ⟨p,0,none⟩=some (.slice A1 q.length cap):=by simpa using hb2.cell 0
   have hown3:wa.drew.ownsRow 0 5 1 (.slice A1 q.length cap) q.length (u8s q):=hown2
   have HB:=Lib.hid hb2.drew
   have hbound:q.length+6≤maxLen:=by unfold maxLen;omega
   have HL:=Lib.hid hbound
   clear hbound
   go_region_law ((refine zP (by rfl) (.tmp 17) (.tmp 18) _ (by rfl) 0 5 i0 _ 1 1 Tryz.underlying55 hi0 hz0 hz1 hz2 rfl Nat.one_pos A1 _ _ _ (by rfl) hown3 noB _ 6 6 _ (by rfl) hsr (qY _) HL.out (by omega) (Nat.zero_le _) ?_
                   intro A2 cap1 w1 hap
                   obtain⟨hc1,hf1'⟩:=hap.cellp HB.out hne))
   go_wp2_with fail
   go_roundw
   case rel=>
    have h1:=Wr.step hb2.drew hne 6 rfl hap
    exact⟨k+1,by omega,by go_num,by rw[Hsn.out];exact Wto.comp hp hf1 ha1 (Wto.comp (A1:=A1) hb.lt hfa.drew (fun a' e=> .inr ⟨a',e,rfl⟩) h1)⟩
   case measure=>simp[intOf];omega
  ·go_wp2_with fail
   go_ret
   obtain rfl:k=n:=by omega
   rw[List.take_of_length_le (by omega)]at hW1
   exact⟨rfl,A1,hW1,hf1,ha1⟩
end Go.Proofs.YtcllkmllflheiaaGreatDoor
namespace Go.Proofs.YtcllkmllflheiaaGreatDoor
open Go.RowKit Go.Proofs
def AlS (L:Bool) (v:Value) (n:Nat) (t:TypeId) (cells:Array Value) (B:Nat) (A:Option Addr) (w:World):Prop:=
 L=true→∃g,v= .slice (some ⟨g,0,none⟩) n n∧Bk w g t cells∧B≤g∧∀a,A=some a→a.block≠g
structure Chn (w1:World) (p B:Nat) (A:Option Addr) (l:List UInt8) (w:World):Prop where
 wr:Wr w p A l
 row:∀a,A=some a→B≤a.block
 fr:Fr (aJ p) w1 w
 eB:B=w1.heap.size
 lt:p<B
section
variable {w1 w w':World} {p B n:Nat} {A:Option Addr} {l l':List UInt8} {L:Bool} {v:Value} {t:TypeId} {cs:Array Value}
theorem Wr.row_lt (h:Wr w p A l):∀a,A=some a→a.block<w.heap.size:=by
 obtain⟨cap,hb,hown,hne⟩:=h
 rintro a rfl
 exact(hown.lt a.block rfl).2
theorem Wr.alloc (h:Wr w p A l) (o:Obj):Wr (w.alloc o) p A l:=h.keep (S:=noB) ((Fr.refl _ _).alloc o) (fun _ _ _ x=>x)
theorem Wr.drew (h:Wr w p A l):Wr w.drew p A l:=h.keep (S:=noB) ((Fr.refl _ _).drew) (fun _ _ _ x=>x)
theorem Chn.start0 (h:Wr w1 p A l) (hA:A=none):Chn w1 p w1.heap.size A l w1:=
 ⟨h,(fun a e=>by rw[hA]at e;cases e),(Fr.refl _ _),rfl,h.lt⟩
theorem Chn.alloc (h:Chn w1 p B A l w) (o:Obj):Chn w1 p B A l (w.alloc o):=⟨h.wr.alloc o,h.row,h.fr.alloc o,h.eB,h.lt⟩
theorem Chn.call (h:Chn w1 p B A l w) (hw:Wto w p A w' l'):
 ∃A',Chn w1 p B A' l' w'∧∀(L:Bool) (v:Value) (n:Nat) (t:TypeId) (cs:Array Value),AlS L v n t cs B A w→AlS L v n t cs B A' w':=by
 obtain⟨A',W',fr',at'⟩:=hw
 have hB:=h.eB
 have hp:=h.lt
 have hsz:=h.fr.size
 refine⟨A',⟨W',?_,h.fr.trans' fr' ?_,hB,hp⟩,?_⟩
 ·intro a' e
  rcases at' a' e with h1|⟨a,ea,h1⟩
  ·omega
  ·rw[←h1];exact h.row a ea
 ·rintro b hb (rfl|⟨a,ea,rfl⟩)
  ·rfl
  ·have:=h.row a ea;omega
 ·intro L v n t cs hal hL
  obtain⟨g,hv,hb,hg,hne⟩:=hal hL
  have hgl:=hb.lt
  refine⟨g,hv,hb.keep fr' ?_,hg,?_⟩
  ·rintro(e|⟨a,ea,e⟩)
   ·omega
   ·exact hne a ea e
  ·intro a' e
   rcases at' a' e with h1|⟨a,ea,h1⟩
   ·omega
   ·rw[←h1];exact hne a ea
theorem AlS.alloc (h:AlS L v n t cs B A w) (o:Obj):AlS L v n t cs B A (w.alloc o):=fun hL=>by
 obtain⟨g,hv,hb,hg,hne⟩:=h hL
 exact⟨g,hv,hb.alloc o,hg,hne⟩
theorem AlS.new (h:Chn w1 p B A l w) (n:Nat) (t:TypeId) (cs:Array Value):AlS L (.slice (some ⟨w.heap.size,0,none⟩) n n) n t cs B A (w.alloc (.cells cs t)):=fun _=>
 ⟨w.heap.size,rfl,Bk.new w t cs,by have:=h.fr.size;have:=h.eB;omega,fun a e=>by have:=h.wr.row_lt a e;omega⟩
theorem AlS.not {g:Nat} (h:Chn w1 p B A l w) (hg:B≤g) (hne:∀a,A=some a→a.block≠g):¬wrS p A g:=by
 have:=h.lt
 rintro(e|⟨a,ea,e⟩)
 ·omega
 ·exact hne a ea e
end
theorem AlS.false {v:Value} {n:Nat} {t:TypeId} {cs:Array Value} {B:Nat} {A:Option Addr} {w:World}:AlS false v n t cs B A w:=fun h=>by cases h
theorem Wr.zero {w:World} {p:Nat} (h:Bk w p 200 #[.slice none 0 0]):Wr w p none []:=
 ⟨0,h,⟨by simp[u8s],.inl ⟨rfl,rfl⟩⟩,fun a e=>by cases e⟩
def eL (r:List UInt8×Nat) (w:World) (e:Ending) (w':World):Prop:=e= .returned (.tuple #[.string (bs r.1),.int .i64 (r.2:Int)])∧Fr noB w w'
end Go.Proofs.YtcllkmllflheiaaGreatDoor
namespace Go.Proofs.YtcllkmllflheiaaGreatDoor
open Go.RowKit Go.Proofs
def gA (n:Nat):Code→Option Code
 | .block k c=>if k==n then some (.block k c)else gA n c
 | .seq a b=>match gA n a with
   |some c=>some c
   |none=>gA n b
 | .cond _ a b=>match gA n a with
   |some c=>some c
   |none=>gA n b
 | .loop c=>gA n c
 | .scope c=>gA n c
 |_=>none
def sl (a:Act) (k:Nat):Value:=a.tmps.getD k undef
structure Sz (n:Nat) (a:Act):Prop where
 size:a.tmps.size=n
 defers:a.defers=[]
def frN (n:Nat) (u:Nat→Value):Act:=⟨((List.range n).map u).toArray,[]⟩
theorem Sz.eq {n:Nat} {a:Act} (h:Sz n a):a=frN n (sl a):=by
 obtain⟨t,d⟩:=a
 obtain⟨h1,h2⟩:=h
 simp only at h1 h2
 subst h2
 unfold frN
 congr 1
 apply Array.ext
 ·simp[h1]
 ·intro i h3 h4
  simp[sl,Array.getD,h3]
theorem G0 {n:Nat} {u:Nat→Value} {k:Nat} (h:k<n):sl (frN n u) k=u k:=by simp[sl,frN,Array.getD,h]
section
variable {P:Program} {Q:Exit→Act→World→Prop} {a:Act} {w:World}
theorem fK {k:Nat} {x y:Code} {b:Bool} (h:sl a k= .bool b) (h1:b=true→x.wp P Q a w) (h2:b=false→y.wp P Q a w):(Code.cond (.tmp k) x y).wp P Q a w:=
 wp_cond_split (c:= .tmp k) h h1 h2
theorem fQ {c:Code} (n:Nat) (Rel:Act→World→Prop) (mu:Act→World→Nat) (h0:Sz n a) (h1:Rel a w)
 (round:∀a w,Sz n a→Rel a w→c.wp P (Exit.then (fun a' w'=>Sz n a'∧Rel a' w'∧mu a' w'<mu a w) Q) a w):(Code.loop c).wp P Q a w:=by
 refine wp_loop (fun a' w'=>Sz n a'∧Rel a' w') mu ⟨h0,h1⟩ ?_
 rintro a' w' ⟨e,hr⟩
 exact wp_mono (round a' w' e hr) fun ex a2 w2 hq=>by
  cases ex with
  |normal=>exact⟨⟨hq.1,hq.2.1⟩,hq.2.2⟩
  |_=>exact hq
end
def eN (n:Nat):Code→Option Code
 | .region k ops d=>if k==n then some (.region k ops d)else none
 | .block _ c=>eN n c
 | .seq a b=>match eN n a with
   |some c=>some c
   |none=>eN n b
 | .cond _ a b=>match eN n a with
   |some c=>some c
   |none=>eN n b
 | .loop c=>eN n c
 | .scope c=>eN n c
 |_=>none
noncomputable def aB (f:Func) (n:Nat):Code:=(f.body.bind (eN n)).getD .skip
def Kp (l:List Nat) (a a':Act):Prop:=∀k∈l,sl a' k=sl a k
def KpU (l:List Nat) (u:Nat→Value) (a':Act):Prop:=∀k∈l,sl a' k=u k
theorem KpU.nil (u:Nat→Value) (a:Act):KpU [] u a:=fun k h=>by cases h
theorem KpU.cons {k:Nat} {l:List Nat} {u:Nat→Value} {a:Act} (h:sl a k=u k) (hl:KpU l u a):KpU (k::l) u a:=List.forall_mem_cons.2 ⟨h,hl⟩
theorem Kn (u:Nat→Value) (a:Act):KpU [] u a:=KpU.nil u a
theorem Kc {k:Nat} {l:List Nat} {u:Nat→Value} {a:Act} (h:sl a k=u k) (hl:KpU l u a):KpU (k::l) u a:=KpU.cons h hl
theorem Kp.t {l:List Nat} {a a':Act} {k:Nat} {v:Value} (h:Kp l a a') (e:sl a k=v) (hk:k∈l:=by decide):sl a' k=v:=(h k hk).trans e
theorem Kp.refl (l:List Nat) (a:Act):Kp l a a:=fun _ _=>rfl
theorem bU {id:Nat} {Q:Exit→Act→World→Prop} {a:Act} {w:World} (h:Q .normal a w):Exit.inBlock id Q (.exit id) a w:=by simp only[Exit.inBlock,if_true];exact h
theorem bD {id:Nat} {K:Act→World→Prop} {Q:Exit→Act→World→Prop} {a:Act} {w:World} (h:Q (.exit id) a w):Exit.then K Q (.exit id) a w:=h
end Go.Proofs.YtcllkmllflheiaaGreatDoor
namespace Go.Proofs.YtcllkmllflheiaaGreatDoor
open Go.RowKit Go.Proofs
section
variable {w1 w w':World} {p B n:Nat} {A:Option Addr} {l l':List UInt8} {L:Bool} {v:Value} {t:TypeId} {cs:Array Value}
theorem Chn.drew2 (h:Chn w1 p B A l w):Chn w1 p B A l w.drew:=⟨h.wr.drew,h.row,h.fr.drew,h.eB,h.lt⟩
theorem AlS.drew2 (h:AlS L v n t cs B A w):AlS L v n t cs B A w.drew:=fun hL=>by
 obtain⟨g,h1,h2,h3,h4⟩:=h hL
 exact⟨g,h1,h2.drew,h3,h4⟩
theorem yY {w:World} {a:Addr} {v:Value} (h:w.cell? a=some v):a.block<w.heap.size:=by
 rcases Nat.lt_or_ge a.block w.heap.size with h1|h1
 ·exact h1
 ·unfold World.cell? at h;rw[Array.getElem?_eq_none h1]at h;cases h
theorem AlS.beside (h:Chn w1 p B A l w) (t:TypeId) (cs:Array Value):AlS true (.slice (some ⟨w.heap.size,0,none⟩) 0 0) 0 t cs B A (w.alloc (.cells cs t)):=AlS.new h 0 t cs
end
section
variable {P:Program} {ops:Array Oper} {Q:Exit→Act→World→Prop}
end
theorem EV {a:Act} {n k j:Nat} {v:Value} (h:Sz n a) (hk:k<n):sl (a.put (some k) v) j=if j=k then v else sl a j:=by
 obtain⟨t,d⟩:=a
 have hs:=h.size
 simp only at hs
 unfold sl Act.put
 by_cases e:j=k
 ·subst e;simp[hs,hk]
 ·simp only[e,if_false]
  by_cases hj:j<t.size
  ·simp[Array.getD,hj,Array.getElem_setIfInBounds,e]
   intro x;exact absurd x.symm e
  ·simp[Array.getD,hj]
theorem Sz.put {a:Act} {n k:Nat} {v:Value} (h:Sz n a):Sz n (a.put (some k) v):=⟨by simpa[Act.put]using h.size,h.defers⟩
theorem wE {n:Nat} {u:Nat→Value}:∀(D:List Nat) (a:Act),Sz n a→(∀k∈D,k<n)→Sz n (D.foldl (fun b k=>b.put (some k) (u k)) a)∧∀j,sl (D.foldl (fun b k=>b.put (some k) (u k)) a) j=if j∈D then u j else sl a j
 |[],a,h,_=>⟨h,fun j=>by simp⟩
 |k::D,a,h,hD=>by
  obtain⟨h1,h2⟩:=wE (u:=u) D (a.put (some k) (u k)) h.put (fun x hx=>hD x (by simp[hx]))
  refine⟨h1,fun j=> ?_⟩
  rw[List.foldl_cons,h2 j,EV h (hD k (by simp))]
  by_cases hj:j∈D
  ·simp[hj]
  ·by_cases hk:j=k
   ·subst hk;simp[hj]
   ·simp[hj,hk]
theorem Kp.eq_put {n:Nat} {keep:List Nat} {a a':Act} (D:List Nat) (h:Sz n a) (h':Sz n a') (kp:Kp keep a a') (hd:((List.range n).all fun k=>D.contains k||keep.contains k)=true) (hD:(D.all fun k=>decide (k<n))=true):
 a'=D.foldl (fun b k=>b.put (some k) (sl a' k)) a:=by
 have hD':∀k∈D,k<n:=fun k hk=>by simpa using List.all_eq_true.1 hD k hk
 obtain⟨h1,h2⟩:=wE (u:=sl a') D a h hD'
 refine h'.eq.trans (Eq.trans ?_ h1.eq.symm)
 unfold frN
 congr 2
 apply List.map_congr_left
 intro k hk
 have hk':k<n:=by simpa using hk
 rw[h2 k]
 split
 ·rfl
 ·next hnd=>
  have:=List.all_eq_true.1 hd k hk
  simp only[Bool.or_eq_true,List.contains_iff_mem]at this
  rcases this with h3|h3
  ·exact absurd h3 hnd
  ·exact kp k h3
theorem xU {P:Program} {c c':Code} {Q:Exit→Act→World→Prop} {a:Act} {w:World} (h:c=c') (k:c.wp P Q a w):c'.wp P Q a w:=h▸k
end Go.Proofs.YtcllkmllflheiaaGreatDoor
namespace Go.Proofs.YtcllkmllflheiaaGreatDoor
open Go.RowKit Go.Proofs
inductive Pl
 |nil
 |p (k:Nat) (t:Pl)
 |q (k:Nat) (t:Pl)
 |e (k:Nat) (t:Pl)
 |e2 (k:Nat) (t:Pl) (k':Nat) (t':Pl)
 |e3 (k:Nat) (t:Pl) (k':Nat) (t':Pl) (k'':Nat) (t'':Pl)
section
variable {P:Program} {ops:Array Oper} {Q:Exit→Act→World→Prop} {S:World→Prop} {brk:List Nat}
def Ig (ops:Array Oper):Nat→Nat→Nat→Bool
 |0,_,_=>false
 |n+1,i,j=>match ops[j]? with
  |some o=>o.after.any fun e=>Region.binds .any e&&(e.on==i||Ig ops n i e.on)
  |none=>false
def iB (ops:Array Oper) (L:Array Bool):Prop:=∀j o,ops[j]? =some o→L.getD j false=true→∀e∈o.after,Region.binds .any e=true→L.getD e.on false=true
theorem iB.set {L:Array Bool} {i:Nat} (h:iB ops L) (hi:i∈Region.ready .any ops L):iB ops (L.setIfInBounds i true):=by
 obtain⟨_,oi,hoi,hall⟩:=mem_ready.1 hi
 intro j oj hj hl e he hb
 by_cases hij:i=j
 ·subst hij
  have:oj=oi:=Option.some.inj (hj.symm.trans hoi)
  subst this
  exact getD_set_true (hall e he hb)
 ·rw[getD_set_ne false hij]at hl
  exact getD_set_true (h j oj hj hl e he hb)
theorem DX {L:Array Bool} (h:iB ops L):∀(n i j:Nat),Ig ops n i j=true→(∀o,ops[j]? =some o→∀e∈o.after,Region.binds .any e=true→L.getD e.on false=true)→L.getD i false=true:=by
 intro n
 induction n with
 |zero=>intro i j h0;cases h0
 |succ n ih=>
  intro i j hn hd
  unfold Ig at hn
  cases ho:ops[j]? with
  |none=>rw[ho]at hn;cases hn
  |some o=>
   rw[ho]at hn
   obtain⟨e,he,hb⟩:=Array.any_eq_true'.1 hn
   simp only[Bool.and_eq_true,Bool.or_eq_true,beq_iff_eq]at hb
   have h1:=hd o ho e he hb.1
   rcases hb.2 with h2|h2
   ·rw[←h2];exact h1
   ·exact ih i e.on h2 (fun o' ho' e' he' hb'=>h e.on o' ho' h1 e' he' hb')
def uG (brk:List Nat) (L:Array Bool):Bool:=brk.all fun b=> !(L.getD b false)
theorem FH {L:Array Bool} {i n:Nat} (h:iB ops L) (ha:brk.all (fun b=>Ig ops n i b)=true) (hi:L.getD i false=false):uG brk L=true:=by
 unfold uG
 rw[List.all_eq_true]
 intro b hb
 cases hl:L.getD b false with
 |false=>rfl
 |true=>
  have h1:=DX h n i b (List.all_eq_true.1 ha b hb) (fun o ho e he hbe=>h b o ho hl e he hbe)
  rw[hi]at h1;cases h1
def vZ (P:Program) (ops:Array Oper) (Q:Exit→Act→World→Prop) (S:World→Prop) (brk:List Nat):Nat→Array Bool→Act→World→Prop
 |0,listed,a,w=>Region.ready .any ops listed=[]∧Q .normal a w
 |fuel+1,listed,a,w=>
  (Region.ready .any ops listed=[]→Q .normal a w)∧
  ∀i∈Region.ready .any ops listed,wpOp P ops Q i (fun a' w'=>(uG brk (listed.setIfInBounds i true)=true→S w')∧vZ P ops Q S brk fuel (listed.setIfInBounds i true) a' w') a w
theorem mJ:∀(fuel:Nat) (listed:Array Bool) (a:Act) (w:World),vZ P ops Q S brk fuel listed a w→wpAny P .any ops Q fuel listed a w
 |0,_,_,_,h=>h
 |fuel+1,_,_,_,h=>⟨h.1,fun i hi=>wpOp_mono (fun a' w' h'=>mJ fuel _ a' w' h'.2) (h.2 i hi)⟩
theorem kK {L:Array Bool} {i:Nat} (h:L.getD i true=false):L.getD i false=false:=by
 rcases Nat.lt_or_ge i L.size with h'|h'
 ·simp[h']at h⊢;exact h
 ·simp[Array.getElem?_eq_none h']at h
theorem mS {T:World→Prop} {i:Nat} {oi:Oper} {v:Value} (hi:ops[i]? =some oi) (hsel:∀(j:Nat) (o:Oper) cs b,ops[j]? =some o→o.op≠ .select cs b)
 (hQ:∀c a w,Q (.panic c) (a.put oi.dst v) w→Q (.panic c) a w) (hib:brk.contains i=false)
 (hT:∀L,iB ops L→L.getD i false=false→∀w',(uG brk L=true→S w')→T w'):
 ∀(fuel:Nat) (listed:Array Bool) (a:Act) (w:World),iB ops listed→
  (∀j oj,ops[j]? =some oj→j≠i→listed.getD j true=false→(∀e∈oj.after,Region.binds .any e=true→e.on≠i)→oi.apart ops oj=true)→
  i∈Region.ready .any ops listed→YieldsIf P ops T oi v a→(uG brk listed=true→S w)→
  vZ P ops Q S brk fuel (listed.setIfInBounds i true) (a.put oi.dst v) w→vZ P ops Q S brk (fuel+1) listed a w:=by
 have hcalm:∀L:Array Bool,uG brk (L.setIfInBounds i true)=uG brk L:=by
  intro L
  unfold uG
  rw[Bool.eq_iff_iff,List.all_eq_true,List.all_eq_true]
  constructor
  ·intro h b hb
   have hne:i≠b:=by rintro rfl;simp at hib;exact hib hb
   have:=h b hb
   rwa [getD_set_ne false hne]at this
  ·intro h b hb
   have hne:i≠b:=by rintro rfl;simp at hib;exact hib hb
   rw[getD_set_ne false hne]
   exact h b hb
 intro fuel
 induction fuel with
 |zero=>
  intro listed a w hcl _ hr hy hS H
  have hTw:=hT listed hcl (kK (mem_ready.1 hr).1) w hS
  refine⟨fun h=>(by rw[h]at hr;cases hr),fun j hj=> ?_⟩
  by_cases hji:j=i
  ·subst hji;exact hy.wpOp hi hTw ⟨fun h=>hS (by rwa [hcalm]at h),H⟩
  ·have:=ready_mono hj hji
   rw[H.1]at this
   cases this
 |succ fuel ih=>
  intro listed a w hcl hfree hr hy hS H
  have hTw:=hT listed hcl (kK (mem_ready.1 hr).1) w hS
  refine⟨fun h=>(by rw[h]at hr;cases hr),fun j hj=> ?_⟩
  by_cases hji:j=i
  ·subst hji;exact hy.wpOp hi hTw ⟨fun h=>hS (by rwa [hcalm]at h),H⟩
  ·have h1:=H.2 j (ready_mono hj hji)
   obtain⟨hjun,oj,hoj,hall⟩:=mem_ready.1 hj
   have hnot:∀e∈oj.after,Region.binds .any e=true→e.on≠i:=fun e he hb heq=>by
    have h1:=hall e he hb
    have h0:=(mem_ready.1 hr).1
    rw[heq,kK h0]at h1
    cases h1
   have h2:=wpOp_putIf hoj (hfree j oj hoj hji hjun hnot) (fun cs b=>hsel i oi cs b hi) (fun cs b=>hsel j oj cs b hoj) hQ hy h1
   have hfree':∀k ok,ops[k]? =some ok→k≠i→(listed.setIfInBounds j true).getD k true=false→
    (∀e∈ok.after,Region.binds .any e=true→e.on≠i)→oi.apart ops ok=true:=fun k ok hk hki hun hno=>by
    refine hfree k ok hk hki ?_ hno
    by_cases hjk:j=k
    ·subst hjk;exact hjun
    ·rw[getD_set_ne true hjk]at hun;exact hun
   refine wpOp_mono (fun a' w' h3=> ?_) h2
   have hS':uG brk (listed.setIfInBounds j true)=true→S w':=fun hc=>h3.2.1 (by
    rw[Array.setIfInBounds_comm _ _ (fun x=>hji x.symm),hcalm];exact hc)
   refine⟨hS',ih (listed.setIfInBounds j true) a' w' (hcl.set hj) hfree' (ready_mono hr (Ne.symm hji)) h3.1 hS' ?_⟩
   rw[Array.setIfInBounds_comm _ _ hji]
   exact h3.2.2
def plB (ops:Array Oper) (brk:List Nat):Pl→Nat→Array Bool→Bool
 | .nil,f,L=>(Region.ready .any ops L).isEmpty&&f==0
 | .p k t,f,L=>match f with
   |0=>false
   |f+1=>(ops[k]?).isSome&& !(brk.contains k)&&Region.free .any ops L k&&(Region.ready .any ops L).contains k&&plB ops brk t f (L.setIfInBounds k true)
 | .q k t,f,L=>match f with
   |0=>false
   |f+1=>(ops[k]?).isSome&& !(brk.contains k)&&brk.all (fun b=>Ig ops ops.size k b)&&Region.free .any ops L k&&(Region.ready .any ops L).contains k&&plB ops brk t f (L.setIfInBounds k true)
 | .e k t,f,L=>match f with
   |0=>false
   |f+1=>decide (Region.ready .any ops L=[k])&&plB ops brk t f (L.setIfInBounds k true)
 | .e2 k t k' t',f,L=>match f with
   |0=>false
   |f+1=>decide (Region.ready .any ops L=[k,k'])&&plB ops brk t f (L.setIfInBounds k true)&&plB ops brk t' f (L.setIfInBounds k' true)
 | .e3 k t k' t' k'' t'',f,L=>match f with
   |0=>false
   |f+1=>decide (Region.ready .any ops L=[k,k',k''])&&plB ops brk t f (L.setIfInBounds k true)&&plB ops brk t' f (L.setIfInBounds k' true)&&plB ops brk t'' f (L.setIfInBounds k'' true)
def eE (P:Program) (ops:Array Oper) (Q:Exit→Act→World→Prop) (S:World→Prop) (brk:List Nat):Bool→Pl→Act→World→Prop
 |_,.nil,a,w=>Q .normal a w
 |c,.p k t,a,w=>∃o v,ops[k]? =some o∧YieldsIf P ops (fun _=>True) o v a∧eE P ops Q S brk c t (a.put o.dst v) w
 |c,.q k t,a,w=>∃o v,ops[k]? =some o∧YieldsIf P ops S o v a∧eE P ops Q S brk c t (a.put o.dst v) w
 |c,.e k t,a,w=>wpOp P ops Q k (fun a' w'=>((c&& !(brk.contains k))=true→S w')∧eE P ops Q S brk (c&& !(brk.contains k)) t a' w') a w
 |c,.e2 k t k' t',a,w=>wpOp P ops Q k (fun a' w'=>((c&& !(brk.contains k))=true→S w')∧eE P ops Q S brk (c&& !(brk.contains k)) t a' w') a w∧
  wpOp P ops Q k' (fun a' w'=>((c&& !(brk.contains k'))=true→S w')∧eE P ops Q S brk (c&& !(brk.contains k')) t' a' w') a w
 |c,.e3 k t k' t' k'' t'',a,w=>wpOp P ops Q k (fun a' w'=>((c&& !(brk.contains k))=true→S w')∧eE P ops Q S brk (c&& !(brk.contains k)) t a' w') a w∧
  wpOp P ops Q k' (fun a' w'=>((c&& !(brk.contains k'))=true→S w')∧eE P ops Q S brk (c&& !(brk.contains k')) t' a' w') a w∧
  wpOp P ops Q k'' (fun a' w'=>((c&& !(brk.contains k''))=true→S w')∧eE P ops Q S brk (c&& !(brk.contains k'')) t'' a' w') a w
theorem lE {L:Array Bool} {k:Nat} {c:Bool} (hk:k<L.size) (h:uG brk L=c):uG brk (L.setIfInBounds k true)=(c&& !(brk.contains k)):=by
 unfold uG at h⊢
 subst h
 rw[Bool.eq_iff_iff,List.all_eq_true,Bool.and_eq_true,List.all_eq_true]
 constructor
 ·intro h
  refine⟨fun b hb=> ?_,?_⟩
  ·have h1:=h b hb
   by_cases hkb:k=b
   ·subst hkb;simp[hk]at h1
   ·rwa [getD_set_ne false hkb]at h1
  ·rw[Bool.not_eq_true']
   cases hc:brk.contains k with
   |false=>rfl
   |true=>
    have h1:=h k (by simpa using hc)
    simp[hk]at h1
 ·rintro⟨h1,h2⟩ b hb
  have hne:k≠b:=by
   rintro rfl
   rw[Bool.not_eq_true']at h2
   simp at h2;exact h2 hb
  rw[getD_set_ne false hne]
  exact h1 b hb
theorem kO {L:Array Bool} {k:Nat} (h:k∈Region.ready .any ops L):k<L.size:=by
 have h0:=(mem_ready.1 h).1
 rcases Nat.lt_or_ge k L.size with h'|h'
 ·exact h'
 ·simp[Array.getElem?_eq_none h']at h0
theorem qA (hs:Region.noSelect ops=true) (hQ:∀c a w (d:Option Tmp) v,Q (.panic c) (a.put d v) w→Q (.panic c) a w):∀(t:Pl) (f:Nat) (L:Array Bool) (c:Bool) (a:Act) (w:World),plB ops brk t f L=true→iB ops L→uG brk L=c→(c=true→S w)→
 eE P ops Q S brk c t a w→vZ P ops Q S brk f L a w:=by
 intro t
 induction t with
 |nil=>
  intro f L c a w hB hcl hcm hS h
  simp only[plB,Bool.and_eq_true,List.isEmpty_iff,beq_iff_eq]at hB
  obtain⟨h1,rfl⟩:=hB
  exact⟨h1,h⟩
 |p k t ih=>
  intro f L c a w hB hcl hcm hS h
  rcases f with _|f
  ·cases hB
  simp only[plB,Bool.and_eq_true,Bool.not_eq_true']at hB
  obtain⟨⟨⟨⟨h1,h2⟩,h3⟩,h4⟩,h5⟩:=hB
  obtain⟨o,v,ho,hy,hr⟩:=h
  have hk:k∈Region.ready .any ops L:=by simpa using h4
  have hcs:uG brk (L.setIfInBounds k true)=c:=by rw[lE (kO hk) hcm,h2];simp
  exact mS (T:=fun _=>True) ho (Region.noSelect_spec hs) (fun c a w=>hQ c a w _ _) h2 (fun _ _ _ _ _=>trivial) f L a w hcl (Region.free_spec ho h3) hk hy (fun hc=>hS (by rw[←hcm,hc]))
   (ih f _ c _ w h5 (hcl.set hk) hcs hS hr)
 |q k t ih=>
  intro f L c a w hB hcl hcm hS h
  rcases f with _|f
  ·cases hB
  simp only[plB,Bool.and_eq_true,Bool.not_eq_true']at hB
  obtain⟨⟨⟨⟨⟨h1,h2⟩,h6⟩,h3⟩,h4⟩,h5⟩:=hB
  obtain⟨o,v,ho,hy,hr⟩:=h
  have hk:k∈Region.ready .any ops L:=by simpa using h4
  have hcs:uG brk (L.setIfInBounds k true)=c:=by rw[lE (kO hk) hcm,h2];simp
  exact mS (T:=S) ho (Region.noSelect_spec hs) (fun c a w=>hQ c a w _ _) h2 (fun L' hL' hun w' hS'=>hS' (FH hL' h6 hun)) f L a w hcl (Region.free_spec ho h3) hk hy (fun hc=>hS (by rw[←hcm,hc]))
   (ih f _ c _ w h5 (hcl.set hk) hcs hS hr)
 |e k t ih=>
  intro f L c a w hB hcl hcm hS h
  rcases f with _|f
  ·cases hB
  simp only[plB,Bool.and_eq_true,decide_eq_true_eq]at hB
  refine⟨fun h0=>(by rw[hB.1]at h0;cases h0),fun i hi=> ?_⟩
  have hi0:=hi
  rw[hB.1]at hi
  obtain rfl:i=k:=by simpa using hi
  have hcs:=lE (brk:=brk) (kO hi0) hcm
  exact wpOp_mono (fun a' w' h'=>⟨fun hc=>h'.1 (by rw[←hcs];exact hc),ih f _ _ a' w' hB.2 (hcl.set hi0) hcs h'.1 h'.2⟩) h
 |e2 k t k' t' ih ih'=>
  intro f L c a w hB hcl hcm hS h
  rcases f with _|f
  ·cases hB
  simp only[plB,Bool.and_eq_true,decide_eq_true_eq]at hB
  refine⟨fun h0=>(by rw[hB.1.1]at h0;cases h0),fun i hi=> ?_⟩
  have hi0:=hi
  rw[hB.1.1]at hi
  have hcs:=lE (brk:=brk) (kO hi0) hcm
  simp only[List.mem_cons,List.not_mem_nil,or_false]at hi
  rcases hi with rfl|rfl
  ·exact wpOp_mono (fun a' w' h'=>⟨fun hc=>h'.1 (by rw[←hcs];exact hc),ih f _ _ a' w' hB.1.2 (hcl.set hi0) hcs h'.1 h'.2⟩) h.1
  ·exact wpOp_mono (fun a' w' h'=>⟨fun hc=>h'.1 (by rw[←hcs];exact hc),ih' f _ _ a' w' hB.2 (hcl.set hi0) hcs h'.1 h'.2⟩) h.2
 |e3 k t k' t' k'' t'' ih ih' ih''=>
  intro f L c a w hB hcl hcm hS h
  rcases f with _|f
  ·cases hB
  simp only[plB,Bool.and_eq_true,decide_eq_true_eq]at hB
  refine⟨fun h0=>(by rw[hB.1.1.1]at h0;cases h0),fun i hi=> ?_⟩
  have hi0:=hi
  rw[hB.1.1.1]at hi
  have hcs:=lE (brk:=brk) (kO hi0) hcm
  simp only[List.mem_cons,List.not_mem_nil,or_false]at hi
  rcases hi with rfl|rfl|rfl
  ·exact wpOp_mono (fun a' w' h'=>⟨fun hc=>h'.1 (by rw[←hcs];exact hc),ih f _ _ a' w' hB.1.1.2 (hcl.set hi0) hcs h'.1 h'.2⟩) h.1
  ·exact wpOp_mono (fun a' w' h'=>⟨fun hc=>h'.1 (by rw[←hcs];exact hc),ih' f _ _ a' w' hB.1.2 (hcl.set hi0) hcs h'.1 h'.2⟩) h.2.1
  ·exact wpOp_mono (fun a' w' h'=>⟨fun hc=>h'.1 (by rw[←hcs];exact hc),ih'' f _ _ a' w' hB.2 (hcl.set hi0) hcs h'.1 h'.2⟩) h.2.2
theorem mZ (n:Nat):iB ops (Array.replicate n false):=fun j o _ h=>by
 rcases Nat.lt_or_ge j n with h1|h1<;>simp[Array.getD,h1,Nat.not_lt.2]at h
theorem qM (n:Nat):uG brk (Array.replicate n false)=true:=by
 unfold uG
 rw[List.all_eq_true]
 intro b _
 rcases Nat.lt_or_ge b n with h1|h1<;>simp[Array.getD,h1,Nat.not_lt.2]
theorem mY {id:Nat} {a:Act} {w:World} (hm:P.follows .mixedOrders=true) (S:World→Prop) (brk:List Nat) (t:Pl) (hB:(Region.noSelect ops&&plB ops brk t ops.size (Array.replicate ops.size false))=true)
 (hS:S w.drew) (h:eE P ops (NoPanic Q) S brk true t a w.drew):(Code.region id ops true).wp P Q a w:=by
 rw[Bool.and_eq_true]at hB
 refine wp_region_noPanic (wp_region_any hm (mJ _ _ _ _ (qA hB.1 (fun c a w d v h=>h) t _ _ true a _ hB.2 (mZ _) (qM _) (fun _=>hS) h)))
theorem sU {id:Nat} {a:Act} {w:World} {opl:List Oper} (hm:P.follows .mixedOrders=true) (S:World→Prop) (brk:List Nat) (t:Pl) (hB:(Region.noSelect opl.toArray&&plB opl.toArray brk t opl.toArray.size (Array.replicate opl.toArray.size false))=true)
 (hS:S w.drew) (h:∀(ops':Array Oper) (Q':Exit→Act→World→Prop),Hid (ops'=opl.toArray)→(∀a w,Q .normal a w→Q' .normal a w)→∀w1,S w1→eE P ops' Q' S brk true t a w1):(Code.region id opl.toArray true).wp P Q a w:=
 mY hm S brk t hB hS (h opl.toArray (NoPanic Q) (Lib.hid rfl) (fun _ _ h=>h) _ hS)
theorem kA {opl:List Oper} {k:Nat} {o:Oper} (hO:Hid (ops=opl.toArray)) (ho:opl[k]? =some o):ops[k]? =some o:=by rw[hO.out];simpa using ho
theorem aI {opl:List Oper} {j d:Nat} (hO:Hid (ops=opl.toArray)) (hd:(opl[j]?).bind (·.dst)=some d):(ops[j]?).bind (·.dst)=some d:=by rw[hO.out];simpa using hd
theorem iQ (n:Int):IntKind.i64.wrap n=wrap64 n:=IntWalk.i64_left n
variable {k:Nat} {o:Oper} {t:Pl} {a:Act} {w:World} {c:Bool}
theorem bV (h:Q .normal a w):eE P ops Q S brk c .nil a w:=h
theorem Gz (ho:ops[k]? =some o) (hw:Region.wanted o (yielded ops a.tmps)=true) (v:Value) (hv:∀w,(execOp a.eval o).run P w= .ok (.value v) w) (h:eE P ops Q S brk c t (a.put o.dst v) w):eE P ops Q S brk c (.p k t) a w:=
 ⟨o,v,ho,.inl ⟨hw,fun w _=>hv w⟩,h⟩
theorem Iv (ho:ops[k]? =some o) (hw:Region.wanted o (yielded ops a.tmps)=true) (v:Value) (hv:∀w,S w→(execOp a.eval o).run P w= .ok (.value v) w) (h:eE P ops Q S brk c t (a.put o.dst v) w):eE P ops Q S brk c (.q k t) a w:=
 ⟨o,v,ho,.inl ⟨hw,hv⟩,h⟩
theorem BG (ho:ops[k]? =some o) (hw:Region.wanted o (yielded ops a.tmps)=false) (h:eE P ops Q S brk c t (a.put o.dst undef) w):eE P ops Q S brk c (.p k t) a w:=
 ⟨o,undef,ho,.inr ⟨hw,rfl⟩,h⟩
theorem BW (ho:ops[k]? =some o) (hw:Region.wanted o (yielded ops a.tmps)=false) (h:eE P ops Q S brk c t (a.put o.dst undef) w):eE P ops Q S brk c (.q k t) a w:=
 ⟨o,undef,ho,.inr ⟨hw,rfl⟩,h⟩
theorem E9 (ho:ops[k]? =some o) (hw:Region.wanted o (yielded ops a.tmps)=true) (hb:(c&& !(brk.contains k))=true)
 (h:∀K:Act→World→Prop,(∀a' w',S w'→(S w'→eE P ops Q S brk true t a' w')→K a' w')→o.wp P a w K Q):eE P ops Q S brk c (.e k t) a w:=by
 unfold eE wpOp
 simp only[ho,hw,if_true,hb]
 exact .inl (h _ fun a' w' h1 h2=>⟨fun _=>h1,h2 h1⟩)
theorem EA (ho:ops[k]? =some o) (hw:Region.wanted o (yielded ops a.tmps)=true) (hb:(c&& !(brk.contains k))=false)
 (h:∀K:Act→World→Prop,(∀a' w',eE P ops Q S brk false t a' w'→K a' w')→o.wp P a w K Q):eE P ops Q S brk c (.e k t) a w:=by
 unfold eE wpOp
 simp only[ho,hw,if_true,hb]
 exact .inl (h _ fun a' w' h2=>⟨fun h1=>by simp at h1,h2⟩)
theorem Fq (ho:ops[k]? =some o) (hw:Region.wanted o (yielded ops a.tmps)=false) (hb:(c&& !(brk.contains k))=c) (hS:c=true→S w) (h:eE P ops Q S brk c t (a.put o.dst undef) w):eE P ops Q S brk c (.e k t) a w:=by
 unfold eE wpOp
 simp only[ho,hw,hb]
 exact⟨hS,h⟩
theorem qJ {j d:Nat} {b:Bool} {a:Act} (hd:(ops[j]?).bind (·.dst)=some d) (hv:a.eval (.tmp d)= .bool b):yielded ops a.tmps j=some b:=by
 unfold yielded
 rw[hd]
 have h1:a.tmps.getD d undef= .bool b:=hv
 simp only[Option.bind_some]
 by_cases hlt:d<a.tmps.size
 ·simp[Array.getD,hlt]at h1
  simp[hlt,h1]
 ·simp[Array.getD,hlt]at h1
  cases h1
theorem aL {o:Oper} {y:Nat→Option Bool} (hg:o.guard=none):Region.wanted o y=true:=by unfold Region.wanted;rw[hg]
theorem aM {o:Oper} {j d:Nat} {b:Bool} {a:Act} (hg:o.guard=some (j,b)) (hd:(ops[j]?).bind (·.dst)=some d) (hv:a.eval (.tmp d)= .bool b):Region.wanted o (yielded ops a.tmps)=true:=by
 unfold Region.wanted;rw[hg];simp only[qJ hd hv,beq_self_eq_true]
theorem mQ {o:Oper} {j d:Nat} {b:Bool} {a:Act} (hg:o.guard=some (j,b)) (hd:(ops[j]?).bind (·.dst)=some d) (hv:a.eval (.tmp d)= .bool (!b)):Region.wanted o (yielded ops a.tmps)=false:=by
 unfold Region.wanted;rw[hg];simp only[qJ hd hv];cases b<;>rfl
variable {opl:List Oper}
theorem GM (hO:Hid (ops=opl.toArray)) (ho:opl[k]? =some o) (hg:o.guard=none) (v:Value) (hv:∀w,(execOp a.eval o).run P w= .ok (.value v) w) (h:eE P ops Q S brk c t (a.put o.dst v) w):eE P ops Q S brk c (.p k t) a w:=Gz (kA hO ho) (aL hg) v hv h
theorem Gj (hO:Hid (ops=opl.toArray)) (ho:opl[k]? =some o) (hg:o.guard=none) (v:Value) (hv:∀w,S w→(execOp a.eval o).run P w= .ok (.value v) w) (h:eE P ops Q S brk c t (a.put o.dst v) w):eE P ops Q S brk c (.q k t) a w:=Iv (kA hO ho) (aL hg) v hv h
theorem Jn {j d:Nat} {b:Bool} (hO:Hid (ops=opl.toArray)) (ho:opl[k]? =some o) (hg:o.guard=some (j,b)) (hd:(opl[j]?).bind (·.dst)=some d) (hb:a.eval (.tmp d)= .bool b) (v:Value) (hv:∀w,(execOp a.eval o).run P w= .ok (.value v) w) (h:eE P ops Q S brk c t (a.put o.dst v) w):eE P ops Q S brk c (.p k t) a w:=Gz (kA hO ho) (aM hg (aI hO hd) hb) v hv h
theorem IJ {j d:Nat} {b:Bool} (hO:Hid (ops=opl.toArray)) (ho:opl[k]? =some o) (hg:o.guard=some (j,b)) (hd:(opl[j]?).bind (·.dst)=some d) (hb:a.eval (.tmp d)= .bool b) (v:Value) (hv:∀w,S w→(execOp a.eval o).run P w= .ok (.value v) w) (h:eE P ops Q S brk c t (a.put o.dst v) w):eE P ops Q S brk c (.q k t) a w:=Iv (kA hO ho) (aM hg (aI hO hd) hb) v hv h
theorem I9 {j d:Nat} {b:Bool} (hO:Hid (ops=opl.toArray)) (ho:opl[k]? =some o) (hg:o.guard=some (j,b)) (hd:(opl[j]?).bind (·.dst)=some d) (hb:a.eval (.tmp d)= .bool (!b)) (h:eE P ops Q S brk c t (a.put o.dst undef) w):eE P ops Q S brk c (.p k t) a w:=BG (kA hO ho) (mQ hg (aI hO hd) hb) h
theorem Iz {j d:Nat} {b:Bool} (hO:Hid (ops=opl.toArray)) (ho:opl[k]? =some o) (hg:o.guard=some (j,b)) (hd:(opl[j]?).bind (·.dst)=some d) (hb:a.eval (.tmp d)= .bool (!b)) (h:eE P ops Q S brk c t (a.put o.dst undef) w):eE P ops Q S brk c (.q k t) a w:=BW (kA hO ho) (mQ hg (aI hO hd) hb) h
theorem fJ (hO:Hid (ops=opl.toArray)) (ho:opl[k]? =some o) (hg:o.guard=none) (hb:(c&& !(brk.contains k))=true)
 (h:∀K:Act→World→Prop,(∀a' w',S w'→(S w'→eE P ops Q S brk true t a' w')→K a' w')→o.wp P a w K Q):eE P ops Q S brk c (.e k t) a w:=E9 (kA hO ho) (aL hg) hb h
theorem gC (hO:Hid (ops=opl.toArray)) (ho:opl[k]? =some o) (hg:o.guard=none) (hb:(c&& !(brk.contains k))=false)
 (h:∀K:Act→World→Prop,(∀a' w',eE P ops Q S brk false t a' w'→K a' w')→o.wp P a w K Q):eE P ops Q S brk c (.e k t) a w:=EA (kA hO ho) (aL hg) hb h
theorem Jz {k':Nat} {t':Pl} (h1:eE P ops Q S brk c (.e k t) a w) (h2:eE P ops Q S brk c (.e k' t') a w):eE P ops Q S brk c (.e2 k t k' t') a w:=⟨h1,h2⟩
end
end Go.Proofs.YtcllkmllflheiaaGreatDoor
namespace Go.Proofs.YtcllkmllflheiaaGreatDoor
open Go.RowKit Go.Proofs
section
variable {P:Program} {ops:Array Oper} {Q:Exit→Act→World→Prop} {S:World→Prop} {brk:List Nat} {c:Bool} {k:Nat} {t:Pl} {a:Act} {w:World} {o:Oper} {opl:List Oper}
theorem xX {o:Oper} {j d:Nat} {b:Bool} {a:Act} (hg:o.guard=some (j,b)) (hd:(ops[j]?).bind (·.dst)=some d) (hv:a.eval (.tmp d)=undef):Region.wanted o (yielded ops a.tmps)=false:=by
 unfold Region.wanted;rw[hg]
 have:yielded ops a.tmps j=none:=by
  unfold yielded
  rw[hd]
  have hv':a.tmps.getD d undef=undef:=hv
  rw[Array.getD_eq_getD_getElem?]at hv'
  simp only[Option.bind_some]
  cases hx:a.tmps[d]? with
  |none=>rfl
  |some v=>
   rw[hx,Option.getD_some]at hv'
   rw[hv'];rfl
 simp only[this];rfl
end
end Go.Proofs.YtcllkmllflheiaaGreatDoor
