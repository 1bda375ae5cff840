/- Parts of the walk; written by programs, merged. -/
import Derived.Test.YtcllkmllflheiaaGreatDoorLae
import Derived.Lib.ConvBytes
import Derived.Lib.LazyBuf
import Derived.Recover
set_option linter.unusedSimpArgs false
set_option linter.unusedVariables false
set_option maxRecDepth 20000
set_option maxHeartbeats 8000000
namespace Go.Proofs.YtcllkmllflheiaaGreatDoor
open Go.RowKit Go.Proofs
attribute [local go_sem] aG aD aE aF
def Ln (d:FY) (A:Option Addr) (cap:Nat):Array Value:= #[.int .u16 (d.op:Int),.int .u16 (d.block:Int),.string (bs d.text),.string (bs d.data),.slice A d.fs.length cap]
end Go.Proofs.YtcllkmllflheiaaGreatDoor
namespace Go.Proofs.YtcllkmllflheiaaGreatDoor
def Jm (b4:List CP) (o:CP):Bool:=gJ o.name&&gJ o.value&&(o.name==Is o.name)&& !(named b4 o.name)
def Jv:List CP→List CP→Option (List UInt8)
 |_,[]=>some []
 |b4,o::r=>if Jm b4 o then(Jv (b4++[o]) r).map fun t=>o.name++0::o.value++0::t else none
def GV (l:List UInt8):List UInt8×Nat:=if 1472<l.length then([],7)else(l,0)
def EG (d:FY):List UInt8×Nat:=
 if d.op=1 then if gJ d.text then(match Jv [] d.fs with
  |none=>([],2)
  |some t=>GV (big 2 d.op++d.text++[0,111,99,116,101,116,0]++t))else([],2)
 else if d.op=6 then(match Jv [] d.fs with
  |none=>([],2)
  |some t=>GV (big 2 d.op++t))
 else if d.op=3 then if 1024<d.data.length then([],7)else GV (big 2 d.op++big 2 d.block++d.data)
 else if d.op=4 then GV (big 2 d.op++big 2 d.block)
 else if d.op=5 then if d.text.contains 0 then([],2)else GV (big 2 d.op++big 2 d.block++d.text++[0])
 else([],2)
end Go.Proofs.YtcllkmllflheiaaGreatDoor
namespace Go.Proofs.YtcllkmllflheiaaGreatDoor
open Go.RowKit Go.Proofs
attribute [local go_sem] aG aD aE
def cP (e:Int):List PanicEntry:=[{v:= .iface 214 (.agg #[.int .i64 e]),recovered:=false}]
def Rd (w:World) (p:Nat) (l:List UInt8):Prop:=Bk w p 216 #[.string (bs l)]
def Bn (p:Nat) (l:List UInt8) (n:Nat) (w:World) (v:Value) (e:Ending) (w':World):Prop:=
 (n≤l.length∧e= .returned v∧Rd w' p (l.drop n)∧Fr (aJ p) w w')∨(l.length<n∧e= .panicked (cP 1)∧Fr (aJ p) w w')
theorem DU (e:Int) (w:World):Calls Tryz.prog 155 #[.int .i64 e] w fun x w'=>x= .panicked (cP e)∧w=w':=by
 go_enter Tryz.func155,Tryz.ntmps155
 go_wp2
 exact⟨rfl,rfl,rfl⟩
theorem eX (e:Int) (w:World):Calls Tryz.prog 104 #[.bool true,.int .i64 e] w fun x w'=>x= .returned (.tuple #[])∧w=w':=by
 go_enter Tryz.func104,Tryz.ntmps104
 go_wp2_with fail
 go_end0
 exact⟨rfl,rfl⟩
theorem dM (e:Int) (w:World):Calls Tryz.prog 104 #[.bool false,.int .i64 e] w fun x w'=>x= .panicked (cP e)∧w=w':=by
 go_enter Tryz.func104,Tryz.ntmps104
 go_wp2_with fail
 refine(DU e _).mono ?_
 rintro x w1 ⟨rfl,rfl⟩
 exact⟨rfl,rfl,rfl⟩
def yS (b:Bool) (e:Int) (w:World) (x:Ending) (w':World):Prop:=(b=true∧x= .returned (.tuple #[])∧w=w')∨(b=false∧x= .panicked (cP e)∧w=w')
theorem dK (b:Bool) (e:Int) (w:World):Calls Tryz.prog 104 #[.bool b,.int .i64 e] w (yS b e w):=by
 cases b
 ·exact(dM e w).mono fun x w' h=> .inr ⟨rfl,h⟩
 ·exact(eX e w).mono fun x w' h=> .inl ⟨rfl,h⟩
theorem Bh (n:Nat) (p:Nat) (l:List UInt8) (w:World) (hR:Rd w p l) (hn:n≤9223372036854775807) (hl:l.length≤9223372036854775807):
 Calls Tryz.prog 153 #[.pointer (some ⟨p,0,none⟩),.int .i64 n] w (Bn p l n w (.string (bs (l.take n)))):=by
 have hc0:w.cell? ⟨p,0,none⟩=some (.string (bs l)):=by simpa using Bk.cell hR 0
 have hf0:=Bk.free hR 0
 by_cases h:n≤l.length
 ·have hd:decide (n≤l.length)=true:=by simpa using h
  go_enter Tryz.func153,Tryz.ntmps153
  go_wp2_with fail
  refine(eX 1 _).mono ?_
  rintro x w1 ⟨rfl,rfl⟩
  go_wp2_with fail
  go_ret
  refine .inl ⟨h,?_,?_,?_⟩
  ·simp
  ·have hs:=Bk.set hR 0 (.string (bs (l.drop n)))
   simpa[Rd]using hs
  ·exact(Fr.refl (aJ p) w).setCell (p:=⟨p,0,none⟩) (fun _=>rfl) _
 ·go_enter Tryz.func153,Tryz.ntmps153
  go_wp2_with fail
  refine(dM 1 _).mono ?_
  rintro x w1 ⟨rfl,rfl⟩
  exact⟨rfl,.inr ⟨by omega,rfl,Fr.refl _ _⟩⟩
theorem CR:∀(l:List UInt8) (a:Nat),l.foldl (fun n b=>256*n+b.toNat) a<(a+1)*256^l.length
 |[],a=>by simp
 |b::r,a=>by
  have hb:=b.toNat_lt
  have h:=CR r (256*a+b.toNat)
  rw[List.foldl_cons,List.length_cons,Nat.pow_succ]
  have h2:(256*a+b.toNat+1)*256^r.length≤((a+1)*256)*256^r.length:=Nat.mul_le_mul_right _ (by omega)
  have h3:(a+1)*(256^r.length*256)=((a+1)*256)*256^r.length:=by rw[Nat.mul_comm (256^r.length),Nat.mul_assoc]
  omega
theorem nR (l:List UInt8):num l<256^l.length:=by
 have h:=CR l 0;simpa[num]using h
theorem Fw (x:Nat) (b:UInt8) (hx:x<16777216):bits .or .u32 ((x:Int)*256) ((b.toNat:Int)%4294967296)=((256*x+b.toNat:Nat):Int):=by
 have hb:=b.toNat_lt
 rw[show(x:Int)*256=((x*256:Nat):Int) by omega,show(b.toNat:Int)%4294967296=((b.toNat:Nat):Int) by omega,u32_or_nat _ _ (by omega) (by omega),
  nat_join 8 (x*256) b.toNat (by omega) (by omega)]
 omega
theorem Ir (n:Nat) (p:Nat) (l:List UInt8) (w:World) (hR:Rd w p l) (hn:n≤4) (hl:l.length≤9223372036854775807):
 Calls Tryz.prog 154 #[.pointer (some ⟨p,0,none⟩),.int .i64 n] w (Bn p l n w (.int .u32 (num (l.take n)))):=by
 have hp:=Bk.lt hR
 go_enter Tryz.func154,Tryz.ntmps154
 go_wp2_with fail
 refine(Bh n p l _ hR (by omega) hl).mono ?_
 rintro e w1 (⟨hle,rfl,hR1,hf1⟩|⟨hlt,rfl,hf1⟩)
 ·have hcv:=Go.Lib.run_convert_string_bytes (P:=Tryz.prog) w1 9 55 5 (bs (l.take n)) Tryz.underlying9 Tryz.underlying55 Tryz.underlying5
  have hlen:(l.take n).length=n:=by rw[List.length_take];omega
  have hcell:∀j,j<n→(Go.Lib.bytesWorld w1 5 (bs (l.take n))).cell? ⟨w1.heap.size,j,none⟩=some (.int .u8 (((l.take n).getD j 0).toNat:Int)):=by
   intro j hj
   have h:=Go.Lib.bytesWorld_cell w1 5 (bs (l.take n)) j (by rw[aG];omega)
   rw[xC]at h;exact h
  have hfb:Fr noB w1 (Go.Lib.bytesWorld w1 5 (bs (l.take n))):=by
   refine⟨rfl,rfl,rfl,?_,fun k hk _=>Go.Lib.bytesWorld_at_old w1 _ _ k hk⟩
   rw[Go.Lib.bytesWorld_size];omega
  have Htk:∀j,j<n→Hid (num ((l.take n).take (j+1))=256*num ((l.take n).take j)+((l.take n).getD j 0).toNat):=by
   intro j hj;unfold Hid
   rw[List.take_succ_eq_append_getElem (by omega),Ag]
   simp[List.getD,hlen,hj]
  have Hbd:∀j,j<n→num ((l.take n).take j)<16777216:=by
   intro j hj
   have h:=nR ((l.take n).take j)
   have h2:((l.take n).take j).length≤3:=by rw[List.length_take];omega
   have h3:256^((l.take n).take j).length≤256^3:=Nat.pow_le_pow_right (by omega) h2
   omega
  have Hl:=Lib.hid hlen
  have Hfull:Hid ((l.take n).take n=l.take n):=by unfold Hid;rw[List.take_of_length_le (by omega)]
  have hsz:(bs (l.take n)).size=n:=by rw[aG];exact hlen
  clear hlen
  generalize Go.Lib.bytesWorld w1 5 (bs (l.take n))=w2 at*
  generalize l.take n=t at*
  generalize w1.heap.size=g at*
  go_wp2_with fail
  go_loop [5,13] (fun x i=>∃j:Nat,j≤n∧i= .int .i64 j∧x= .int .u32 (num (t.take j):Int)) (fun _ i=>n-(intOf i).toNat)
  case atStart=>exact⟨0,by omega,rfl,rfl⟩
  case round=>
   obtain⟨j,hj,rfl,rfl⟩:=hrel
   by_cases hlt:j<n
   ·have hc:=hcell j hlt
    have hbd:=Hbd j hlt
    have htk:=Htk j hlt
    have hor:=Fw (num (t.take j)) (t.getD j 0) hbd
    clear hcell Hbd Htk
    generalize t.getD j 0=b at*
    generalize num (t.take j)=x at*
    go_wp2_with fail
    go_round
    case rel=>exact⟨j+1,by omega,by go_num,by rw[htk.out]<;>go_num⟩
    case measure=>simp[intOf];omega
   ·clear hcell Hbd Htk
    go_wp2_with fail
    go_ret
    obtain rfl:j=n:=by omega
    rw[Hfull.out]
    exact .inl ⟨hle,rfl,Bk.keep hR1 hfb (fun x=>x),hf1.none hfb⟩
 ·exact⟨rfl,.inr ⟨hlt,rfl,hf1⟩⟩
theorem rU8 (p:Nat) (l:List UInt8) (w:World) (hR:Rd w p l) (hl:l.length≤9223372036854775807):
 Calls Tryz.prog 161 #[.pointer (some ⟨p,0,none⟩)] w (Bn p l 1 w (.int .u8 (num (l.take 1)))):=by
 have hb:num (l.take 1)<256:=by
  have h:=nR (l.take 1)
  have h2:(l.take 1).length≤1:=by rw[List.length_take];omega
  have h3:256^(l.take 1).length≤256^1:=Nat.pow_le_pow_right (by omega) h2
  omega
 go_enter Tryz.func161,Tryz.ntmps161
 go_wp2_with fail
 refine(Ir 1 p l _ hR (by omega) hl).mono ?_
 rintro e w1 (⟨hle,rfl,hR1,hf1⟩|⟨hlt,rfl,hf1⟩)
 ·generalize num (l.take 1)=x at*
  have hx:IntKind.u8.wrap (x:Int)=x:=by rw[IntKind.wrap_u8'];omega
  go_wp2_with fail
  go_ret
  exact .inl ⟨hle,rfl,hR1,hf1⟩
 ·exact⟨rfl,.inr ⟨hlt,rfl,hf1⟩⟩
theorem Kk (p:Nat) (l:List UInt8) (w:World) (hR:Rd w p l) (hl:l.length≤9223372036854775807):
 Calls Tryz.prog 103 #[.pointer (some ⟨p,0,none⟩)] w (Bn p l 2 w (.int .u16 (num (l.take 2)))):=by
 have hb:num (l.take 2)<65536:=by
  have h:=nR (l.take 2)
  have h2:(l.take 2).length≤2:=by rw[List.length_take];omega
  have h3:256^(l.take 2).length≤256^2:=Nat.pow_le_pow_right (by omega) h2
  omega
 go_enter Tryz.func103,Tryz.ntmps103
 go_wp2_with fail
 refine(Ir 2 p l _ hR (by omega) hl).mono ?_
 rintro e w1 (⟨hle,rfl,hR1,hf1⟩|⟨hlt,rfl,hf1⟩)
 ·generalize num (l.take 2)=x at*
  have hx:IntKind.u16.wrap (x:Int)=x:=by rw[IntKind.wrap_u16];omega
  go_wp2_with fail
  go_ret
  exact .inl ⟨hle,rfl,hR1,hf1⟩
 ·exact⟨rfl,.inr ⟨hlt,rfl,hf1⟩⟩
theorem rIP (p:Nat) (l:List UInt8) (w:World) (hR:Rd w p l) (hl:l.length≤9223372036854775807):
 Calls Tryz.prog 158 #[.pointer (some ⟨p,0,none⟩)] w (Bn p l 4 w (.int .u32 (num (l.take 4)))):=by
 go_enter Tryz.func158,Tryz.ntmps158
 go_wp2_with fail
 refine(Ir 4 p l _ hR (by omega) hl).mono ?_
 rintro e w1 (⟨hle,rfl,hR1,hf1⟩|⟨hlt,rfl,hf1⟩)
 ·generalize num (l.take 4)=x at*
  go_wp2_with fail
  go_ret
  exact .inl ⟨hle,rfl,hR1,hf1⟩
 ·exact⟨rfl,.inr ⟨hlt,rfl,hf1⟩⟩
theorem Eb (n:Nat) (p:Nat) (l:List UInt8) (w:World) (hR:Rd w p l) (hn:n≤l.length) (hl:l.length≤9223372036854775807):
 Calls Tryz.prog 153 #[.pointer (some ⟨p,0,none⟩),.int .i64 n] w fun e w'=>e= .returned (.string (bs (l.take n)))∧Rd w' p (l.drop n)∧Fr (aJ p) w w':=
 (Bh n p l w hR (by omega) hl).mono fun e w' h=>by
  rcases h with⟨_,h⟩|⟨h,_⟩
  ·exact h
  ·omega
theorem Ex (n:Nat) (p:Nat) (l:List UInt8) (w:World) (hR:Rd w p l) (hn:l.length<n) (hn2:n≤9223372036854775807):
 Calls Tryz.prog 153 #[.pointer (some ⟨p,0,none⟩),.int .i64 n] w fun e w'=>e= .panicked (cP 1)∧Fr (aJ p) w w':=
 (Bh n p l w hR hn2 (by omega)).mono fun e w' h=>by
  rcases h with⟨h,_⟩|⟨_,h⟩
  ·omega
  ·exact h
def fX (l:List UInt8):Mac:=(l.getD 0 0,l.getD 1 0,l.getD 2 0,l.getD 3 0,l.getD 4 0,l.getD 5 0)
theorem FZ (w:World):(Go.sizeOf 5).run Tryz.prog w= .ok 1 w:=by
 obtain⟨i0,hi0,hz0,hz1,hz2⟩:=info_parts kD
 simp[Go.sizeOf,typeInfo,hi0,hz1]
theorem Ji (w:World) (g:Nat) (t:TypeId) (c0 c1 c2 c3 c4 c5:Value) (a b c d e f:UInt8) (hb:Bk w g t #[c0,c1,c2,c3,c4,c5]):
 ∃w',(Builtin.copy_ #[55,9] 3 #[.slice (some ⟨g,0,none⟩) 6 6,.string (bs [a,b,c,d,e,f])]).run Tryz.prog w= .ok (.int .i64 6) w'∧
  Bk w' g t #[.int .u8 (a.toNat:Int),.int .u8 (b.toNat:Int),.int .u8 (c.toNat:Int),.int .u8 (d.toNat:Int),.int .u8 (e.toNat:Int),.int .u8 (f.toNat:Int)]∧Fr (aJ g) w w':=by
 have hz:(bs [a,b,c,d,e,f]).size=6:=by rw[aG];rfl
 have h:=run_copy_string (P:=Tryz.prog) w 55 9 3 5 g 0 6 6 (bs [a,b,c,d,e,f]) Tryz.underlying55 FZ (by rw[hz];omega)
  (by
   intro j hj;rw[hz]at hj
   have h:=hb.cell (0+j)
   rw[h]
   match j,hj with
   |0,_|1,_|2,_|3,_|4,_|5,_=>rfl)
  (fun j _=>hb.free _)
 rw[hz,xC]at h
 refine⟨_,h,?_,?_⟩
 ·simp only[List.map,World.setCells]
  have h0:=((((((hb.set 0 (.int .u8 (a.toNat:Int))).set 1 (.int .u8 (b.toNat:Int))).set 2 (.int .u8 (c.toNat:Int))).set 3 (.int .u8 (d.toNat:Int))).set 4 (.int .u8 (e.toNat:Int))).set 5 (.int .u8 (f.toNat:Int)))
  simpa using h0
 ·simp only[List.map,World.setCells]
  exact((((((Fr.refl (aJ g) w).setCell (p:=⟨g,_,none⟩) (fun _=>rfl) _).setCell (p:=⟨g,_,none⟩) (fun _=>rfl) _).setCell (p:=⟨g,_,none⟩) (fun _=>rfl) _).setCell (p:=⟨g,_,none⟩) (fun _=>rfl) _).setCell (p:=⟨g,_,none⟩) (fun _=>rfl) _).setCell (p:=⟨g,_,none⟩) (fun _=>rfl) _
theorem Bk.six {w:World} {g:Nat} {t:TypeId} {c0 c1 c2 c3 c4 c5:Value} (h:Bk w g t #[c0,c1,c2,c3,c4,c5]):
 w.cell? ⟨g,0,none⟩=some c0∧w.cell? ⟨g,1,none⟩=some c1∧w.cell? ⟨g,2,none⟩=some c2∧w.cell? ⟨g,3,none⟩=some c3∧w.cell? ⟨g,4,none⟩=some c4∧w.cell? ⟨g,5,none⟩=some c5:=
 ⟨h.cell 0,h.cell 1,h.cell 2,h.cell 3,h.cell 4,h.cell 5⟩
theorem Bk.free6 {w:World} {g:Nat} {t:TypeId} {cs:Array Value} (h:Bk w g t cs):
 w.frozen? ⟨g,0,none⟩=false∧w.frozen? ⟨g,1,none⟩=false∧w.frozen? ⟨g,2,none⟩=false∧w.frozen? ⟨g,3,none⟩=false∧w.frozen? ⟨g,4,none⟩=false∧w.frozen? ⟨g,5,none⟩=false:=
 ⟨h.free 0,h.free 1,h.free 2,h.free 3,h.free 4,h.free 5⟩
def fA:Array Value:= #[.int .u8 0,.int .u8 0,.int .u8 0,.int .u8 0,.int .u8 0,.int .u8 0]
theorem K6 (p:Nat) (l:List UInt8) (w:World) (hR:Rd w p l) (hl:l.length≤9223372036854775807):
 Calls Tryz.prog 102 #[.pointer (some ⟨p,0,none⟩)] w (Bn p l 6 w (xQ (fX l))):=by
 have hp:=Bk.lt hR
 by_cases h:6≤l.length
 ·match l,h with
  |a::b::c::d::e::f::r,h=>
   have hR2:Rd ((w.alloc (.cells fA 26)).alloc (.cells fA 26)) p (a::b::c::d::e::f::r):=Bk.alloc (Bk.alloc hR _) _
   have hf2:Fr noB w ((w.alloc (.cells fA 26)).alloc (.cells fA 26)):=((Fr.refl _ _).alloc _).alloc _
   have hb1:=(Bk.new w 26 fA).alloc (.cells fA 26)
   have hb2:=Bk.new (w.alloc (.cells fA 26)) 26 fA
   rw[show(w.alloc (.cells fA 26)).heap.size=w.heap.size+1 by simp]at hb2
   have hsz2:((w.alloc (.cells fA 26)).alloc (.cells fA 26)).heap.size=w.heap.size+2:=by simp
   go_enter Tryz.func102,Tryz.ntmps102
   go_wp2_with fail
   unfold fA at hR2 hf2 hb1 hb2 hsz2
   generalize(w.alloc (.cells #[.int .u8 0,.int .u8 0,.int .u8 0,.int .u8 0,.int .u8 0,.int .u8 0] 26)).alloc (.cells #[.int .u8 0,.int .u8 0,.int .u8 0,.int .u8 0,.int .u8 0,.int .u8 0] 26)=w2 at*
   have H2:=Lib.hid hsz2
   clear hsz2
   have HT:=Lib.hid (Eb 6 p (a::b::c::d::e::f::r) w2.drew hR2 (by simp) hl)
   go_region_with ((go_at_call 153;refine HT.out.mono ?_;rintro e' w3 ⟨rfl,hR3,hf3⟩;obtain⟨w4,hcp,hb4,hf4⟩:=Ji w3 (w.heap.size+1) _ _ _ _ _ _ _ a b c d e f (hb2.drew.keep hf3 (by unfold aJ;omega))))
   have h0:Fr (aJ p) w w4:=((hf2.of_no (aJ p)).drew.trans hf3).trans' hf4 (fun k hk e=>by unfold aJ at e;omega)
   have hb1':Bk w4 w.heap.size 26 #[.int .u8 0,.int .u8 0,.int .u8 0,.int .u8 0,.int .u8 0,.int .u8 0]:=by
    refine(hb1.drew.keep hf3 ?_).keep hf4 ?_<;>unfold aJ<;>omega
   obtain⟨k0,k1,k2,k3,k4,k5⟩:=hb4.six
   obtain⟨n0,n1,n2,n3,n4,n5⟩:=hb1'.six
   obtain⟨z0,z1,z2,z3,z4,z5⟩:=hb1'.free6
   go_wp2_with fail
   refine bodyPost_ret (v:=xQ (fX (a::b::c::d::e::f::r))) (by simp[results,Tryz.results102,go_sem,n0,n1,n2,n3,n4,n5,xQ,fX]) rfl ?_
   refine .inl ⟨h,rfl,?_,?_⟩
   ·have hr4:Rd w4 p (List.drop 6 (a::b::c::d::e::f::r)):=Bk.keep hR3 hf4 (by unfold aJ;omega)
    have hne:p≠w.heap.size:=by omega
    exact(((((Bk.far hr4 (p:=⟨w.heap.size,0,none⟩) hne _).far (p:=⟨w.heap.size,1,none⟩) hne _).far (p:=⟨w.heap.size,2,none⟩) hne _).far (p:=⟨w.heap.size,3,none⟩) hne _).far (p:=⟨w.heap.size,4,none⟩) hne _).far (p:=⟨w.heap.size,5,none⟩) hne _
   ·exact(((((h0.setCell (p:=⟨w.heap.size,0,none⟩) (fun x=>absurd x (Nat.lt_irrefl _)) _).setCell (p:=⟨w.heap.size,1,none⟩) (fun x=>absurd x (Nat.lt_irrefl _)) _).setCell (p:=⟨w.heap.size,2,none⟩) (fun x=>absurd x (Nat.lt_irrefl _)) _).setCell (p:=⟨w.heap.size,3,none⟩) (fun x=>absurd x (Nat.lt_irrefl _)) _).setCell (p:=⟨w.heap.size,4,none⟩) (fun x=>absurd x (Nat.lt_irrefl _)) _).setCell (p:=⟨w.heap.size,5,none⟩) (fun x=>absurd x (Nat.lt_irrefl _)) _
 ·have hR2:Rd ((w.alloc (.cells fA 26)).alloc (.cells fA 26)) p l:=Bk.alloc (Bk.alloc hR _) _
  have hf2:Fr noB w ((w.alloc (.cells fA 26)).alloc (.cells fA 26)):=((Fr.refl _ _).alloc _).alloc _
  go_enter Tryz.func102,Tryz.ntmps102
  go_wp2_with fail
  unfold fA at hR2 hf2
  generalize(w.alloc (.cells #[.int .u8 0,.int .u8 0,.int .u8 0,.int .u8 0,.int .u8 0,.int .u8 0] 26)).alloc (.cells #[.int .u8 0,.int .u8 0,.int .u8 0,.int .u8 0,.int .u8 0,.int .u8 0] 26)=w2 at*
  have hend:∀w3,Fr (aJ p) w2.drew w3→Bn p l 6 w (xQ (fX l)) (.panicked (cP 1)) w3:=fun w3 hf3=> .inr ⟨by omega,rfl,(hf2.of_no (aJ p)).drew.trans hf3⟩
  refine rK (by kernel_rfl) (by kernel_rfl) (by kernel_rfl)
   (fun u=>⟨#[.pointer (some ⟨p,0,none⟩),undef,.pointer (some ⟨w.heap.size,0,none⟩),.pointer (some ⟨w.heap.size+1,0,none⟩),u 0,u 1,u 2,u 3,undef],[]⟩)
   (fun j v _=>match j with|1=>v= .pointer (some ⟨p,0,none⟩)|_=>True)
   (fun L w3=>L 2=false∧w3=w2.drew) (fun _=>undef) ⟨rfl,rfl⟩ ?_ ?_
  ·rintro L u w3 i o ⟨hL2,rfl⟩ hΦ ho hL hd K hK
   match i,ho with
   |0,ho=>
    simp at ho;subst ho
    go_simp
    exact hK (.slice (some ⟨w.heap.size+1,0,none⟩) 6 6) _ trivial ⟨hL2,rfl⟩ (fun _ _ _ h=>h)
   |1,ho=>
    simp at ho;subst ho
    go_simp
    exact hK (.pointer (some ⟨p,0,none⟩)) _ rfl ⟨hL2,rfl⟩ (fun _ _ _ h=>h)
   |2,ho=>
    simp at ho;subst ho
    have hL1:L 1=true:=hd ⟨1,.data⟩ (by simp) (by rfl)
    have hu1:u 1= .pointer (some ⟨p,0,none⟩):=hΦ 1 hL1
    clear hΦ hd hK
    go_simp
    refine(Ex 6 p l w2.drew hR2 (by omega) (by omega)).mono ?_
    rintro e w4 ⟨rfl,hf4⟩
    exact⟨rfl,hend _ hf4⟩
   |3,ho=>
    simp at ho;subst ho
    have hL1:L 2=true:=hd ⟨2,.data⟩ (by simp) (by rfl)
    rw[hL2]at hL1;cases hL1
  ·rintro u w3 _ L hall ⟨hL2,_⟩
   rw[hall 2 (by simp)]at hL2;cases hL2
def Cut (l a r:List UInt8) (n:Nat):Prop:=l=a++r∧a.length=n
def FF (p:Nat) (l:List UInt8) (n:Nat) (w:World) (v:List UInt8→Value) (e:Ending) (w':World):Prop:=
 (∃a r,Cut l a r n∧r.length≤9223372036854775807∧e= .returned (v a)∧Rd w' p r∧Fr (aJ p) w w')∨(l.length<n∧e= .panicked (cP 1)∧Fr (aJ p) w w')
theorem Bn.takes {p:Nat} {l:List UInt8} {n:Nat} {w w':World} {v:List UInt8→Value} {e:Ending} (hl:l.length≤9223372036854775807) (h:Bn p l n w (v (l.take n)) e w'):FF p l n w v e w':=by
 rcases h with⟨h1,h2,h3,h4⟩|h
 ·exact .inl ⟨l.take n,l.drop n,⟨(List.take_append_drop n l).symm,by rw[List.length_take];omega⟩,by rw[List.length_drop];omega,h2,h3,h4⟩
 ·exact .inr h
theorem IC (n p:Nat) (l:List UInt8) (w:World) (hR:Rd w p l) (hn:n≤9223372036854775807) (hl:l.length≤9223372036854775807):
 Calls Tryz.prog 153 #[.pointer (some ⟨p,0,none⟩),.int .i64 n] w (FF p l n w fun a=> .string (bs a)):=
 (Bh n p l w hR hn hl).mono fun _ _ h=>h.takes hl
theorem tU8 (p:Nat) (l:List UInt8) (w:World) (hR:Rd w p l) (hl:l.length≤9223372036854775807):
 Calls Tryz.prog 161 #[.pointer (some ⟨p,0,none⟩)] w (FF p l 1 w fun a=> .int .u8 (num a)):=
 (rU8 p l w hR hl).mono fun _ _ h=>Bn.takes (v:=fun a=> .int .u8 (num a)) hl h
end Go.Proofs.YtcllkmllflheiaaGreatDoor
namespace Go.Proofs.YtcllkmllflheiaaGreatDoor
open Go.RowKit Go.Proofs
def EI (a b:Nat):Nat→Prop:=fun k=>k=a∨k=b
theorem DT (er:Int) (w:World):(Instr.typeAssert (.iface 214 (.agg #[.int .i64 er])) 20 214 true).run Tryz.prog w= .ok (.tuple #[.agg #[.int .i64 er],.bool true]) w:=by kernel_rfl
def DN (z:Array Value) (ok:Array Value→Prop) (bad:Int→Prop) (w:World) (e:Ending) (w':World):Prop:=
 ((∃x,ok x∧e= .returned (.tuple #[.agg x,.int .i64 0]))∨(∃er,bad er∧e= .returned (.tuple #[.agg z,.int .i64 er])))∧Fr noB w w'
def iJ (ok:Array Value→Prop) (bad:Int→Prop) (p:Nat) (w:World) (e:Ending) (w':World):Prop:=
 ((∃x,ok x∧e= .returned (.agg x))∨(∃er,bad er∧e= .panicked (cP er)))∧Fr (aJ p) w w'
theorem iR {P:Program} {fn:Func} {p q:Tmp} {ty te:TypeId} (h:fn.results= #[.cell p ty,.cell q te]) (tmps:Array Value) (w:World) (g ge:Nat) (t t2:TypeId) (cs:Array Value) (n:Int) (d:TypeDesc) (k:IntKind)
 (hp:tmps.getD p undef= .pointer (some ⟨g,0,none⟩)) (hq:tmps.getD q undef= .pointer (some ⟨ge,0,none⟩)) (hg:Bk w g t cs) (he:Bk w ge t2 #[.int .i64 n])
 (hu:P.underlying ty=some d) (hd:(match d with| .struct _| .array _ _=>true|_=>false)=true) (hi:(P.info? ty).map (·.size)=some cs.size) (hue:P.underlying te=some (.int k)):
 (results fn tmps).run P w= .ok (.tuple #[.agg cs,.int .i64 n]) w:=by
 have hp':tmps[p]?.getD undef= .pointer (some ⟨g,0,none⟩):=by simpa using hp
 have hq':tmps[q]?.getD undef= .pointer (some ⟨ge,0,none⟩):=by simpa using hq
 have hc:=he.cells
 have h1:=run_loadVar_row w g t ty cs (0,0) d hg hu hd hi
 have h2:(loadVar te ⟨ge,0,none⟩).run P w= .ok (.int .i64 n) w:=by
  have hc0:=hc 0
  simp at hc0
  simp[go_sem,isAgg,run_underlying hue,hc0]
 simp[results,h,hp',hq',asAddr,h1,h2]
theorem bZ {P:Program} {fn:Func} {p q:Tmp} {ty:TypeId} (h:fn.results= #[.cell p ty,.tmp q]) (tmps:Array Value) (w:World) (g:Nat) (t:TypeId) (cs:Array Value) (v:Value) (d:TypeDesc)
 (hp:tmps.getD p undef= .pointer (some ⟨g,0,none⟩)) (hq:tmps.getD q undef=v) (hg:Bk w g t cs)
 (hu:P.underlying ty=some d) (hd:(match d with| .struct _| .array _ _=>true|_=>false)=true) (hi:(P.info? ty).map (·.size)=some cs.size):
 (results fn tmps).run P w= .ok (.tuple #[.agg cs,v]) w:=by
 have hp':tmps[p]?.getD undef= .pointer (some ⟨g,0,none⟩):=by simpa using hp
 have hq':tmps[q]?.getD undef=v:=by simpa using hq
 have h1:=run_loadVar_row w g t ty cs (0,0) d hg hu hd hi
 simp[results,h,hp',hq',asAddr,h1]
end Go.Proofs.YtcllkmllflheiaaGreatDoor
namespace Go.Proofs.YtcllkmllflheiaaGreatDoor
open Go.RowKit Go.Proofs
def orB (p:Nat) (S:Nat→Prop):Nat→Prop:=fun k=>k=p∨S k
def tG (S:Nat→Prop) (ok:Value→World→Prop) (bad:Int→Prop) (p:Nat) (w:World) (e:Ending) (w':World):Prop:=
 ((∃x,ok x w'∧e= .returned x)∨(∃er,bad er∧e= .panicked (cP er)))∧Fr (orB p S) w w'
def BY (z:Value) (S:Nat→Prop) (ok:Value→World→Prop) (bad:Int→Prop) (w:World) (e:Ending) (w':World):Prop:=
 ((∃x,ok x w'∧e= .returned (.tuple #[x,.int .i64 0]))∨(∃er,bad er∧e= .returned (.tuple #[z,.int .i64 er])))∧Fr S w w'
theorem iV {P:Program} {fn:Func} {p q:Tmp} {ty te:TypeId} (h:fn.results= #[.cell p ty,.cell q te]) (tmps:Array Value) (w:World) (g ge:Nat) (t t2:TypeId) (m n:Int) (k0 k:IntKind)
 (hp:tmps.getD p undef= .pointer (some ⟨g,0,none⟩)) (hq:tmps.getD q undef= .pointer (some ⟨ge,0,none⟩)) (hg:Bk w g t #[.int k0 m]) (he:Bk w ge t2 #[.int .i64 n])
 (hu:P.underlying ty=some (.int k0)) (hue:P.underlying te=some (.int k)):
 (results fn tmps).run P w= .ok (.tuple #[.int k0 m,.int .i64 n]) w:=by
 have hp':tmps[p]?.getD undef= .pointer (some ⟨g,0,none⟩):=by simpa using hp
 have hq':tmps[q]?.getD undef= .pointer (some ⟨ge,0,none⟩):=by simpa using hq
 have hc:=he.cells
 have hc1:=hg.cells
 have h1:(loadVar ty ⟨g,0,none⟩).run P w= .ok (.int k0 m) w:=by
  have hc0:=hc1 0
  simp at hc0
  simp[go_sem,isAgg,run_underlying hu,hc0]
 have h2:(loadVar te ⟨ge,0,none⟩).run P w= .ok (.int .i64 n) w:=by
  have hc0:=hc 0
  simp at hc0
  simp[go_sem,isAgg,run_underlying hue,hc0]
 simp[results,h,hp',hq',asAddr,h1,h2]
end Go.Proofs.YtcllkmllflheiaaGreatDoor
namespace Go.Proofs.YtcllkmllflheiaaGreatDoor
open Go.RowKit Go.Proofs
attribute [local go_sem] aG aD aE
def rdF:Nat→Nat
 |0=>156
 |1=>100
 |2=>159
 |3=>163
 |4=>201
 |5=>208
 |6=>231
 |_=>206
def rdC:Nat→Nat
 |0=>198
 |1=>152
 |2=>199
 |3=>200
 |4=>229
 |5=>234
 |6=>251
 |_=>233
def rdT:Nat→Nat
 |0=>125
 |1=>118
 |2=>130
 |3=>134
 |4=>139
 |5=>145
 |6=>3
 |_=>50
def rdZ:Nat→Array Value
 |0=> #[.int .u16 0,.int .u8 0,.int .u8 0,.int .u8 0,.int .u8 0,.int .u8 0,.int .u8 0,.int .u32 0,.int .u8 0,.int .u8 0,.int .u8 0,.int .u8 0,.int .u8 0,.int .u8 0,.int .u32 0]
 |1=> #[.int .u8 0,.int .u8 0,.int .u8 0,.int .u8 0,.int .u8 0,.int .u8 0,.int .u8 0,.int .u8 0,.int .u8 0,.int .u8 0,.int .u8 0,.int .u8 0,.int .u16 0,.string ⟨#[]⟩]
 |2=> #[.int .u16 0,.int .u8 0,.int .u8 0,.int .u32 0,.int .u32 0,.string ⟨#[]⟩]
 |3=> #[.int .u16 0,.int .u16 0,.string ⟨#[]⟩]
 |4=> #[.bool false,.int .u32 0,.int .u32 0,.int .u32 0,.int .u32 0,.int .u8 0,.int .u8 0,.int .u8 0,.int .u8 0,.int .u8 0,.int .u8 0,.slice none 0 0]
 |5=> #[.int .u16 0,.int .u16 0,.string ⟨#[]⟩,.string ⟨#[]⟩,.slice none 0 0]
 |6=> #[.int .i64 0]
 |_=> #[.int .u32 0]
def rdV (k:Nat):Value:=if k<6 then .agg (rdZ k)else(rdZ k).getD 0 undef
def rdX (k:Nat) (x:Value) (c:Array Value):Prop:=if k<6 then x= .agg c∧c.size=(rdZ k).size∧c.all (·.oneCell')=true else c= #[x]∧∃n,x=if k=6 then .int .i64 n else .int .u32 n
theorem rd8 {k:Nat} (h:k<8):k=0∨k=1∨k=2∨k=3∨k=4∨k=5∨k=6∨k=7:=by omega
theorem JF {P:Program} {c:Code} {K:Exit→Act→World→Prop} {w:World} {n:Nat} {a:Act} (l:List (Nat×Value)) (hs:Sz n a) (hl:∀x∈l,sl a x.1=x.2) (h:cw P c K (F n (sl a) l) w):c.wp P K a w:=
 rgF (X:=True) l trivial hs hl (fun _ _=>h) rfl
theorem HD (k:Nat) (hk:k<8) (gx ge:Nat) (er:Int) (w:World) (hx:Bk w gx (rdT k) (rdZ k)) (he:Bk w ge 58 #[.int .i64 0]) (hne:gx≠ge):
 CallsD Tryz.prog (rdC k) #[.pointer (some ⟨gx,0,none⟩),.pointer (some ⟨ge,0,none⟩)] (.panicking (cP er)) w fun r u' w'=>
  r= .returned (.tuple #[])∧u'= .panicking [{v:= .iface 214 (.agg #[.int .i64 er]),recovered:=true}]∧Bk w' gx (rdT k) (rdZ k)∧Bk w' ge 58 #[.int .i64 er]∧Fr (EI gx ge) w w':=by
 have hta:=DT er
 have hgx:=hx.lt
 have hge:=he.lt
 rcases rd8 hk with h|h|h|h|h|h|h|h
 all_goals(
  first|(have e:k=0:=h;have hf:=Tryz.func198;have hn:=Tryz.ntmps198;have hr:=Tryz.results198)|(have e:k=1:=h;have hf:=Tryz.func152;have hn:=Tryz.ntmps152;have hr:=Tryz.results152)|(have e:k=2:=h;have hf:=Tryz.func199;have hn:=Tryz.ntmps199;have hr:=Tryz.results199)|(have e:k=3:=h;have hf:=Tryz.func200;have hn:=Tryz.ntmps200;have hr:=Tryz.results200)|(have e:k=4:=h;have hf:=Tryz.func229;have hn:=Tryz.ntmps229;have hr:=Tryz.results229)|(have e:k=5:=h;have hf:=Tryz.func234;have hn:=Tryz.ntmps234;have hr:=Tryz.results234)|(have e:k=6:=h;have hf:=Tryz.func251;have hn:=Tryz.ntmps251;have hr:=Tryz.results251)|(have e:k=7:=h;have hf:=Tryz.func233;have hn:=Tryz.ntmps233;have hr:=Tryz.results233)
  subst h
  simp only[rdT,rdZ]at hx⊢
  refine callsD_of_wpS hf rfl fun c₀ cs hu=> ?_
  apply wpS_seq
  apply wpS_region
  simp[wpOpsS,go_sem,recoverD,hu,hn,Exit.thenS,cP]
  refine wpS_of_wp ?_
  refine JF (n:=15) [(0,.pointer (some ⟨gx,0,none⟩)),(1,.pointer (some ⟨ge,0,none⟩)),(6,.iface 214 (.agg #[.int .i64 er]))] ⟨by simp,rfl⟩ (by simp[sl]) ?_
  refine W ?_
  refine sA ?_
  intro w1 hf1 f1
  refine W ?_
  refine sT ?_
  intro w2 hf2 f2
  refine W ?_
  have hx:=(hx.keep f1 id).keep f2 (by unfold aJ;omega)
  have he:=(he.keep f1 id).keep f2 (by unfold aJ;omega)
  have f:Fr noB w w2:=f1.trans' f2 fun b hb e=>by unfold aJ at e;omega
  have hl2:=hf2.lt
  generalize w.heap.size=gf at*
  first
  |(refine sA ?_
    intro w3 hz f3
    have hx:=hx.keep f3 id
    have he:=he.keep f3 id
    have hf2:=hf2.keep f3 id
    have f:=f.trans f3
    generalize w2.heap.size=gz at*
    refine W ?_
    clear f1 f2 f3
    refine dI (An hf2 (An hz (f.of_no (EI gx ge)))) [4] (up 5 0) (h:= ?_)
    rintro w4 ⟨hf2,hz,f⟩ k4
    have hx:=hx.keep k4 id
    have he:=he.keep k4 id
    refine D ?_
    refine dZ2 ?_
    intro w5 hx f5
    have he:=he.keep f5 (by unfold aJ;omega)
    have f:=f.trans' f5 fun b hb e=> .inl e
    refine⟨fun _=>⟨hf2.keep f5 (by unfold aJ;omega),hz.keep f5 (by unfold aJ;omega),f⟩,?_⟩
    refine D ?_
    refine dZn ?_ he
    intro w6 he f6
    refine⟨nofun,?_⟩
    refine D ?_
    exact⟨rfl,_,rfl,.tuple #[],by simp[results,hr],rfl,rfl,hx.keep f6 (by unfold aJ;omega),he,f.trans' f6 fun b hb e=> .inr e⟩)
  |(refine W ?_
    refine dI (An hf2 (f.of_no (EI gx ge))) [4] (up 5 0) (h:= ?_)
    rintro w4 ⟨hf2,f⟩ k4
    have hx:=hx.keep k4 id
    have he:=he.keep k4 id
    refine D ?_
    refine dZn ?_ hx
    intro w5 hx f5
    have he:=he.keep f5 (by unfold aJ;omega)
    have f:=f.trans' f5 fun b hb e=> .inl e
    refine⟨fun _=>⟨hf2.keep f5 (by unfold aJ;omega),f⟩,?_⟩
    refine D ?_
    refine dZn ?_ he
    intro w6 he f6
    refine⟨nofun,?_⟩
    refine D ?_
    exact⟨rfl,_,rfl,.tuple #[],by simp[results,hr],rfl,rfl,hx.keep f6 (by unfold aJ;omega),he,f.trans' f6 fun b hb e=> .inr e⟩))
theorem IO (k:Nat) (hk:k<8) (gx ge:Nat) (w:World):
 CallsD Tryz.prog (rdC k) #[.pointer (some ⟨gx,0,none⟩),.pointer (some ⟨ge,0,none⟩)] .returning w fun r u' w'=>
  r= .returned (.tuple #[])∧u'= .returning∧w'=w:=by
 rcases rd8 hk with h|h|h|h|h|h|h|h
 all_goals(
  first|(have e:k=0:=h;have hf:=Tryz.func198;have hn:=Tryz.ntmps198;have hr:=Tryz.results198)|(have e:k=1:=h;have hf:=Tryz.func152;have hn:=Tryz.ntmps152;have hr:=Tryz.results152)|(have e:k=2:=h;have hf:=Tryz.func199;have hn:=Tryz.ntmps199;have hr:=Tryz.results199)|(have e:k=3:=h;have hf:=Tryz.func200;have hn:=Tryz.ntmps200;have hr:=Tryz.results200)|(have e:k=4:=h;have hf:=Tryz.func229;have hn:=Tryz.ntmps229;have hr:=Tryz.results229)|(have e:k=5:=h;have hf:=Tryz.func234;have hn:=Tryz.ntmps234;have hr:=Tryz.results234)|(have e:k=6:=h;have hf:=Tryz.func251;have hn:=Tryz.ntmps251;have hr:=Tryz.results251)|(have e:k=7:=h;have hf:=Tryz.func233;have hn:=Tryz.ntmps233;have hr:=Tryz.results233)
  subst h
  refine callsD_of_wpS hf rfl fun c₀ cs hu=> ?_
  apply wpS_seq
  apply wpS_region
  simp[wpOpsS,go_sem,recoverD,hu,hn,Exit.thenS]
  refine wpS_of_wp ?_
  refine JF (n:=15) [(0,.pointer (some ⟨gx,0,none⟩)),(1,.pointer (some ⟨ge,0,none⟩)),(6,.nilIface)] ⟨by simp,rfl⟩ (by simp[sl]) ?_
  refine W ?_
  cases c₀
  simp at hu
  simp[Exit.inBlock,bodyPostS,results,hr,hu])
theorem al3 (w:World) (c1:Array Value) (t1:TypeId) (c2:Array Value) (t2:TypeId) (c3:Array Value) (t3:TypeId):∃w1,((w.alloc (.cells c1 t1)).alloc (.cells c2 t2)).alloc (.cells c3 t3)=w1∧Bk w1 w.heap.size t1 c1∧Bk w1 (w.heap.size+1) t2 c2∧Bk w1 (w.heap.size+2) t3 c3∧Fr noB w w1:=by
 refine⟨_,rfl,((Bk.new w t1 c1).alloc _).alloc _,?_,?_,(((Fr.refl _ _).alloc _).alloc _).alloc _⟩
 ·have h:=(Bk.new (w.alloc (.cells c1 t1)) t2 c2).alloc (.cells c3 t3)
  rwa [show(w.alloc (.cells c1 t1)).heap.size=w.heap.size+1 by simp]at h
 ·have h:=Bk.new ((w.alloc (.cells c1 t1)).alloc (.cells c2 t2)) t3 c3
  rwa [show((w.alloc (.cells c1 t1)).alloc (.cells c2 t2)).heap.size=w.heap.size+2 by simp]at h
theorem pM {P:Program} {ops:Array Oper} {rest:List Oper} {o:Oper} {a:Act} {w:World} {Q:Exit→Act→World→Prop} {g:Nat} {t:TypeId} {v0 v:Value} {r:Result Next} (hgd:o.guard=none) (hb:Bk w g t #[v0])
 (hv:(execOp a.eval o).run P w=r) (hr:r= .ok .skip (w.setCell ⟨g,0,none⟩ v)) (h:∀w',Bk w' g t #[v]→Fr (aJ g) w w'→wpList P ops Q rest (a.put o.dst undef) w'):wpList P ops Q (o::rest) a w:=
 wpList_plain hgd fun K hK=>by
  unfold Oper.wp
  rw[hv,hr]
  exact hK _ _ (h _ (hb.set 0 v) ((Fr.refl (aJ g) w).setCell (p:=⟨g,0,none⟩) (fun _=>rfl) v))
theorem Dw (k:Nat) (hk:k<8) (l:List UInt8) (w:World) (g:Nat) (cp:Array Value) (S:Nat→Prop) (ok:Value→World→Prop) (bad:Int→Prop) (hS:∀k,w.heap.size≤k→k<w.heap.size+2→¬S k)
 (hok:∀x w1,ok x w1→∃c,rdX k x c) (hst:∀x w1 w2,ok x w1→Fr (EI w.heap.size (w.heap.size+1)) w1 w2→ok x w2)
 (hby:∀(p:Nat) (w1:World),p=w.heap.size+2→Rd w1 p l→Fr noB w w1→Calls Tryz.prog g (#[.pointer (some ⟨p,0,none⟩)]++cp) w1 (tG S ok bad p w1)) (hg:∀xs w1,(callFunc g xs).run Tryz.prog w1= .ok (.enter g xs) w1:=by intro _ _;kernel_rfl):
 Calls Tryz.prog (rdF k) #[.string (bs l),.func (.func g) #[] cp] w (BY (rdV k) S ok bad w):=by
 have hmf:∀(fn:Fn) (first cap:Array Value) (w:World),(Instr.makeFunc fn first cap).run Tryz.prog w= .ok (.func fn first cap) w:=fun _ _ _ _=>rfl
 rcases rd8 hk with h|h|h|h|h|h|h|h
 all_goals(
  first|(have e:k=0:=h;have hf:=Tryz.func156;have hn:=Tryz.ntmps156;have hr:=Tryz.results156;have hu:=Tryz.underlying125)|(have e:k=1:=h;have hf:=Tryz.func100;have hn:=Tryz.ntmps100;have hr:=Tryz.results100;have hu:=Tryz.underlying118)|(have e:k=2:=h;have hf:=Tryz.func159;have hn:=Tryz.ntmps159;have hr:=Tryz.results159;have hu:=Tryz.underlying130)|(have e:k=3:=h;have hf:=Tryz.func163;have hn:=Tryz.ntmps163;have hr:=Tryz.results163;have hu:=Tryz.underlying134)|(have e:k=4:=h;have hf:=Tryz.func201;have hn:=Tryz.ntmps201;have hr:=Tryz.results201;have hu:=Tryz.underlying139)|(have e:k=5:=h;have hf:=Tryz.func208;have hn:=Tryz.ntmps208;have hr:=Tryz.results208;have hu:=Tryz.underlying145)|(have e:k=6:=h;have hf:=Tryz.func231;have hn:=Tryz.ntmps231;have hr:=Tryz.results231;have hu:=Tryz.underlying3)|(have e:k=7:=h;have hf:=Tryz.func206;have hn:=Tryz.ntmps206;have hr:=Tryz.results206;have hu:=Tryz.underlying50)
  obtain⟨k0,hk0⟩:∃k0,k0=k:=⟨_,rfl⟩
  subst h
  go_enter_defers hf,hn
  have Hby:=Lib.hid hby
  have Hok:=Lib.hid hok
  have Hst:=Lib.hid hst
  have HS:=Lib.hid hS
  clear hby hok hst hS
  go_wp2_with fail
  obtain⟨w1,e,hx0,he0,hr0,hf0⟩:=al3 w (rdZ k0) (rdT k0) #[.int .i64 0] 58 #[.string (bs l)] 216
  have e':=e
  simp only[hk0,rdZ,rdT]at e'
  rw[e']
  refine(Hby.out _ w1 rfl hr0 hf0).mono ?_
  have HX:¬orB (w.heap.size+2) S w.heap.size:=by rintro(h|h);omega;exact HS.out _ (by omega) (by omega) h
  have HE:¬orB (w.heap.size+2) S (w.heap.size+1):=by rintro(h|h);omega;exact HS.out _ (by omega) (by omega) h
  rintro e w2 ⟨⟨x0,hx,rfl⟩|⟨er,hbad,rfl⟩,hf1⟩
  ·have hx1:=hx0.keep hf1 HX
   have he1:=he0.keep hf1 HE
   obtain⟨c,hc⟩:=Hok.out x0 w2 hx
   have hx1:Bk w2 w.heap.size _ (rdZ k0):=hx1
   have hfin:∀w4,Fr (EI w.heap.size (w.heap.size+1)) w2 w4→Fr S w w4:=fun w4 f4=>((hf0.of_no S).trans' hf1 (by rintro b hb (e|e);omega;exact e)).trans' f4 (by intro b hb e;unfold EI at e;omega)
   unfold rdX at hc
   first
   |(rw[if_pos (by decide)]at hc
     obtain⟨rfl,hsx,hox⟩:=hc
     have hix:(Tryz.prog.info? (rdT k0)).map (·.size)=some c.size:=by rw[hsx,hk0];kernel_rfl
     have Hsx:=Lib.hid hsx
     have Hox:=Lib.hid hox
     have Hix:=Lib.hid hix
     clear hsx hox hix
     subst hk0
     go_wp2_with ((refine aP rfl _ (.tmp 4) (.tmp 11) rfl w.heap.size _ _ c rfl rfl hx1 Hsx.out Hix.out Hox.out ?_);intro w3 hx3 hf3;have he3:=he1.keep hf3 (by unfold aJ;omega);have hc3:=he3.cells;have hz3:=he3.frees))
   |(rw[if_neg (by decide)]at hc
     obtain⟨rfl,n,rfl⟩:=hc
     subst hk0
     simp only[reduceIte,Nat.reduceEqDiff]at hx⊢
     simp only[rdZ]at hx1
     have hc1:=hx1.cells
     have hz1:=hx1.frees
     go_wp2_with ((refine pM rfl hx1 (by go_simp;((try with_reducible rfl);done)) rfl ?_);intro w3 hx3 hf3;have he3:=he1.keep hf3 (by unfold aJ;omega);have hc3:=he3.cells;have hz3:=he3.frees))
   have hb3:=he3.set 0 (.int .i64 0)
   have hx4:=hx3.far (p:=⟨w.heap.size+1,0,none⟩) (by simp) (.int .i64 0)
   have hf4:Fr (EI w.heap.size (w.heap.size+1)) w2 (w3.setCell ⟨w.heap.size+1,0,none⟩ (.int .i64 0)):=(hf3.mono fun b _ e=> .inl e).setCell (p:=⟨w.heap.size+1,0,none⟩) (fun _=> .inr rfl) _
   generalize w3.setCell ⟨w.heap.size+1,0,none⟩ (.int .i64 0)=w4 at*
   refine leaves_cons (args:= #[.pointer (some ⟨w.heap.size,0,none⟩),.pointer (some ⟨w.heap.size+1,0,none⟩)]) (by simp) (by simp[go_sem];rfl) ?_
   refine(IO _ hk _ _ _).mono ?_
   rintro e u' w5 ⟨rfl,rfl,rfl⟩
   refine⟨.tuple #[_,.int .i64 0],?_,⟨.inl ⟨_,Hst.out _ _ _ hx hf4,rfl⟩,hfin _ hf4⟩⟩
   first
   |exact iR hr _ w5 w.heap.size (w.heap.size+1) _ _ _ 0 _ _ rfl rfl hx4 hb3 hu rfl Hix.out Tryz.underlying58
   |exact iV hr _ w5 w.heap.size (w.heap.size+1) _ _ _ 0 _ _ rfl rfl hx4 hb3 hu Tryz.underlying58
  ·have hx1:=hx0.keep hf1 HX
   have he1:=he0.keep hf1 HE
   have hfin:Fr S w w2:=(hf0.of_no S).trans' hf1 (by rintro b hb (e|e);omega;exact e)
   subst hk0
   have hcat:=HD _ hk w.heap.size (w.heap.size+1) er w2 hx1 he1 (by omega)
   refine leaves_cons (args:= #[.pointer (some ⟨w.heap.size,0,none⟩),.pointer (some ⟨w.heap.size+1,0,none⟩)]) (by simp) (by simp[go_sem];rfl) ?_
   refine hcat.mono ?_
   rintro e u' w5 ⟨rfl,rfl,hx5,he5,hf5⟩
   refine⟨.tuple #[rdV _,.int .i64 er],?_,⟨.inr ⟨er,hbad,rfl⟩,hfin.trans' hf5 (by intro b hb e;unfold EI at e;omega)⟩⟩
   first
   |exact iR hr _ w5 w.heap.size (w.heap.size+1) _ _ _ er _ _ rfl rfl hx5 he5 hu rfl (by kernel_rfl) Tryz.underlying58
   |exact iV hr _ w5 w.heap.size (w.heap.size+1) _ _ _ er _ _ rfl rfl hx5 he5 hu Tryz.underlying58)
theorem Em (k:Nat) (hk:k<6) (l:List UInt8) (w:World) (g:Nat) (cp:Array Value) (ok:Array Value→Prop) (bad:Int→Prop) (hok:∀c,ok c→c.size=(rdZ k).size∧c.all (·.oneCell')=true)
 (hby:∀(p:Nat) (w1:World),w.heap.size≤p→Rd w1 p l→Fr noB w w1→Calls Tryz.prog g (#[.pointer (some ⟨p,0,none⟩)]++cp) w1 (iJ ok bad p w1)) (hg:∀xs w1,(callFunc g xs).run Tryz.prog w1= .ok (.enter g xs) w1:=by intro _ _;kernel_rfl):
 Calls Tryz.prog (rdF k) #[.string (bs l),.func (.func g) #[] cp] w (DN (rdZ k) ok bad w):=by
 refine(Dw k (by omega) l w g cp noB (fun x _=>∃c,ok c∧x= .agg c) bad (fun _ _ _ x=>x) (fun x _ ⟨c,h,e⟩=>⟨c,by unfold rdX;rw[if_pos hk];exact⟨e,hok c h⟩⟩) (fun _ _ _ h _=>h) (fun p w1 hp hR hf=>(hby p w1 (by omega) hR hf).mono ?_) hg).mono ?_
 ·rintro e w' ⟨⟨x,hx,rfl⟩|h,f⟩
  ·exact⟨.inl ⟨_,⟨x,hx,rfl⟩,rfl⟩,f.mono fun _ _ e=> .inl e⟩
  ·exact⟨.inr h,f.mono fun _ _ e=> .inl e⟩
 ·rintro e w' ⟨⟨_,⟨x,hx,rfl⟩,rfl⟩|⟨er,h,rfl⟩,f⟩
  ·exact⟨.inl ⟨x,hx,rfl⟩,f⟩
  ·exact⟨.inr ⟨er,h,by unfold rdV;rw[if_pos hk]⟩,f⟩
end Go.Proofs.YtcllkmllflheiaaGreatDoor
namespace Go.Proofs.YtcllkmllflheiaaGreatDoor
open Go.RowKit Go.Proofs
attribute [local go_sem] aG aD aE
theorem J0 (p:Nat) (l:List UInt8) (w:World) (hR:Rd w p l):
 Calls Tryz.prog 105 #[.pointer (some ⟨p,0,none⟩)] w fun e w'=>e= .returned (.int .i64 l.length)∧w=w':=by
 have hc0:w.cell? ⟨p,0,none⟩=some (.string (bs l)):=by simpa using Bk.cell hR 0
 go_enter Tryz.func105,Tryz.ntmps105
 go_wp2_with fail
 go_ret
 exact⟨rfl,rfl⟩
theorem I7 (p:Nat) (l:List UInt8) (w:World) (hR:Rd w p l) (hl:l.length≤9223372036854775807):
 Calls Tryz.prog 106 #[.pointer (some ⟨p,0,none⟩)] w fun e w'=>e= .returned (.string (bs l))∧Rd w' p []∧Fr (aJ p) w w':=by
 have hc0:w.cell? ⟨p,0,none⟩=some (.string (bs l)):=by simpa using Bk.cell hR 0
 go_enter Tryz.func106,Tryz.ntmps106
 go_wp2_with fail
 refine(Bh l.length p l _ hR hl hl).mono ?_
 rintro e w1 (⟨hle,rfl,hR1,hf1⟩|⟨hlt,rfl,hf1⟩)
 ·rw[List.take_length]
  rw[List.drop_length]at hR1
  go_wp2_with fail
  go_ret
  exact⟨rfl,hR1,hf1⟩
 ·omega
end Go.Proofs.YtcllkmllflheiaaGreatDoor
namespace Go.Proofs.YtcllkmllflheiaaGreatDoor
open Go.RowKit Go.Proofs
structure RA (p:Nat) (l:List UInt8) (n:Nat) (w0:World) (B:List (Nat×TypeId×Array Value)) (w:World):Prop where
 rd:Rd w p (l.drop n)
 fr:Fr (aJ p) w0 w
 bk:∀x∈B,x.1≠p∧Bk w x.1 x.2.1 x.2.2
section
variable {p n k g:Nat} {l:List UInt8} {w0 w w':World} {B:List (Nat×TypeId×Array Value)} {t:TypeId} {cs cs':Array Value}
theorem RA.at_ {x:Nat×TypeId×Array Value} (h:RA p l n w0 B w) (i:Nat) (hi:B[i]? =some x:=by rfl):Bk w x.1 x.2.1 x.2.2:=(h.bk x (List.mem_of_getElem? hi)).2
theorem RA.none (h:RA p l n w0 B w) (f:Fr noB w w'):RA p l n w0 B w':=⟨Bk.keep h.rd f id,h.fr.none f,fun x hx=>⟨(h.bk x hx).1,(h.bk x hx).2.keep f id⟩⟩
theorem RA.new (h:RA p l n w0 B w) (hb:Bk w' w.heap.size t cs) (f:Fr noB w w'):RA p l n w0 ((w.heap.size,t,cs)::B) w':=
 ⟨(h.none f).rd,(h.none f).fr,List.forall_mem_cons.2 ⟨⟨by have:=Bk.lt h.rd;exact(by omega:w.heap.size≠p),hb⟩,(h.none f).bk⟩⟩
theorem RA.put (h:RA p l n w0 ((g,t,cs)::B) w) (hb:Bk w' g t cs') (f:Fr (aJ g) w w') (hg:w0.heap.size≤g) (hB:∀x∈B,x.1≠g):RA p l n w0 ((g,t,cs')::B) w':=
 ⟨Bk.keep h.rd f (fun e=>(h.bk _ (.head _)).1 e.symm),h.fr.trans' f (fun b hb e=>by have e':b=g:=e;omega),List.forall_mem_cons.2 ⟨⟨(h.bk _ (.head _)).1,hb⟩,fun x hx=>⟨(h.bk x (.tail _ hx)).1,(h.bk x (.tail _ hx)).2.keep f (fun e=>hB x hx e)⟩⟩⟩
theorem RA.go (h:RA p l n w0 B w) (hr:Rd w' p ((l.drop n).drop k)) (f:Fr (aJ p) w w'):RA p l (n+k) w0 B w':=
 ⟨List.drop_drop .. ▸hr,h.fr.trans f,fun x hx=>⟨(h.bk x hx).1,(h.bk x hx).2.keep f (h.bk x hx).1⟩⟩
theorem tV (l:List UInt8) (n k:Nat):(l.drop n).take k=sub l n (n+k):=by unfold sub;rw[List.take_drop]
theorem kW (l:List UInt8) (i j:Nat):num (sub l i j)<256^(j-i):=Nat.lt_of_lt_of_le (nR _) (Nat.pow_le_pow_right (by decide) (iM l i j))
def RT (p:Nat) (l:List UInt8) (n k:Nat) (w0:World) (B:List (Nat×TypeId×Array Value)) (V:Nat→Value) (e:Ending) (w':World):Prop:=
 (n+k≤l.length∧e= .returned (V (n+k))∧RA p l (n+k) w0 B w')∨(l.length<n+k∧e= .panicked (cP 1)∧Fr (aJ p) w0 w')
theorem RA.took {v:Value} {V:Nat→Value} {e:Ending} (h:RA p l n w0 B w) (hn:n≤l.length) (ht:Bn p (l.drop n) k w v e w') (hv:v=V (n+k)):RT p l n k w0 B V e w':=by
 rcases ht with⟨h1,h2,h3,h4⟩|⟨h1,h2,h3⟩<;>rw[List.length_drop]at h1
 ·exact .inl ⟨by omega,hv▸h2,h.go h3 h4⟩
 ·exact .inr ⟨by omega,h2,h.fr.trans h3⟩
theorem RA.small (h:RA p l n w0 B w) (hl:l.length≤9223372036854775807):(l.drop n).length≤9223372036854775807:=by rw[List.length_drop];omega
theorem nU8 (h:RA p l n w0 B w) (hn:n≤l.length) (hl:l.length≤9223372036854775807):Calls Tryz.prog 161 #[.pointer (some ⟨p,0,none⟩)] w (RT p l n 1 w0 B fun m=> .int .u8 (num (sub l n m))):=
 (rU8 p _ w h.rd (h.small hl)).mono fun _ _ ht=>h.took hn ht (by rw[tV])
theorem Dc (h:RA p l n w0 B w) (hn:n≤l.length) (hl:l.length≤9223372036854775807):Calls Tryz.prog 103 #[.pointer (some ⟨p,0,none⟩)] w (RT p l n 2 w0 B fun m=> .int .u16 (num (sub l n m))):=
 (Kk p _ w h.rd (h.small hl)).mono fun _ _ ht=>h.took hn ht (by rw[tV])
theorem nIP (h:RA p l n w0 B w) (hn:n≤l.length) (hl:l.length≤9223372036854775807):Calls Tryz.prog 158 #[.pointer (some ⟨p,0,none⟩)] w (RT p l n 4 w0 B fun m=> .int .u32 (num (sub l n m))):=
 (rIP p _ w h.rd (h.small hl)).mono fun _ _ ht=>h.took hn ht (by rw[tV])
theorem GP (h:RA p l n w0 B w) (hn:n≤l.length) (hl:l.length≤9223372036854775807):Calls Tryz.prog 102 #[.pointer (some ⟨p,0,none⟩)] w (RT p l n 6 w0 B fun _=>xQ (fX (l.drop n))):=
 (K6 p _ w h.rd (h.small hl)).mono fun _ _ ht=>h.took hn ht rfl
theorem oV (k:Nat) (h:RA p l n w0 B w) (hn:n≤l.length) (hl:l.length≤9223372036854775807) (hk:k≤9223372036854775807):Calls Tryz.prog 153 #[.pointer (some ⟨p,0,none⟩),.int .i64 k] w (RT p l n k w0 B fun m=> .string (bs (sub l n m))):=
 (Bh k p _ w h.rd hk (h.small hl)).mono fun _ _ ht=>h.took hn ht (by rw[tV])
end
section
variable {P:Program} {opl:List Oper} {Q:Exit→Act→World→Prop} {rest:List Oper} {N:Nat} {u:Nat→Value} {L:List (Nat×Value)} {w:World} {o:Oper} {d:Nat} {p n k:Nat} {l:List UInt8} {w0:World} {B:List (Nat×TypeId×Array Value)} {V:Nat→Value}
theorem sR (m:Nat) {r:Result Next} {f:FuncId} {xs:Array Value} (hc:Calls P f xs w (RT p l n k w0 B V)) (h:m≤l.length→∀w',RA p l m w0 B w'→wl P opl Q rest (F N u ((d,V m)::L)) w') (hb:∀w',l.length<m→Fr (aJ p) w0 w'→Q (.panic (cP 1)) (F N u L) w':=by intro w' h f;first|exact⟨rfl,HB _ _ h (by decide) f⟩|exact absurd h (by omega)) (hm:n+k=m:=by rfl)
 (hw:Region.wanted o (yielded opl.toArray (F N u L).tmps)=true:=by first|exact aL rfl|exact wg rfl rfl rfl|(refine aM rfl (aI (Lib.hid rfl) rfl) ?_;go_simp<;>fail)) (hd:o.dst=some d:=by rfl) (hv:(execOp (F N u L).eval o).run P w=r:=by go_simp;((try with_reducible rfl);done)) (hr:r= .ok (.enter f xs) w:=by rfl):wl P opl Q (o::rest) (F N u L) w:=by
 subst hm
 refine sZ hc ?_ hw hd hv hr
 rintro e w' (⟨h1,rfl,h2⟩|⟨h1,rfl,h2⟩)
 ·exact h h1 w' h2
 ·exact hb w' h1 h2
theorem sM {r:Result Next} {c:Prop} [Decidable c] {x:Int} {f:FuncId} (hc:Calls P f #[.bool (decide c),.int .i64 x] w (yS (decide c) x w)) (hb:¬c→Q (.panic (cP x)) (F N u L) w) (h:c→wl P opl Q rest (F N u ((d,.tuple #[])::L)) w)
 (hw:Region.wanted o (yielded opl.toArray (F N u L).tmps)=true:=by first|exact aL rfl|exact wg rfl rfl rfl|(refine aM rfl (aI (Lib.hid rfl) rfl) ?_;go_simp<;>fail)) (hd:o.dst=some d:=by rfl) (hv:(execOp (F N u L).eval o).run P w=r:=by go_simp;((try with_reducible rfl);done)) (hr:r= .ok (.enter f #[.bool (decide c),.int .i64 x]) w:=by rfl):wl P opl Q (o::rest) (F N u L) w:=by
 refine sZ hc ?_ hw hd hv hr
 rintro e w' (⟨h1,rfl,rfl⟩|⟨h1,rfl,rfl⟩)
 ·exact h (of_decide_eq_true h1)
 ·exact hb (of_decide_eq_false h1)
theorem sMn {r:Result Next} {x:Int} {f:FuncId} (hc:Calls P f #[.bool false,.int .i64 x] w fun e w'=>e= .panicked (cP x)∧w=w') (hb:Q (.panic (cP x)) (F N u L) w)
 (hw:Region.wanted o (yielded opl.toArray (F N u L).tmps)=true:=by first|exact aL rfl|exact wg rfl rfl rfl|(refine aM rfl (aI (Lib.hid rfl) rfl) ?_;go_simp<;>fail)) (hd:o.dst=some d:=by rfl) (hv:(execOp (F N u L).eval o).run P w=r:=by go_simp;((try with_reducible rfl);done)) (hr:r= .ok (.enter f #[.bool false,.int .i64 x]) w:=by rfl):wl P opl Q (o::rest) (F N u L) w:=by
 refine sZ hc ?_ hw hd hv hr
 rintro e w' ⟨rfl,rfl⟩
 exact hb
theorem zC {fn:Func} {R:Ending→World→Prop} {t:Tmp} {ty t2:TypeId} {g:Nat} {cs:Array Value} {td:TypeDesc} {v:Value} (hB:Bk w g t2 cs) (hu:P.underlying ty=some td) (h:R (.returned (.agg cs)) w) (hr:fn.results= #[.cell t ty]:=by rfl) (hp:(F N u L).tmps.getD t undef=v:=by go_simp;((try with_reducible rfl);done)) (hp':v= .pointer (some ⟨g,0,none⟩):=by rfl)
 (hd:(match td with| .struct _| .array _ _=>true|_=>false)=true:=by rfl) (hi:(P.info? ty).map (·.size)=some cs.size:=by kernel_rfl):bodyPost P fn R .ret (F N u L) w:=by
 refine bodyPost_ret (v:= .agg cs) ?_ rfl h
 have h1:=run_loadVar_row w g t2 ty cs (0,0) td hB hu hd hi
 rw[hp']at hp
 have hp2:(if t<N then gx u L t else undef)= .pointer (some ⟨g,0,none⟩):=by rw[←EH];exact hp
 simp[results,hr,hp2,asAddr,h1]
end
end Go.Proofs.YtcllkmllflheiaaGreatDoor
namespace Go.Proofs.YtcllkmllflheiaaGreatDoor
open Go.RowKit Go.Proofs
attribute [local go_sem] aG aD aE aF
theorem nB (l:List UInt8) (w:World) (hl:l.length≤6):
 Calls Tryz.prog 115 #[.string (bs l)] w fun e w'=>e= .returned (.int .i64 (num l))∧w=w':=by
 go_enter Tryz.func115,Tryz.ntmps115
 go_wp2_with fail
 go_loop [3,4] (fun n i=>∃j:Nat,j≤l.length∧i= .int .i64 j∧n= .int .i64 (num (l.take j):Int)) (fun _ i=>l.length-(intOf i).toNat)
 case atStart=>exact⟨0,by omega,rfl,rfl⟩
 case round=>
  obtain⟨j,hj,rfl,rfl⟩:=hrel
  by_cases hlt:j<l.length
  ·have hb:num (l.take j)<281474976710656:=by
    have h:=nR (l.take j)
    have h2:(l.take j).length≤6:=by rw[List.length_take];omega
    have h3:256^(l.take j).length≤256^6:=Nat.pow_le_pow_right (by omega) h2
    omega
   have Hs:Hid (num (l.take (j+1))=256*num (l.take j)+l[j].toNat):=by
    unfold Hid;rw[List.take_succ_eq_append_getElem hlt,Ag]
   have hgi:∀h:j<(bs l).size,(bs l)[j]'h=l[j]:=fun h=>gW l j h
   have hb8:=l[j].toNat_lt
   generalize num (l.take j)=x at*
   have hb2:(x:Int)≤281474976710656:=by omega
   go_wp2_with fail
   go_round
   case rel=>
    exact⟨j+1,by omega,by go_num,by rw[Hs.out]<;>go_num⟩
   case measure=>simp[intOf];omega
  ·go_wp2_with fail
   go_ret
   obtain rfl:j=l.length:=by omega
   rw[List.take_length]
   exact⟨rfl,rfl⟩
theorem iZ (l:List UInt8) (w:World) (hl:l.length≤4):
 Calls Tryz.prog 116 #[.string (bs l)] w fun e w'=>e= .returned (.int .u32 (num l))∧w=w':=by
 have hb:num l<4294967296:=by
  have h:=nR l
  have h3:256^l.length≤256^4:=Nat.pow_le_pow_right (by omega) hl
  omega
 go_enter Tryz.func116,Tryz.ntmps116
 go_wp2_with fail
 refine(nB l _ (by omega)).mono ?_
 rintro e w1 ⟨rfl,rfl⟩
 generalize hnx:num l=x at*
 have Hx:=Lib.hid hnx
 clear hnx
 have hx:IntKind.u32.wrap (x:Int)=x:=by rw[IntKind.wrap_u32'];omega
 go_wp2_with fail
 go_ret
 exact⟨by rw[Hx.out];rfl,rfl⟩
def vU (a:List UInt8) (j:Nat):Array Value:=((u8s (a.take j))++List.replicate (6-j) (Value.int .u8 0)).toArray
theorem AF (a:List UInt8) (j:Nat) (hj:j≤6) (ha:6≤a.length):(vU a j).size=6:=by simp[vU,u8s,List.length_take];omega
theorem CZ (a:List UInt8) (j:Nat) (hj:j<6) (ha:6≤a.length):(vU a j).setIfInBounds j (.int .u8 ((a[j]'(by omega)).toNat:Int))=vU a (j+1):=by
 match a,ha with
 |a0::a1::a2::a3::a4::a5::r,_=>
  match j,hj with
  |0,_|1,_|2,_|3,_|4,_|5,_=>rfl
theorem kP (l:List UInt8) (w:World) (h6:6≤l.length) (hl:l.length≤9223372036854775807):
 Calls Tryz.prog 114 #[.string (bs l)] w fun e w'=>e= .returned (xQ (fX l))∧Fr noB w w':=by
 go_enter Tryz.func114,Tryz.ntmps114
 go_wp2_with fail
 have hb1:=(Bk.new w 26 fA).alloc (.cells fA 26)
 have hb2:=Bk.new (w.alloc (.cells fA 26)) 26 fA
 rw[show(w.alloc (.cells fA 26)).heap.size=w.heap.size+1 by simp]at hb2
 have hf:Fr noB w ((w.alloc (.cells fA 26)).alloc (.cells fA 26)):=((Fr.refl _ _).alloc _).alloc _
 unfold fA at hb1 hb2 hf
 generalize(w.alloc (.cells #[.int .u8 0,.int .u8 0,.int .u8 0,.int .u8 0,.int .u8 0,.int .u8 0] 26)).alloc (.cells #[.int .u8 0,.int .u8 0,.int .u8 0,.int .u8 0,.int .u8 0,.int .u8 0] 26)=w1 at*
 go_loopw [4] (fun i wr=>∃j:Nat,j≤6∧i= .int .i64 j∧Bk wr w.heap.size 26 fA∧Bk wr (w.heap.size+1) 26 (vU l j)∧Fr noB w wr) (fun i _=>6-(intOf i).toNat)
 case atStart=>exact⟨0,by omega,rfl,hb1,hb2,hf⟩
 case round=>
  obtain⟨j,hj,rfl,c1,c2,hfr⟩:=hrel
  by_cases hlt:j<6
  ·have hjl:j<l.length:=by omega
   have hgi:∀h:j<(bs l).size,(bs l)[j]'h=l[j]:=fun h=>gW l j h
   have hps:=CZ l j hlt h6
   have hsz:=AF l j (by omega) h6
   have hc:=c2.cell j
   have hz:=c2.free j
   have hset:=c2.set j (.int .u8 (l[j].toNat:Int))
   rw[hps]at hset
   have Hset:=Lib.hid hset
   have hc':wr.cell? ⟨w.heap.size+1,j,none⟩=some ((vU l j)[j]'(by omega)):=by rw[hc];exact Array.getElem?_eq_getElem _
   generalize(vU l j)[j]'(by omega)=old at*
   clear hps hset hc hsz
   go_wp2_with fail
   refine⟨⟨j+1,by omega,by go_num,c1.far (by simp) _,Hset.out,hfr.setCell (p:=⟨w.heap.size+1,j,none⟩) (fun e=>absurd e (by simp)) _⟩,by simp[intOf];omega⟩
  ·obtain rfl:j=6:=by omega
   have hp6:vU l 6= #[.int .u8 ((l.getD 0 0).toNat:Int),.int .u8 ((l.getD 1 0).toNat:Int),.int .u8 ((l.getD 2 0).toNat:Int),.int .u8 ((l.getD 3 0).toNat:Int),.int .u8 ((l.getD 4 0).toNat:Int),.int .u8 ((l.getD 5 0).toNat:Int)]:=by
    match l,h6 with
    |a0::a1::a2::a3::a4::a5::r,_=>rfl
   rw[hp6]at c2
   have hv:xQ (fX l)= .agg #[.int .u8 ((l.getD 0 0).toNat:Int),.int .u8 ((l.getD 1 0).toNat:Int),.int .u8 ((l.getD 2 0).toNat:Int),.int .u8 ((l.getD 3 0).toNat:Int),.int .u8 ((l.getD 4 0).toNat:Int),.int .u8 ((l.getD 5 0).toNat:Int)]:=rfl
   have Hv:=Lib.hid hv
   clear hp6 hv hb1 hb2 hf
   generalize l.getD 0 0=d0 at*
   generalize l.getD 1 0=d1 at*
   generalize l.getD 2 0=d2 at*
   generalize l.getD 3 0=d3 at*
   generalize l.getD 4 0=d4 at*
   generalize l.getD 5 0=d5 at*
   have hc:=c2.cells
   go_wp2_with ((refine aP rfl 26 (.tmp 2) (.tmp 14) rfl w.heap.size _ _ _ rfl rfl c1 rfl (by kernel_rfl) (by kernel_rfl) ?_);intro w9 hx9 hf9)
   have hcx:=hx9.cells
   refine bodyPost_ret (v:= .agg #[.int .u8 (d0.toNat:Int),.int .u8 (d1.toNat:Int),.int .u8 (d2.toNat:Int),.int .u8 (d3.toNat:Int),.int .u8 (d4.toNat:Int),.int .u8 (d5.toNat:Int)]) (by simp[results,Tryz.results114,go_sem,hcx]) rfl ?_
   exact⟨by rw[Hv.out],hfr.trans' hf9 (fun b hb e=>by unfold aJ at e;omega)⟩
end Go.Proofs.YtcllkmllflheiaaGreatDoor
namespace Go.Proofs.YtcllkmllflheiaaGreatDoor
open Go.RowKit Go.Proofs
attribute [local go_sem] aG aD aE aF
structure De where
 «to»:Mac
 fm:Mac
 ty:Nat
 by':List UInt8
def ER:De:=⟨(0,0,0,0,0,0),(0,0,0,0,0,0),0,[]⟩
def xY (a:De):Array Value:= #[.int .u8 (a.to.1.toNat:Int),.int .u8 (a.to.2.1.toNat:Int),.int .u8 (a.to.2.2.1.toNat:Int),.int .u8 (a.to.2.2.2.1.toNat:Int),.int .u8 (a.to.2.2.2.2.1.toNat:Int),.int .u8 (a.to.2.2.2.2.2.toNat:Int),.int .u8 (a.fm.1.toNat:Int),.int .u8 (a.fm.2.1.toNat:Int),.int .u8 (a.fm.2.2.1.toNat:Int),.int .u8 (a.fm.2.2.2.1.toNat:Int),.int .u8 (a.fm.2.2.2.2.1.toNat:Int),.int .u8 (a.fm.2.2.2.2.2.toNat:Int),.int .u16 (a.ty:Int),.string (bs a.by')]
def aO (l:List UInt8):De×Nat:=
 if l.length<14 then(ER,1)
 else if num (sub l 12 14)<1536 then(ER,3)
 else if 1500<(sub l 14 l.length).length then(ER,7)
 else(⟨fX l,fX (sub l 6 l.length),num (sub l 12 14),sub l 14 l.length⟩,0)
theorem oJ (l:List UInt8) (h:l.length<14):aO l=(ER,1):=by unfold aO;rw[if_pos h]
def El (l:List UInt8) (c:Array Value):Prop:=∃x,c=xY x∧aO l=(x,0)
def zA (l:List UInt8) (er:Int):Prop:=∃k:Nat,er=k∧aO l=(ER,k)
attribute [local simp] xY xQ ibq ibn eqN ltN leN eqL ltL gtL leL geL
theorem II (l:List UInt8) (hl:l.length≤9223372036854775807) (p:Nat) (w:World) (hR:Rd w p l):
 Calls Tryz.prog 101 #[.pointer (some ⟨p,0,none⟩)] w (iJ (El l) (zA l) p w):=by
 obtain⟨z,hz⟩:∃z,aO l=z:=⟨_,rfl⟩
 have bad:∀k:Nat,z=(ER,k)→∀w',Fr (aJ p) w w'→iJ (El l) (zA l) p w (.panicked (cP k)) w':=fun k h w' hf=>⟨.inr ⟨_,⟨k,rfl,hz.trans h⟩,rfl⟩,hf⟩
 have HB:∀m w',l.length<m→m≤14→Fr (aJ p) w w'→iJ (El l) (zA l) p w (.panicked (cP 1)) w':=fun m w' h h2 hf=>bad 1 (hz.symm.trans (oJ l (by omega))) w' hf
 have hA:RA p l 0 w [] w:=⟨by rw[List.drop_zero];exact hR,Fr.refl _ _,List.forall_mem_nil _⟩
 clear hR
 refine en Tryz.func101 Tryz.ntmps101 ?_
 refine W ?_
 refine sA ?_
 intro w1 hX f
 replace hA:=hA.new hX f
 clear hX f
 refine W ?_
 refine sR 6 (GP hA (Nat.zero_le _) hl) ?_
 intro h6 w2 hA
 refine W ?_
 refine sR 12 (GP hA h6 hl) ?_
 intro h12 w3 hA
 refine W ?_
 refine sR 14 (Dc hA h12 hl) ?_
 intro h14 w4 hA
 have hy:=hz
 unfold aO at hz
 rw[if_neg (by omega),iF,iF]at hz
 have n3:num (sub l 12 14)<65536:=kW ..
 generalize num (sub l 12 14)=x3 at*
 rw[List.drop_zero]
 generalize fX l=m1 at*
 generalize fX (l.drop 6)=m2 at*
 refine W ?_
 refine sA ?_
 intro w5 hG f
 refine W ?_
 refine sT ?_
 intro w6 hG f2
 have hg0:w.heap.size<w4.heap.size:=(hA.at_ 0).lt
 replace hA:=hA.new hG (bA f (Nat.le_refl _) f2)
 have hG:=hA.at_ 0
 refine W ?_
 refine sM (dK _ _ _) (fun h=> ?_) fun h1=> ?_
 ·exact⟨rfl,bad 3 (hz.symm.trans (if_pos (by omega))) _ hA.fr⟩
 rw[if_neg (by omega)]at hz
 refine W ?_
 refine sC (J0 p _ _ hA.rd) ?_
 rintro _ rfl
 refine W ?_
 have hll:(l.drop 14).length=l.length-14:=List.length_drop ..
 refine sM (dK _ _ _) (fun h=> ?_) fun h2=> ?_
 ·exact⟨rfl,bad 7 (hz.symm.trans (if_pos (by omega))) _ hA.fr⟩
 rw[if_neg (by omega)]at hz
 refine W ?_
 refine sC (I7 p _ _ hA.rd (hA.small hl)) ?_
 rintro w7 ⟨hr,f⟩
 replace hA:=hA.go (k:=(l.drop 14).length) (by rw[List.drop_length];exact hr) f
 generalize l.drop 14=ld at*
 have hne:∀x∈[(w.heap.size,118,rdZ 1)],x.1≠w4.heap.size:=List.forall_mem_cons.2 ⟨Nat.ne_of_lt hg0,List.forall_mem_nil _⟩
 refine W ?_
 refine sK (xY ⟨m1,m2,x3,ld⟩) (hA.at_ 0) ?_
 intro w8 hG f
 replace hA:=hA.put hG f (Nat.le_of_lt hg0) hne
 have hX:=hA.at_ 1
 refine W ?_
 refine sT ?_
 intro w9 hX f
 refine W ?_
 refine zC hX Tryz.underlying118 ?_
 exact⟨.inl ⟨_,⟨⟨m1,m2,x3,ld⟩,rfl,hy.trans hz.symm⟩,rfl⟩,hA.fr.trans' f fun b hb e=>by have e':b=w.heap.size:=e;omega⟩
def sO (l:List UInt8) (w:World) (e:Ending) (w':World):Prop:=e= .returned (.tuple #[.agg (xY (aO l).1),.int .i64 ((aO l).2:Int)])∧Fr noB w w'
theorem Fx (l:List UInt8) (w:World) (hl:l.length≤9223372036854775807):
 Calls Tryz.prog 100 #[.string (bs l),.func (.func 101) #[] #[]] w (sO l w):=by
 refine(Em 1 (by decide) l w 101 #[] (El l) (zA l) (by rintro c ⟨x,rfl,_⟩;exact⟨rfl,by kernel_rfl⟩) (fun p w1 _ hR _=>II l hl p w1 hR)).mono ?_
 rintro e w' ⟨⟨c,⟨x,rfl,hx⟩,rfl⟩|⟨er,⟨k,rfl,hk⟩,rfl⟩,hf⟩
 ·exact⟨by rw[hx];rfl,hf⟩
 ·exact⟨by rw[hk];rfl,hf⟩
end Go.Proofs.YtcllkmllflheiaaGreatDoor
