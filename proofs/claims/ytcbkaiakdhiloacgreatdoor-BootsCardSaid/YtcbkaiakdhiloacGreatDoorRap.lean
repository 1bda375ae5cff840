/- Parts of the walk; written by programs, merged. -/
import Derived.Test.YtcbkaiakdhiloacGreatDoorRao
set_option linter.unusedSimpArgs false
set_option linter.unusedVariables false
set_option maxRecDepth 20000
set_option maxHeartbeats 8000000
namespace Go.Proofs.YtcbkaiakdhiloacGreatDoor
open Go.RowKit Go.Proofs
theorem Gy:(Tryz.prog.info? 37).map (fun i=>(i.zero,i.size,i.bytes))=some (some (.int .u32 0),1,4):=by kernel_rfl
theorem vH (w:World) (cs:List Value) (i:Nat) (v:Value) (hi:i<8) (hv:cs[i]? =some v):
 (Instr.index 201 (.agg cs.toArray) (.int .i64 (i:Int))).run Tryz.prog w= .ok v w:=by
 obtain⟨inf,hi0,hz,hs,hb⟩:=info_parts Gy
 have hi1:(0:Int)≤(i:Int)∧(i:Int)<8:=by omega
 simp[Instr.index,run_underlying Tryz.underlying201,asIntOf,hi1,go_sem,sizeOf,typeInfo,hi0,hs,hv]
 intro h;omega
def tI (u:Nat→Value):Act:=⟨#[u 0,u 1,u 2,u 3,u 4,u 5,u 6,u 7,u 8,u 9,u 10,u 11,u 12,u 13,u 14,u 15,u 16,u 17,u 18,u 19,u 20,u 21,u 22,u 23,u 24,u 25,u 26,u 27,u 28,u 29,u 30,u 31,u 32,u 33,u 34,u 35,u 36,u 37,u 38,u 39,u 40,u 41,u 42,u 43,u 44,u 45,u 46,u 47,u 48,u 49,u 50,u 51,u 52,u 53,u 54,u 55,u 56,u 57,u 58,u 59,u 60,u 61,u 62,u 63,u 64,u 65,u 66,u 67,u 68,u 69,u 70,u 71,u 72,u 73,u 74,u 75,u 76],[]⟩
set_option maxRecDepth 100000 in
theorem IQ (u:Nat→Value):tI u=frN 77 u:=rfl
theorem eL {a:Act} (h:Sz 77 a):a=tI (sl a):=h.eq.trans (IQ _).symm
theorem Nj (a:Act) (w:World) (K:KT) (hs:Sz 77 a)
 (hK:∀a' w',Sz 77 a'→Kp [0,3,4,5,6,7,8,26,44,45] a a'→sl a' 2= .pointer (some ⟨w.heap.size,0,none⟩)→w'=w.alloc (.cells (u8s (List.replicate 32 0)).toArray 143)→K .normal a' w'):
 (aH Tryz.f127 0).wp Tryz.prog K a w:=by
 refine rgE hK (eL hs) fun HK=> ?_;clear hK hs
 simp only[tI]
 go_wp2_with fail
 exact HK.out _ _ ⟨rfl,rfl⟩ kZ (rfl) rfl
theorem Nd (a:Act) (w:World) (K:KT) (hs:Sz 77 a)
 (hK:∀a' w',Sz 77 a'→Kp [0,2,3,5,6,7,8,26,44,45] a a'→sl a' 4= .pointer (some ⟨w.heap.size,0,none⟩)→w'=w.alloc (.cells (u8s (List.replicate 8 0)).toArray 253)→K .normal a' w'):
 (aH Tryz.f127 5).wp Tryz.prog K a w:=by
 refine rgE hK (eL hs) fun HK=> ?_;clear hK hs
 simp only[tI]
 go_wp2_with fail
 exact HK.out _ _ ⟨rfl,rfl⟩ kZ (rfl) rfl
theorem MG (a:Act) (w:World) (K:KT) (hs:Sz 77 a)
 (hK:∀a' w',Sz 77 a'→Kp [0,2,3,4,5,7,8,26,44,45] a a'→sl a' 6= .pointer (some ⟨w.heap.size,0,none⟩)→w'=w.alloc (.cells (u8s (List.replicate 32 0)).toArray 143)→K .normal a' w'):
 (aH Tryz.f127 12).wp Tryz.prog K a w:=by
 refine rgE hK (eL hs) fun HK=> ?_;clear hK hs
 simp only[tI]
 go_wp2_with fail
 exact HK.out _ _ ⟨rfl,rfl⟩ kZ (rfl) rfl
theorem M0 (p n:Nat) (a:Act) (w:World) (K:KT) (hs:Sz 77 a)
 (h0:sl a 0= .pointer (some ⟨p,0,none⟩)) (hn:n*8<18446744073709551616) (hc:w.cell? ⟨p,9,none⟩=some (.int .u64 (n:Int)))
 (hK:∀a' w',Sz 77 a'→Kp [0,2,4,5,6,7,8,26,44,45] a a'→sl a' 3= .int .u64 ((n*8:Nat):Int)→Fr noB w w'→K .normal a' w'):
 (aH Tryz.f127 1).wp Tryz.prog K a w:=by
 refine rgE hK (eL hs) fun HK=> ?_;clear hK hs
 have hn1:(n:Int)*8<18446744073709551616:=by omega
 simp only[tI,h0]
 go_wp2_with fail
 exact HK.out _ _ ⟨rfl,rfl⟩ kZ (by simp only[sl];rfl) (Fr.refl _ _)
theorem Nu (p:Nat) (X:Nat→Prop) (pre:List UInt8) (a:Act) (w:World) (K:KT) (hs:Sz 77 a)
 (h0:sl a 0= .pointer (some ⟨p,0,none⟩)) (hS:HSt w p X pre) (hb:∀q,w.heap.size≤q→X q) (hlen:pre.length+1≤1000000000000) (hRk:RU w 5 rD) (hgb:¬X 5) (hkp:5≠p)
 (hK:∀a' w',Sz 77 a'→Kp [0,2,3,4,5,6,7,8,26,44,45] a a'→HSt w' p X (pre++[128])→Fr (oS p X) w w'→K .normal a' w'):
 (aH Tryz.f127 2).wp Tryz.prog K a w:=by
 refine rgE hK (eL hs) fun HK=> ?_;clear hK hs
 have hpb:=hS.1
 have hfa:Fr noB w (w.alloc (.cells #[.int .u8 128] 5)):=(Fr.refl _ _).alloc _
 have hSa:HSt (w.alloc (.cells #[.int .u8 128] 5)) p X pre:=⟨hpb,by obtain⟨r,h1,h2⟩:=hS.2;exact⟨r,h1.keep hfa id,h2.keep hfa fun _ _ h=>h⟩⟩
 have hcall:=mP pre [128] p 1 1 X (some ⟨w.heap.size,0,none⟩) (w.alloc (.cells #[.int .u8 128] 5)) hSa (SlR.of_bk (n:=1) (size:=1) (Bk.new w 5 #[.int .u8 128]) (by unfold aI;exact fun e=>hpb (hb p (by rw[←e];exact Nat.le_refl _))) rfl) (fun q hq=>hb q (Nat.le_trans hfa.size hq)) hlen (hRk.keep hfa id) hgb hkp
 clear hS hSa hRk
 simp only[tI,h0]
 go_wp2_with (go_at_call 126;refine hcall.mono ?_;rintro e w9 ⟨rfl,hS9,hf9b⟩)
 have hf9:=hfa.of_no (oS p X)|>.trans hf9b
 exact HK.out _ _ ⟨rfl,rfl⟩ kZ hS9 hf9
theorem Nm (p:Nat) (X:Nat→Prop) (pre:List UInt8) (a:Act) (w:World) (K:KT) (hs:Sz 77 a)
 (h0:sl a 0= .pointer (some ⟨p,0,none⟩)) (hS:HSt w p X pre) (hb:∀q,w.heap.size≤q→X q) (hlen:pre.length+1≤1000000000000) (hRk:RU w 5 rD) (hgb:¬X 5) (hkp:5≠p)
 (hK:∀a' w',Sz 77 a'→Kp [0,2,3,4,5,6,7,8,26,44,45] a a'→HSt w' p X (pre++[0])→Fr (oS p X) w w'→K .normal a' w'):
 (aH Tryz.f127 4).wp Tryz.prog K a w:=by
 refine rgE hK (eL hs) fun HK=> ?_;clear hK hs
 have hpb:=hS.1
 have hfa:Fr noB w (w.alloc (.cells #[.int .u8 0] 5)):=(Fr.refl _ _).alloc _
 have hSa:HSt (w.alloc (.cells #[.int .u8 0] 5)) p X pre:=⟨hpb,by obtain⟨r,h1,h2⟩:=hS.2;exact⟨r,h1.keep hfa id,h2.keep hfa fun _ _ h=>h⟩⟩
 have hcall:=mP pre [0] p 1 1 X (some ⟨w.heap.size,0,none⟩) (w.alloc (.cells #[.int .u8 0] 5)) hSa (SlR.of_bk (n:=1) (size:=1) (Bk.new w 5 #[.int .u8 0]) (by unfold aI;exact fun e=>hpb (hb p (by rw[←e];exact Nat.le_refl _))) rfl) (fun q hq=>hb q (Nat.le_trans hfa.size hq)) hlen (hRk.keep hfa id) hgb hkp
 clear hS hSa hRk
 simp only[tI,h0]
 go_wp2_with (go_at_call 126;refine hcall.mono ?_;rintro e w9 ⟨rfl,hS9,hf9b⟩)
 have hf9:=hfa.of_no (oS p X)|>.trans hf9b
 exact HK.out _ _ ⟨rfl,rfl⟩ kZ hS9 hf9
theorem Nq (p n c:Nat) (A:Option Addr) (a:Act) (w:World) (K:KT) (hs:Sz 77 a)
 (h0:sl a 0= .pointer (some ⟨p,0,none⟩)) (hc:w.cell? ⟨p,8,none⟩=some (.slice A n c))
 (hK:∀a' w',Sz 77 a'→Kp [0,2,3,4,5,6,7,8,26,44,45] a a'→sl a' 22= .bool (decide (n≠56))→Fr noB w w'→K .normal a' w'):
 (aH Tryz.f127 3).wp Tryz.prog K a w:=by
 refine rgE hK (eL hs) fun HK=> ?_;clear hK hs
 simp only[tI,h0]
 go_wp2_with fail
 exact HK.out _ _ ⟨rfl,rfl⟩ kZ (congrArg Value.bool (by by_cases h:n=56<;>simp[h]<;>omega)) (Fr.refl _ _)
theorem Nn (a:Act) (w:World) (K:KT) (hs:Sz 77 a)
 (hK:∀a' w',Sz 77 a'→Kp [0,2,3,4,5,6,7,8,44,45] a a'→sl a' 26= .int .i64 ((0:Nat):Int)→Fr noB w w'→K .normal a' w'):
 (aH Tryz.f127 6).wp Tryz.prog K a w:=by
 refine rgE hK (eL hs) fun HK=> ?_;clear hK hs
 simp only[tI]
 go_wp2_with fail
 exact HK.out _ _ ⟨rfl,rfl⟩ kZ (rfl) (Fr.refl _ _)
theorem M6 (i:Nat) (a:Act) (w:World) (K:KT) (hs:Sz 77 a)
 (h26:sl a 26= .int .i64 (i:Int)) (hi:i≤8)
 (hK:∀a' w',Sz 77 a'→Kp [0,2,3,4,5,6,7,8,26,44,45] a a'→sl a' 27= .bool (decide (i<8))→Fr noB w w'→K .normal a' w'):
 (aH Tryz.f127 7).wp Tryz.prog K a w:=by
 refine rgE hK (eL hs) fun HK=> ?_;clear hK hs
 simp only[tI,h26]
 go_wp2_with fail
 exact HK.out _ _ ⟨rfl,rfl⟩ kZ (congrArg Value.bool (decide_eq_decide.2 (by omega))) (Fr.refl _ _)
theorem NI (i:Nat) (a:Act) (w:World) (K:KT) (hs:Sz 77 a)
 (h26:sl a 26= .int .i64 (i:Int))
 (hK:∀a' w',Sz 77 a'→Kp [0,2,3,4,6,7,8,26,44,45] a a'→sl a' 5= .int .i64 (i:Int)→Fr noB w w'→K .normal a' w'):
 (aH Tryz.f127 8).wp Tryz.prog K a w:=by
 refine rgE hK (eL hs) fun HK=> ?_;clear hK hs
 simp only[tI,h26]
 go_wp2_with fail
 exact HK.out _ _ ⟨rfl,rfl⟩ kZ (rfl) (Fr.refl _ _)
theorem MK (i:Nat) (a:Act) (w:World) (K:KT) (hs:Sz 77 a)
 (h26:sl a 26= .int .i64 (i:Int)) (hi:i≤8)
 (hK:∀a' w',Sz 77 a'→Kp [0,2,3,4,5,6,7,8,44,45] a a'→sl a' 26= .int .i64 ((i+1:Nat):Int)→Fr noB w w'→K .normal a' w'):
 (aH Tryz.f127 10).wp Tryz.prog K a w:=by
 refine rgE hK (eL hs) fun HK=> ?_;clear hK hs
 simp only[tI,h26]
 clear h26
 go_wp2_with fail
 exact HK.out _ _ ⟨rfl,rfl⟩ kZ (by simp only[sl];rfl) (Fr.refl _ _)
theorem NK (i j gl N:Nat) (z:Value) (a:Act) (w:World) (K:KT) (hs:Sz 77 a)
 (h3:sl a 3= .int .u64 (N:Int)) (h4:sl a 4= .pointer (some ⟨gl,0,none⟩)) (h5:sl a 5= .int .i64 (i:Int)) (hi:i<8) (hj:j+i=7) (hN:N<18446744073709551616) (hc:w.cell? ⟨gl,i,none⟩=some (z)) (hf:w.frozen? ⟨gl,i,none⟩=false)
 (hK:∀a' w',Sz 77 a'→Kp [0,2,3,4,5,6,7,8,26,44,45] a a'→w'=w.setCell ⟨gl,i,none⟩ (.int .u8 ((UInt8.ofNat (N/256^j)).toNat:Int))→K .normal a' w'):
 (aH Tryz.f127 9).wp Tryz.prog K a w:=by
 refine rgE hK (eL hs) fun HK=> ?_;clear hK hs
 obtain⟨k,hk⟩:∃k,k=8*j:=⟨_,rfl⟩
 have e1:(56:Int)-8*(i:Int)=(k:Int):=by omega
 have e2:8*(i:Int)≤56:=by omega
 have hby:=I5 N j
 rw[←hk]at hby
 obtain⟨y,hy⟩:∃y,y=UInt8.ofNat (N/256^j):=⟨_,rfl⟩
 rw[←hy]at hby HK
 have hk64:k<64:=by omega
 clear hy hk hj
 simp only[tI,h3,h4,h5]
 go_wp2_with fail
 exact HK.out _ _ ⟨rfl,rfl⟩ kZ rfl
theorem L7 (p gl:Nat) (X:Nat→Prop) (pre B:List UInt8) (a:Act) (w:World) (K:KT) (hs:Sz 77 a)
 (h0:sl a 0= .pointer (some ⟨p,0,none⟩)) (h4:sl a 4= .pointer (some ⟨gl,0,none⟩)) (hS:HSt w p X pre) (hB:Bk w gl 253 (u8s B).toArray) (hB8:B.length=8) (hgp:gl≠p) (hb:∀q,w.heap.size≤q→X q) (hlen:pre.length+8≤1000000000000) (hRk:RU w 5 rD) (hgb:¬X 5) (hkp:5≠p)
 (hK:∀a' w',Sz 77 a'→Kp [0,2,3,4,5,6,7,8,26,44,45] a a'→HSt w' p X (pre++B)→Fr (oS p X) w w'→K .normal a' w'):
 (aH Tryz.f127 11).wp Tryz.prog K a w:=by
 refine rgE hK (eL hs) fun HK=> ?_;clear hK hs
 have hsl:SlR w (aI p) 1 (some ⟨gl,0,none⟩) 8 (u8s B):=SlR.of_bk (n:=8) (size:=1) (cs:=(u8s B).toArray) hB hgp (by simp[u8s,hB8])
 have hcall:=mP pre B p 8 8 X (some ⟨gl,0,none⟩) w hS hsl hb (by omega) hRk hgb hkp
 clear hS hB hRk hsl
 simp only[tI,h0,h4]
 go_wp2_with (go_at_call 126;refine hcall.mono ?_;rintro e w9 ⟨rfl,hS9,hf9⟩)
 exact HK.out _ _ ⟨rfl,rfl⟩ kZ hS9 hf9
theorem Mc (p:Nat) (v:S8) (a:Act) (w:World) (K:KT) (hs:Sz 77 a)
 (h0:sl a 0= .pointer (some ⟨p,0,none⟩)) (hR:RU w p v.list)
 (hK:∀a' w',Sz 77 a'→Kp [0,2,3,4,5,6,7,8,26] a a'→sl a' 44= .agg (kD v.list).toArray→sl a' 45= .int .i64 ((0:Nat):Int)→Fr noB w w'→K .normal a' w'):
 (aH Tryz.f127 13).wp Tryz.prog K a w:=by
 refine rgE hK (eL hs) fun HK=> ?_;clear hK hs
 have c0:=hR.2 0 _ rfl
 have c1:=hR.2 1 _ rfl
 have c2:=hR.2 2 _ rfl
 have c3:=hR.2 3 _ rfl
 have c4:=hR.2 4 _ rfl
 have c5:=hR.2 5 _ rfl
 have c6:=hR.2 6 _ rfl
 have c7:=hR.2 7 _ rfl
 clear hR
 simp only[tI,h0]
 go_wp2_with fail
 exact HK.out _ _ ⟨rfl,rfl⟩ kZ (rfl) (rfl) (Fr.refl _ _)
theorem Lt (i:Nat) (a:Act) (w:World) (K:KT) (hs:Sz 77 a)
 (h45:sl a 45= .int .i64 (i:Int)) (hi:i≤8)
 (hK:∀a' w',Sz 77 a'→Kp [0,2,3,4,5,6,7,8,26,44,45] a a'→sl a' 46= .bool (decide (i<8))→Fr noB w w'→K .normal a' w'):
 (aH Tryz.f127 14).wp Tryz.prog K a w:=by
 refine rgE hK (eL hs) fun HK=> ?_;clear hK hs
 simp only[tI,h45]
 go_wp2_with fail
 exact HK.out _ _ ⟨rfl,rfl⟩ kZ (congrArg Value.bool (decide_eq_decide.2 (by omega))) (Fr.refl _ _)
theorem Mi (i:Nat) (v:S8) (x:UInt32) (a:Act) (w:World) (K:KT) (hs:Sz 77 a)
 (h44:sl a 44= .agg (kD v.list).toArray) (h45:sl a 45= .int .i64 (i:Int)) (hi:i<8) (hx:v.list[i]? =some x)
 (hK:∀a' w',Sz 77 a'→Kp [0,2,3,4,5,6,26,44,45] a a'→sl a' 7= .int .i64 (i:Int)→sl a' 8= .int .u32 (x.toNat:Int)→Fr noB w w'→K .normal a' w'):
 (aH Tryz.f127 15).wp Tryz.prog K a w:=by
 refine rgE hK (eL hs) fun HK=> ?_;clear hK hs
 have hxx:=vK v.list i x hx
 have hrun:=vH w _ i _ hi hxx
 generalize kD v.list=vl at*
 simp only[tI,h44,h45]
 go_wp2_with fail
 exact HK.out _ _ ⟨rfl,rfl⟩ kZ (rfl) (rfl) (Fr.refl _ _)
theorem Mb (i:Nat) (a:Act) (w:World) (K:KT) (hs:Sz 77 a)
 (h45:sl a 45= .int .i64 (i:Int)) (hi:i≤8)
 (hK:∀a' w',Sz 77 a'→Kp [0,2,3,4,5,6,7,8,26,44] a a'→sl a' 45= .int .i64 ((i+1:Nat):Int)→Fr noB w w'→K .normal a' w'):
 (aH Tryz.f127 17).wp Tryz.prog K a w:=by
 refine rgE hK (eL hs) fun HK=> ?_;clear hK hs
 simp only[tI,h45]
 clear h45
 go_wp2_with fail
 exact HK.out _ _ ⟨rfl,rfl⟩ kZ (by simp only[sl];rfl) (Fr.refl _ _)
theorem Ma (i j0 j1 j2 j3 gd:Nat) (x:UInt32) (b0 b1 b2 b3:UInt8) (z0 z1 z2 z3:Value) (a:Act) (w:World) (K:KT) (hs:Sz 77 a)
 (h6:sl a 6= .pointer (some ⟨gd,0,none⟩)) (h7:sl a 7= .int .i64 (i:Int)) (h8:sl a 8= .int .u32 (x.toNat:Int)) (hi:i<8) (hj0:j0=4*i) (hj1:j1=4*i+1) (hj2:j2=4*i+2) (hj3:j3=4*i+3) (hb3:(x.toNat:Int)/16777216=(b3.toNat:Int)) (hb2:(x.toNat:Int)/65536%256=(b2.toNat:Int)) (hb1:(x.toNat:Int)/256%256=(b1.toNat:Int)) (hb0:(x.toNat:Int)%256=(b0.toNat:Int)) (c0:w.cell? ⟨gd,j0,none⟩=some (z0)) (f0:w.frozen? ⟨gd,j0,none⟩=false) (c1:(w.setCell ⟨gd,j0,none⟩ (.int .u8 (b3.toNat:Int))).cell? ⟨gd,j1,none⟩=some z1) (f1:(w.setCell ⟨gd,j0,none⟩ (.int .u8 (b3.toNat:Int))).frozen? ⟨gd,j1,none⟩=false) (c2:((w.setCell ⟨gd,j0,none⟩ (.int .u8 (b3.toNat:Int))).setCell ⟨gd,j1,none⟩ (.int .u8 (b2.toNat:Int))).cell? ⟨gd,j2,none⟩=some z2) (f2:((w.setCell ⟨gd,j0,none⟩ (.int .u8 (b3.toNat:Int))).setCell ⟨gd,j1,none⟩ (.int .u8 (b2.toNat:Int))).frozen? ⟨gd,j2,none⟩=false) (c3:(((w.setCell ⟨gd,j0,none⟩ (.int .u8 (b3.toNat:Int))).setCell ⟨gd,j1,none⟩ (.int .u8 (b2.toNat:Int))).setCell ⟨gd,j2,none⟩ (.int .u8 (b1.toNat:Int))).cell? ⟨gd,j3,none⟩=some z3) (f3:(((w.setCell ⟨gd,j0,none⟩ (.int .u8 (b3.toNat:Int))).setCell ⟨gd,j1,none⟩ (.int .u8 (b2.toNat:Int))).setCell ⟨gd,j2,none⟩ (.int .u8 (b1.toNat:Int))).frozen? ⟨gd,j3,none⟩=false)
 (hK:∀a' w',Sz 77 a'→Kp [0,2,3,4,5,6,7,8,26,44,45] a a'→w'=(((w.setCell ⟨gd,j0,none⟩ (.int .u8 (b3.toNat:Int))).setCell ⟨gd,j1,none⟩ (.int .u8 (b2.toNat:Int))).setCell ⟨gd,j2,none⟩ (.int .u8 (b1.toNat:Int))).setCell ⟨gd,j3,none⟩ (.int .u8 (b0.toNat:Int))→K .normal a' w'):
 (aH Tryz.f127 16).wp Tryz.prog K a w:=by
 refine rgE hK (eL hs) fun HK=> ?_;clear hK hs
 have q0:4*(i:Int)=(j0:Int):=by omega
 have q1:(j0:Int)+1=(j1:Int):=by omega
 have q2:(j0:Int)+2=(j2:Int):=by omega
 have q3:(j0:Int)+3=(j3:Int):=by omega
 have l0:j0<32:=by omega
 have l1:j1<32:=by omega
 have l2:j2<32:=by omega
 have l3:j3<32:=by omega
 have hxl:(x.toNat:Int)≤4294967295:=by have:=x.toNat_lt;omega
 clear hj0 hj1 hj2 hj3
 simp only[tI,h6,h7,h8]
 go_wp2_with fail
 exact HK.out _ _ ⟨rfl,rfl⟩ kZ rfl
theorem Lr (gd gr:Nat) (B:List UInt8) (cs:Array Value) (a:Act) (w:World) (K:KT) (hs:Sz 77 a)
 (h2:sl a 2= .pointer (some ⟨gr,0,none⟩)) (h6:sl a 6= .pointer (some ⟨gd,0,none⟩)) (hB:Bk w gd 143 (u8s B).toArray) (hl:B.length=32) (hr:Bk w gr 143 cs) (hcs:cs.size=32)
 (hK:∀a' w',Sz 77 a'→Kp [0,2,3,4,5,6,7,8,26,44,45] a a'→Bk w' gr 143 (u8s B).toArray→Fr (aI gr) w w'→K .normal a' w'):
 (aH Tryz.f127 18).wp Tryz.prog K a w:=by
 refine rgE hK (eL hs) fun HK=> ?_;clear hK hs
 have hsz:(Tryz.prog.info? 143).map (·.size)=some 32:=by kernel_rfl
 have h32:((u8s B).toArray).size=32:=by simp[u8s,hl]
 have hone:((u8s B).toArray).all (·.oneCell')=true:=by rw[Array.all_eq_true];intro k hk;exact jE B _ (by simp)
 generalize(u8s B).toArray=cb at*
 simp only[tI,h2,h6]
 go_wp2_with (first
  |(refine wpList_load_row rfl 143 (.tmp 6) rfl gd rfl _ cb _ _ hB Tryz.underlying143 rfl (by rw[hsz,h32]) ?_)
  |(refine aN rfl 143 (.tmp 2) (.tmp 76) rfl gr _ _ cb rfl rfl hr (by rw[h32,hcs]) (by rw[hsz,h32]) hone ?_;intro w9 hx9 hf9))
 exact HK.out _ _ ⟨rfl,rfl⟩ kZ hx9 hf9
end Go.Proofs.YtcbkaiakdhiloacGreatDoor
namespace Go.Proofs.YtcbkaiakdhiloacGreatDoor
open Go.RowKit Go.Proofs
noncomputable abbrev fSm:Func:=Tryz.f127
theorem HSt.keep {S:Nat→Prop} {w w':World} {p:Nat} {X:Nat→Prop} {t:List UInt8} (h:HSt w p X t) (hf:Fr S w w') (hp:¬S p) (hS:∀q,X q→¬S q):HSt w' p X t:=by
 obtain⟨h1,r,h2,h3⟩:=h
 exact⟨h1,r,h2.keep hf hp,h3.keep hf hS⟩
theorem kK {p:Nat} {X:Nat→Prop} {g:Nat} (h1:g≠p) (h2:¬X g):¬oS p X g:=fun h=>h.elim h1 h2
theorem wU (t:List UInt8):(kC h0 t).2.length=t.length%64:=by rw[rJ,List.length_drop];omega
theorem LX (s0:List UInt8) (hlen:s0.length≤100000000100) (p:Nat) (X:Nat→Prop) (a:Act) (w:World) (K:KT) (hs:Sz 77 a)
 (e0:sl a 0= .pointer (some ⟨p,0,none⟩)) (hS:HSt w p X s0) (hX:∀q,w.heap.size≤q→X q) (hRk:RU w 5 rD) (hgb:¬X 5) (hkp:5≠p)
 (hK:∀a' w',Sz 77 a'→Kp [0,2,3] a a'→HSt w' p X (s0++List.replicate ((120-s0.length%64)%64) 0)→Fr (oS p X) w w'→K .normal a' w'):
 (fR fSm 0).wp Tryz.prog K a w:=by
 have HK:=Lib.hid hK
 clear hK
 conv=>arg 2;whnf
 refine wp_block ?_
 refine fO 77 (fun a' w'=>∃j,HSt w' p X (s0++List.replicate j 0)∧(∀i,i<j→(s0.length+i)%64≠56)∧Kp [0,2,3] a a'∧Fr (oS p X) w w')
  (fun _ w'=>match w'.cell? ⟨p,8,none⟩with
   |some (.slice _ k _)=>(120-k)%64
   |_=>0) hs ⟨0,by simpa using hS,fun i hi=>by omega,Kp.refl _ _,Fr.refl _ _⟩ ?_
 rintro a1 w1 hs1 ⟨j,hS1,hmin,k1,hf⟩
 have hj63:j≤63:=by
  rcases Nat.lt_or_ge ((120-s0.length%64)%64) j with h|h
  ·exact absurd (by omega) (hmin _ h)
  ·omega
 have hpX:=hS1.1
 obtain⟨-,r,hSt,hO⟩:=id hS1
 obtain⟨A,c,rfl⟩:=hO.slice
 have hlt:(s0++List.replicate j (0:UInt8)).length=s0.length+j:=by simp
 have hmu:(match w1.cell? ⟨p,8,none⟩with
  |some (.slice _ k _)=>(120-k)%64
  |_=>0)=(120-(s0.length+j)%64)%64:=by rw[hSt.rest];show(120-(kC h0 (s0++List.replicate j 0)).2.length)%64=_;rw[wU,hlt]
 refine wp_seq (wp_seq ?_)
 refine Nq p _ c A a1 w1 _ hs1 (k1.t e0) hSt.rest ?_
 intro a2 w2 hs2 k2 o22 f2
 rw[wU,hlt]at o22
 have hS2:=hS1.keep f2 id fun _ _ h=>h
 have hf2:=hf.none f2
 have k2a:Kp [0,2,3] a a2:=fun x hx=>(k2 x (by revert hx;revert x;decide)).trans (k1 x hx)
 refine yB o22 (fun hb=> ?_) (fun hb=> ?_)
 ·have h56:(s0.length+j)%64≠56:=of_decide_eq_true hb
  refine wp_skip ?_
  refine wp_block ?_
  refine Nm p X _ a2 w2 _ hs2 (k2a.t e0) hS2 (fun q hq=>hX q (Nat.le_trans hf2.size hq)) (by rw[hlt];omega) (hRk.keep hf2 (kK hkp hgb)) hgb hkp ?_
  intro a3 w3 hs3 k3 hS3 f3
  have e3:s0++List.replicate j 0++[0]=s0++List.replicate (j+1) (0:UInt8):=by rw[List.append_assoc,List.replicate_succ']
  rw[e3]at hS3
  refine⟨hs3,⟨j+1,hS3,?_,fun x hx=>(k3 x (by revert hx;revert x;decide)).trans (k2a x hx),hf2.trans f3⟩,?_⟩
  ·intro i hi
   rcases Nat.lt_or_ge i j with h|h
   ·exact hmin i h
   ·obtain rfl:i=j:=by omega
    exact h56
  ·rw[hmu]
   obtain⟨-,r3,hSt3,hO3⟩:=hS3
   obtain⟨A3,c3,rfl⟩:=hO3.slice
   rw[hSt3.rest]
   show(120-(kC h0 (s0++List.replicate (j+1) 0)).2.length)%64<_
   rw[wU,show(s0++List.replicate (j+1) (0:UInt8)).length=s0.length+(j+1) by simp]
   omega
 ·have h56:(s0.length+j)%64=56:=by
   rcases Nat.decEq ((s0.length+j)%64) 56 with h|h
   ·exact absurd (of_decide_eq_false hb) (by simpa using h)
   ·exact h
  refine wp_exit (bZ (bZ (cQ ?_)))
  rw[Gm s0 j (by rw[hlt];exact h56) hmin]at hS2
  exact HK.out a2 w2 hs2 k2a hS2 hf2
def nb8 (N i:Nat):List UInt8:=(big 8 N).take i++List.replicate (8-i) 0
theorem FV (N:Nat):∀i,i<8→∃z,(nb8 N i)[i]? =some z∧(nb8 N i).set i (UInt8.ofNat (N/256^(7-i)))=nb8 N (i+1):=by
 intro i hi
 have e:big 8 N=[UInt8.ofNat (N/256^7),UInt8.ofNat (N/256^6),UInt8.ofNat (N/256^5),UInt8.ofNat (N/256^4),UInt8.ofNat (N/256^3),UInt8.ofNat (N/256^2),UInt8.ofNat (N/256^1),UInt8.ofNat (N/256^0)]:=by
  simp only[big,Nat.div_div_eq_div_mul,List.nil_append,List.cons_append,List.append_assoc];simp
 unfold nb8
 rw[e]
 match i,hi with
 |0,_=>exact⟨_,rfl,rfl⟩
 |1,_=>exact⟨_,rfl,rfl⟩
 |2,_=>exact⟨_,rfl,rfl⟩
 |3,_=>exact⟨_,rfl,rfl⟩
 |4,_=>exact⟨_,rfl,rfl⟩
 |5,_=>exact⟨_,rfl,rfl⟩
 |6,_=>exact⟨_,rfl,rfl⟩
 |7,_=>exact⟨_,rfl,rfl⟩
theorem ID (N:Nat):nb8 N 8=big 8 N:=by
 unfold nb8;rw[List.take_of_length_le (by rw[aB];omega)];simp
def YB (w:World) (g:Nat) (t:TypeId) (l:List UInt8):Prop:=Bk w g t (u8s l).toArray
theorem YB.get {w:World} {g:Nat} {t:TypeId} {l:List UInt8} (h:YB w g t l) (k:Nat) (x:UInt8) (hx:l[k]? =some x):w.cell? ⟨g,k,none⟩=some (.int .u8 (x.toNat:Int)):=by
 have h1:=Bk.cell h k
 rw[h1];simp[u8s,hx,u8v]
theorem YB.free {w:World} {g:Nat} {t:TypeId} {l:List UInt8} (h:YB w g t l) (k:Nat):w.frozen? ⟨g,k,none⟩=false:=Bk.free h k
theorem YB.set {w:World} {g:Nat} {t:TypeId} {l:List UInt8} (h:YB w g t l) (k:Nat) (x:UInt8):YB (w.setCell ⟨g,k,none⟩ (.int .u8 (x.toNat:Int))) g t (l.set k x):=by
 have h1:=Bk.set h k (.int .u8 (x.toNat:Int))
 have e:((u8s l).toArray).setIfInBounds k (.int .u8 (x.toNat:Int))=(u8s (l.set k x)).toArray:=by simp[u8s,List.map_set,u8v]
 rw[e]at h1;exact h1
theorem YB.keep {S:Nat→Prop} {w w':World} {g:Nat} {t:TypeId} {l:List UInt8} (h:YB w g t l) (hf:Fr S w w') (hg:¬S g):YB w' g t l:=Bk.keep h hf hg
theorem Mu (N gl:Nat) (hN:N<18446744073709551616) (a:Act) (w:World) (K:KT) (hs:Sz 77 a)
 (e3:sl a 3= .int .u64 (N:Int)) (e4:sl a 4= .pointer (some ⟨gl,0,none⟩)) (e26:sl a 26= .int .i64 ((0:Nat):Int)) (hB:YB w gl 253 (nb8 N 0))
 (hK:∀a' w',Sz 77 a'→Kp [0,2,4] a a'→YB w' gl 253 (big 8 N)→Fr (aI gl) w w'→K .normal a' w'):
 (fR fSm 2).wp Tryz.prog K a w:=by
 have HK:=Lib.hid hK
 clear hK
 conv=>arg 2;whnf
 refine wp_block ?_
 refine fO 77 (fun a' w'=>∃i:Nat,i≤8∧sl a' 26= .int .i64 (i:Int)∧Kp [0,2,3,4] a a'∧YB w' gl 253 (nb8 N i)∧Fr (aI gl) w w') (fun a' _=>8-(intOf (sl a' 26)).toNat)
  hs ⟨0,by omega,e26,Kp.refl _ _,hB,Fr.refl _ _⟩ ?_
 rintro a1 w1 hs1 ⟨i,hi,e26,k1,hB1,hf⟩
 refine wp_seq ?_
 refine M6 i a1 w1 _ hs1 e26 hi ?_
 intro a2 w2 hs2 k2 o27 f2
 have k2a:Kp [0,2,3,4] a a2:=fun x hx=>(k2 x (by revert hx;revert x;decide)).trans (k1 x hx)
 have hB2:=hB1.keep f2 id
 have hf2:=hf.none f2
 refine wp_seq ?_
 refine yB o27 (fun hb=> ?_) (fun hb=> ?_)
 ·have hlt:i<8:=of_decide_eq_true hb
  obtain⟨z,hz,hset⟩:=FV N i hlt
  refine wp_skip ?_
  refine wp_seq (wp_block (wp_seq ?_))
  refine NI i a2 w2 _ hs2 (k2.t e26) ?_
  intro a3 w3 hs3 k3 o5 f3
  have hB3:=hB2.keep f3 id
  have hf3:=hf2.none f3
  have k3a:Kp [0,2,3,4] a a3:=fun x hx=>(k3 x (by revert hx;revert x;decide)).trans (k2a x hx)
  refine NK i (7-i) gl N _ a3 w3 _ hs3 (k3a.t e3) (k3a.t e4) o5 hlt (by omega) hN (hB3.get i z hz) (hB3.free i) ?_
  intro a4 w4 hs4 k4 hw4
  subst hw4
  have hB4:=hB3.set i (UInt8.ofNat (N/256^(7-i)))
  rw[hset]at hB4
  have hf4:=hf3.setCell (p:=⟨gl,i,none⟩) (fun _=>rfl) (.int .u8 ((UInt8.ofNat (N/256^(7-i))).toNat:Int))
  refine MK i a4 _ _ hs4 (k4.t (k3.t (k2.t e26))) hi ?_
  intro a5 w5 hs5 k5 o26 f5
  refine⟨hs5,⟨i+1,by omega,o26,fun x hx=>(k5 x (by revert hx;revert x;decide)).trans ((k4 x (by revert hx;revert x;decide)).trans (k3a x hx)),hB4.keep f5 id,hf4.none f5⟩,?_⟩
  rw[o26,e26];simp only[intOf];omega
 ·have:i=8:=by have:=of_decide_eq_false hb;omega
  subst this
  refine wp_exit (bZ (bZ (cQ ?_)))
  rw[ID]at hB2
  exact HK.out a2 w2 hs2 (fun x hx=>k2a x (by revert hx;revert x;decide)) hB2 hf2
def dg (v:S8) (i:Nat):List UInt8:=(Gd v).take (4*i)++List.replicate (32-4*i) 0
theorem jH (v:S8):(Gd v).length=32:=rfl
theorem K8 (v:S8):dg v 8=Gd v:=by unfold dg;rw[List.take_of_length_le (by rw[jH];omega)];simp
theorem DT (v:S8) (i:Nat) (h:i≤8):(dg v i).length=32:=by unfold dg;rw[List.length_append,List.length_take,jH,List.length_replicate];omega
theorem Na (x:Nat):big 4 x=[UInt8.ofNat (x/256/256/256),UInt8.ofNat (x/256/256),UInt8.ofNat (x/256),UInt8.ofNat x]:=by simp[big]
theorem Ja (v:S8):∀i,i<8→∀x,v.list[i]? =some x→(((((dg v i).set (4*i) (UInt8.ofNat (x.toNat/256/256/256))).set (4*i+1) (UInt8.ofNat (x.toNat/256/256))).set (4*i+2) (UInt8.ofNat (x.toNat/256))).set (4*i+3) (UInt8.ofNat x.toNat))=dg v (i+1):=by
 intro i hi x hx
 have e:Gd v=big 4 v.a.toNat++(big 4 v.b.toNat++(big 4 v.c.toNat++(big 4 v.d.toNat++(big 4 v.e.toNat++(big 4 v.f.toNat++(big 4 v.g.toNat++big 4 v.h.toNat)))))):=by
  simp[Gd,S8.list]
 unfold dg
 rw[e]
 simp only[Na,List.cons_append,List.nil_append]
 match i,hi with
 |0,_=>injection hx with hx;subst hx;rfl
 |1,_=>injection hx with hx;subst hx;rfl
 |2,_=>injection hx with hx;subst hx;rfl
 |3,_=>injection hx with hx;subst hx;rfl
 |4,_=>injection hx with hx;subst hx;rfl
 |5,_=>injection hx with hx;subst hx;rfl
 |6,_=>injection hx with hx;subst hx;rfl
 |7,_=>injection hx with hx;subst hx;rfl
end Go.Proofs.YtcbkaiakdhiloacGreatDoor
namespace Go.Proofs.YtcbkaiakdhiloacGreatDoor
open Go.RowKit Go.Proofs
theorem LJ (v:S8) (gd:Nat) (a:Act) (w:World) (K:KT) (hs:Sz 77 a)
 (e6:sl a 6= .pointer (some ⟨gd,0,none⟩)) (e44:sl a 44= .agg (kD v.list).toArray) (e45:sl a 45= .int .i64 ((0:Nat):Int)) (hB:YB w gd 143 (dg v 0))
 (hK:∀a' w',Sz 77 a'→Kp [2,6] a a'→YB w' gd 143 (Gd v)→Fr (aI gd) w w'→K .normal a' w'):
 (fR fSm 4).wp Tryz.prog K a w:=by
 have HK:=Lib.hid hK
 clear hK
 conv=>arg 2;whnf
 refine wp_block ?_
 refine fO 77 (fun a' w'=>∃i:Nat,i≤8∧sl a' 45= .int .i64 (i:Int)∧Kp [2,6,44] a a'∧YB w' gd 143 (dg v i)∧Fr (aI gd) w w') (fun a' _=>8-(intOf (sl a' 45)).toNat)
  hs ⟨0,by omega,e45,Kp.refl _ _,hB,Fr.refl _ _⟩ ?_
 rintro a1 w1 hs1 ⟨i,hi,e45,k1,hB1,hf⟩
 refine wp_seq ?_
 refine Lt i a1 w1 _ hs1 e45 hi ?_
 intro a2 w2 hs2 k2 o46 f2
 have k2a:Kp [2,6,44] a a2:=fun x hx=>(k2 x (by revert hx;revert x;decide)).trans (k1 x hx)
 have hB2:=hB1.keep f2 id
 have hf2:=hf.none f2
 refine wp_seq ?_
 refine yB o46 (fun hb=> ?_) (fun hb=> ?_)
 ·have hlt:i<8:=of_decide_eq_true hb
  obtain⟨x,hx⟩:∃x,v.list[i]? =some x:=⟨_,List.getElem?_eq_getElem (by rw[S8.list_length];exact hlt)⟩
  refine wp_skip ?_
  refine wp_seq (wp_block (wp_seq ?_))
  refine Mi i v x a2 w2 _ hs2 (k2a.t e44) (k2.t e45) hlt hx ?_
  intro a3 w3 hs3 k3 o7 o8 f3
  have hB3:=hB2.keep f3 id
  have hf3:=hf2.none f3
  have k3a:Kp [2,6,44] a a3:=fun x hx=>(k3 x (by revert hx;revert x;decide)).trans (k2a x hx)
  have hdl:=DT v i hi
  have hset:=Ja v i hlt x hx
  have hxl:=x.toNat_lt
  obtain⟨b3,h3⟩:∃b,b=UInt8.ofNat (x.toNat/256/256/256):=⟨_,rfl⟩
  obtain⟨b2,h2⟩:∃b,b=UInt8.ofNat (x.toNat/256/256):=⟨_,rfl⟩
  obtain⟨b1,h1⟩:∃b,b=UInt8.ofNat (x.toNat/256):=⟨_,rfl⟩
  obtain⟨b0,hb0⟩:∃b,b=UInt8.ofNat x.toNat:=⟨_,rfl⟩
  have q3:(x.toNat:Int)/16777216=(b3.toNat:Int):=by rw[h3,UInt8.toNat_ofNat'];omega
  have q2:(x.toNat:Int)/65536%256=(b2.toNat:Int):=by rw[h2,UInt8.toNat_ofNat'];omega
  have q1:(x.toNat:Int)/256%256=(b1.toNat:Int):=by rw[h1,UInt8.toNat_ofNat'];omega
  have q0:(x.toNat:Int)%256=(b0.toNat:Int):=by rw[hb0,UInt8.toNat_ofNat'];omega
  rw[←h3,←h2,←h1,←hb0]at hset
  have y0:=hB3.set (4*i) b3
  have y1:=y0.set (4*i+1) b2
  have y2:=y1.set (4*i+2) b1
  have y3:=y2.set (4*i+3) b0
  rw[hset]at y3
  have hat:∀(l:List UInt8) (k:Nat),k<l.length→∃z,l[k]? =some z:=fun l k h=>⟨_,List.getElem?_eq_getElem h⟩
  obtain⟨z0,hz0⟩:=hat (dg v i) (4*i) (by omega)
  obtain⟨z1,hz1⟩:=hat ((dg v i).set (4*i) b3) (4*i+1) (by rw[List.length_set];omega)
  obtain⟨z2,hz2⟩:=hat (((dg v i).set (4*i) b3).set (4*i+1) b2) (4*i+2) (by rw[List.length_set,List.length_set];omega)
  obtain⟨z3,hz3⟩:=hat ((((dg v i).set (4*i) b3).set (4*i+1) b2).set (4*i+2) b1) (4*i+3) (by rw[List.length_set,List.length_set,List.length_set];omega)
  refine Ma i _ _ _ _ gd x b0 b1 b2 b3 _ _ _ _ a3 w3 _ hs3 (k3a.t e6) o7 o8 hlt rfl rfl rfl rfl q3 q2 q1 q0
   (hB3.get _ _ hz0) (hB3.free _) (y0.get _ _ hz1) (y0.free _) (y1.get _ _ hz2) (y1.free _) (y2.get _ _ hz3) (y2.free _) ?_
  intro a4 w4 hs4 k4 hw4
  have hf4:Fr (aI gd) w w4:=by
   rw[hw4]
   exact(((hf3.setCell (p:=⟨gd,4*i,none⟩) (fun _=>rfl) _).setCell (p:=⟨gd,4*i+1,none⟩) (fun _=>rfl) _).setCell (p:=⟨gd,4*i+2,none⟩) (fun _=>rfl) _).setCell (p:=⟨gd,4*i+3,none⟩) (fun _=>rfl) _
  rw[←hw4]at y3
  refine Mb i a4 _ _ hs4 (k4.t (k3.t (k2.t e45))) hi ?_
  intro a5 w5 hs5 k5 o45 f5
  refine⟨hs5,⟨i+1,by omega,o45,fun x hx=>(k5 x (by revert hx;revert x;decide)).trans ((k4 x (by revert hx;revert x;decide)).trans (k3a x hx)),y3.keep f5 id,hf4.none f5⟩,?_⟩
  rw[o45,e45];simp only[intOf];omega
 ·have:i=8:=by have:=of_decide_eq_false hb;omega
  subst this
  refine wp_exit (bZ (bZ (cQ ?_)))
  rw[K8]at hB2
  exact HK.out a2 w2 hs2 (fun x hx=>k2a x (by revert hx;revert x;decide)) hB2 hf2
theorem GR (pre:List UInt8) (hlen:pre.length≤100000000000) (p:Nat) (X:Nat→Prop) (w:World) (hS:HSt w p X pre) (hX:∀q,w.heap.size≤q→X q)
 (hRk:RU w 5 rD) (hgb:¬X 5) (hkp:5≠p):
 Calls Tryz.prog 127 #[.pointer (some ⟨p,0,none⟩)] w
  (fun e w'=>e= .returned (.agg (u8s (sha pre)).toArray)∧Fr (oS p X) w w'):=by
 have hpX:=hS.1
 have hpl:p<w.heap.size:=by obtain⟨-,r,h,-⟩:=hS;exact Bk.lt h
 have hkl:=hRk.1
 go_enter Tryz.func127,Tryz.ntmps127
 refine wp_seq ?_
 refine Nj _ w _ ⟨rfl,rfl⟩ ?_
 intro a1 w1 hs1 k1 o2 hw1
 subst hw1
 have hf1:Fr noB w (w.alloc (.cells (u8s (List.replicate 32 0)).toArray 143)):=(Fr.refl _ _).alloc _
 have hR1:YB (w.alloc (.cells (u8s (List.replicate 32 0)).toArray 143)) w.heap.size 143 (List.replicate 32 0):=Bk.new w _ _
 generalize w.alloc (.cells (u8s (List.replicate 32 0)).toArray 143)=w1 at*
 have e0:sl a1 0= .pointer (some ⟨p,0,none⟩):=(k1 0 (by decide)).trans rfl
 generalize hgr:w.heap.size=gr at*
 have hgrl:gr<w1.heap.size:=Bk.lt hR1
 obtain⟨Y,hY⟩:∃Y:Nat→Prop,∀q,Y q↔(X q∧q≠gr):=⟨_,fun _=>Iff.rfl⟩
 have hYp:¬Y p:=fun h=>hpX ((hY p).1 h).1
 have hYk:¬Y 5:=fun h=>hgb ((hY _).1 h).1
 have hYr:¬Y gr:=fun h=>((hY gr).1 h).2 rfl
 have hYX:∀q,w1.heap.size≤q→Y q:=fun q hq=>(hY q).2 ⟨hX q (by omega),by omega⟩
 have hYs:∀q,oS p Y q→oS p X q:=fun q h=>h.elim .inl fun h=> .inr ((hY q).1 h).1
 have hS1:HSt w1 p Y pre:=by
  obtain⟨-,r,h1,h2⟩:=hS
  exact⟨hYp,r,h1.keep hf1 id,(h2.lower fun q hq hx=>(hY q).2 ⟨hx,by omega⟩).keep hf1 fun _ _ h=>h⟩
 have hgp:gr≠p:=by omega
 refine wp_seq ?_
 obtain⟨-,r1,hSt1,-⟩:=id hS1
 refine M0 p pre.length a1 w1 _ hs1 e0 (by omega) hSt1.num ?_
 intro a2 w2 hs2 k2 o3 f2
 have hf2:Fr (oS p X) w w2:=(hf1.trans f2).of_no _
 have hS2:=hS1.keep f2 id fun _ _ h=>h
 have hR2:=hR1.keep f2 id
 have hsz2:=f2.size
 refine wp_seq ?_
 refine Nu p Y pre a2 w2 _ hs2 (k2.t e0) hS2 (fun q hq=>hYX q (Nat.le_trans hsz2 hq)) (by omega) ((hRk.keep hf1 id).keep f2 id) hYk hkp ?_
 intro a3 w3 hs3 k3 hS3 f3
 have hf3:Fr (oS p X) w w3:=hf2.trans' f3 fun b _ h=>hYs b h
 have hR3:=hR2.keep f3 (kK hgp hYr)
 have hRk3:RU w3 5 rD:=hRk.keep hf3 (kK hkp hgb)
 have k3a:Kp [0,2,3] a2 a3:=fun x hx=>k3 x (by revert hx;revert x;decide)
 have hpl3:(pre++[128]).length=pre.length+1:=by simp
 refine wp_seq ?_
 refine LX (pre++[128]) (by omega) p Y a3 w3 _ hs3 (k3a.t (k2.t e0)) hS3 (fun q hq=>hYX q (by have:=f3.size;omega)) hRk3 hYk hkp ?_
 intro a4 w4 hs4 k4 hS4 f4
 have hpad:pre++[128]++List.replicate ((120-(pre++[128]).length%64)%64) 0=yE pre:=by rw[hpl3,yE];congr 2;omega
 rw[hpad]at hS4
 have hf4:Fr (oS p X) w w4:=hf3.trans' f4 fun b _ h=>hYs b h
 have hR4:=hR3.keep f4 (kK hgp hYr)
 have k4a:Kp [0,2,3] a2 a4:=fun x hx=>(k4 x hx).trans (k3a x hx)
 have e3d:sl a4 3= .int .u64 ((pre.length*8:Nat):Int):=k4a.t o3
 have e2d:sl a4 2= .pointer (some ⟨gr,0,none⟩):=k4a.t (k2.t o2)
 have e0d:sl a4 0= .pointer (some ⟨p,0,none⟩):=k4a.t (k2.t e0)
 refine wp_seq ?_
 refine Nd a4 w4 _ hs4 ?_
 intro a5 w5 hs5 k5 o4 hw5
 subst hw5
 have f5:Fr noB w4 (w4.alloc (.cells (u8s (List.replicate 8 0)).toArray 253)):=(Fr.refl _ _).alloc _
 have hB5:YB (w4.alloc (.cells (u8s (List.replicate 8 0)).toArray 253)) w4.heap.size 253 (nb8 (pre.length*8) 0):=Bk.new w4 _ _
 generalize w4.alloc (.cells (u8s (List.replicate 8 0)).toArray 253)=w5 at*
 have hgl4:gr<w4.heap.size:=Bk.lt hR4
 have hpl4:p<w4.heap.size:=by obtain⟨-,r,h,-⟩:=hS4;exact Bk.lt h
 generalize hgle:w4.heap.size=gl at*
 have hgl5:gl<w5.heap.size:=Bk.lt hB5
 obtain⟨Z,hZ⟩:∃Z:Nat→Prop,∀q,Z q↔(Y q∧q≠gl):=⟨_,fun _=>Iff.rfl⟩
 have hZp:¬Z p:=fun h=>hYp ((hZ p).1 h).1
 have hZk:¬Z 5:=fun h=>hYk ((hZ _).1 h).1
 have hZr:¬Z gr:=fun h=>hYr ((hZ _).1 h).1
 have hZl:¬Z gl:=fun h=>((hZ gl).1 h).2 rfl
 have hsz14:w1.heap.size≤gl:=by rw[←hgle];exact Nat.le_trans (Nat.le_trans hsz2 f3.size) f4.size
 have hZX:∀q,w5.heap.size≤q→Z q:=fun q hq=>(hZ q).2 ⟨hYX q (by omega),by omega⟩
 have hZs:∀q,oS p Z q→oS p X q:=fun q h=>hYs q (h.elim .inl fun h=> .inr ((hZ q).1 h).1)
 have hS5:HSt w5 p Z (yE pre):=by
  obtain⟨-,r,h1,h2⟩:=hS4
  exact⟨hZp,r,h1.keep f5 id,(h2.lower fun q hq hx=>(hZ q).2 ⟨hx,by omega⟩).keep f5 fun _ _ h=>h⟩
 have hf5:Fr (oS p X) w w5:=hf4.none f5
 have hR5:=hR4.keep f5 id
 refine wp_seq (wp_seq ?_)
 refine Nn a5 w5 _ hs5 ?_
 intro a6 w6 hs6 k6 o26 f6
 refine Mu (pre.length*8) gl (by omega) a6 w6 _ hs6 (k6.t (k5.t e3d)) (k6.t o4) o26 (hB5.keep f6 id) ?_
 intro a7 w7 hs7 k7 hB7 f7
 have hX5:X gl:=((hY gl).1 (hYX gl hsz14)).1
 have hf7:Fr (oS p X) w w7:=(hf5.none f6).trans' f7 fun b _ h=>by unfold aI at h;subst h;exact .inr hX5
 have hS7:HSt w7 p Z (yE pre):=(hS5.keep f6 id fun _ _ h=>h).keep f7 (by unfold aI;omega) fun q hq h=>by unfold aI at h;subst h;exact hZl hq
 have hR7:=(hR5.keep f6 id).keep f7 (by unfold aI;omega)
 have hRk7:RU w7 5 rD:=hRk.keep hf7 (kK hkp hgb)
 have k7a:Kp [0,2] a4 a7:=fun x hx=>(k7 x (by revert hx;revert x;decide)).trans ((k6 x (by revert hx;revert x;decide)).trans (k5 x (by revert hx;revert x;decide)))
 have hsz7:w5.heap.size≤w7.heap.size:=Nat.le_trans f6.size f7.size
 refine wp_seq ?_
 refine L7 p gl Z (yE pre) (big 8 (pre.length*8)) a7 w7 _ hs7 (k7a.t e0d) (k7.t (k6.t o4)) hS7 hB7 (aB _ _) (by omega) (fun q hq=>hZX q (by omega))
  (by unfold yE;simp;omega) hRk7 hZk hkp ?_
 intro a8 w8 hs8 k8 hS8 f8
 have hpd:yE pre++big 8 (pre.length*8)=lD pre:=by rw[lD,Nat.mul_comm]
 rw[hpd]at hS8
 have hf8:Fr (oS p X) w w8:=hf7.trans' f8 fun b _ h=>hZs b h
 have hR8:=hR7.keep f8 (kK hgp hZr)
 have k8a:Kp [0,2] a4 a8:=fun x hx=>(k8 x (by revert hx;revert x;decide)).trans (k7a x hx)
 obtain⟨-,r8,hSt8,-⟩:=hS8
 refine wp_seq ?_
 refine MG a8 w8 _ hs8 ?_
 intro a9 w9 hs9 k9 o6 hw9
 subst hw9
 have f9:Fr noB w8 (w8.alloc (.cells (u8s (List.replicate 32 0)).toArray 143)):=(Fr.refl _ _).alloc _
 have hD9:YB (w8.alloc (.cells (u8s (List.replicate 32 0)).toArray 143)) w8.heap.size 143 (dg (kC h0 (lD pre)).1 0):=Bk.new w8 _ _
 generalize w8.alloc (.cells (u8s (List.replicate 32 0)).toArray 143)=w9 at*
 have hgr8:gr<w8.heap.size:=Bk.lt hR8
 have hw8:w5.heap.size≤w8.heap.size:=Nat.le_trans hsz7 f8.size
 have hfin:Gd (kC h0 (lD pre)).1=sha pre:=rfl
 have hSt9:=hSt8.keep f9 id
 generalize(kC h0 (lD pre)).1=F at*
 generalize hgde:w8.heap.size=gd at*
 refine wp_seq (wp_seq ?_)
 refine Mc p F a9 w9 _ hs9 (k9.t (k8a.t e0d)) hSt9.ru ?_
 intro a10 w10 hs10 k10 o44 o45 f10
 refine LJ F gd a10 w10 _ hs10 (k10.t o6) o44 o45 (hD9.keep f10 id) ?_
 intro a11 w11 hs11 k11 hD11 f11
 have hXd:X gd:=hX gd (by omega)
 have hf11:Fr (oS p X) w w11:=((hf8.none f9).none f10).trans' f11 fun b _ h=>by unfold aI at h;subst h;exact .inr hXd
 have hR11:=((hR8.keep f9 id).keep f10 id).keep f11 (by unfold aI;omega)
 have e2k:sl a11 2= .pointer (some ⟨gr,0,none⟩):=k11.t (k10.t (k9.t (k8a.t e2d)))
 refine wp_seq ?_
 refine Lr gd gr (Gd F) _ a11 w11 _ hs11 e2k (k11.t (k10.t o6)) hD11 (jH F) hR11 rfl ?_
 intro a12 w12 hs12 k12 hR12 f12
 have hXr:X gr:=hX gr (Nat.le_refl _)
 refine wp_ret ?_
 refine bodyPost_ret (results_cell_row Tryz.results127 a12.tmps w12 gr _ _ _ _ (k12.t e2k) hR12 Tryz.underlying143 rfl (by
  have hsz:(Tryz.prog.info? 143).map (·.size)=some 32:=by kernel_rfl
  rw[hsz];simp[u8s,jH])) hs12.defers ?_
 rw[hfin]
 exact⟨rfl,hf11.trans' f12 fun b _ h=>by unfold aI at h;subst h;exact .inr hXr⟩
end Go.Proofs.YtcbkaiakdhiloacGreatDoor
namespace Go.Proofs.YtcbkaiakdhiloacGreatDoor
open Go.RowKit Go.Proofs
attribute [local go_sem] aG aD aC aE
theorem Gh (L:Lay) (s:St) (f:List UInt8) (w:World) (h:aA w L s):
 Calls Tryz.prog 16 #[.pointer (some ⟨L.p,0,none⟩),.string (bs f)] w (bH L (s.put f).1 (.bool (s.put f).2) w):=by
 have c13:=h.g13
 have hrp:=FG L.rx L.rxs s.c.rx s.rx f w h.ok.rx0 (by have:=h.ok.rx1;omega) h.rx
 have Hrp:=Lib.hid hrp
 obtain⟨i,cs,hrr,hrg,hrs,hri,hql,hne,hso⟩:=id h.rx
 have Hql:=Lib.hid hql
 clear hrp hrr hrg hrs hri hne hso hql i cs
 go_enter Tryz.func16,Tryz.ntmps16
 go_wp2_with fail
 refine Hrp.out.mono ?_
 rintro e w2 ⟨rfl,hr2,hf2⟩
 have hB2:=h.rxTurn hf2 hr2
 have hq:=Hql.out
 go_wp2_with fail
 go_ret
 refine⟨?_,?_,(hf2.mono fun b _ hb=>by rcases hb with rfl|rfl;exact Cw L;exact wL L)⟩
 ·unfold St.put
  by_cases hfu:s.rx.length=s.c.rx
  ·rw[if_pos hfu,decide_eq_false (by omega)];rfl
  ·rw[if_neg hfu,decide_eq_true (by omega)];rfl
 ·unfold St.put
  by_cases hfu:s.rx.length=s.c.rx
  ·rw[if_pos hfu];rw[if_neg (by omega)]at hB2;exact hB2
  ·rw[if_neg hfu];rw[if_pos (by omega)]at hB2;exact hB2
theorem EY (L:Lay) (s:St) (w:World) (h:aA w L s):
 Calls Tryz.prog 15 #[.pointer (some ⟨L.p,0,none⟩)] w (bH L s.take.1 (.tuple #[.string (bs (s.take.2.getD [])),.bool s.take.2.isSome]) w):=by
 have c14:=h.g14
 have hrp:=vU L.tx L.txs s.c.tx s.tx w h.ok.tx0 (by have:=h.ok.tx1;omega) h.tx
 have Hrp:=Lib.hid hrp
 clear hrp
 go_enter Tryz.func15,Tryz.ntmps15
 go_wp2_with fail
 refine Hrp.out.mono ?_
 rintro e w2 ⟨rfl,hr2,hf2⟩
 have hB2:=h.txTurn hf2 hr2
 go_wp2_with fail
 go_ret2
 refine⟨?_,?_,(hf2.mono fun b _ hb=>by rcases hb with rfl|rfl;exact BC L;exact wB L)⟩
 ·unfold St.take;cases s.tx<;>rfl
 ·unfold St.take
  cases hq:s.tx with
  |nil=>rw[hq]at hB2;have e:s={s with tx:=[]}:=by {cases s;simp only at hq;subst hq;rfl}
        show aA w2 L s
        rw[e];exact hB2
  |cons f r=>rw[hq]at hB2;exact hB2
theorem Fc (L:Lay) (s:St) (w:World) (h:aA w L s):
 Calls Tryz.prog 14 #[.pointer (some ⟨L.p,0,none⟩)] w fun e w'=>e= .returned (.agg #[.int .i64 s.now,.int .i64 (s.lease:Int),.int .i64 (s.phase:Int),.int .u32 (s.address:Int),.int .i64 s.boots,.int .i64 (s.image.length:Int),.int .i64 s.lost,.int .i64 (s.cache.length:Int)])∧Fr noB w w':=by
 obtain⟨g,hg⟩:∃g,w.heap.size=g:=⟨_,rfl⟩
 have hf1:Fr noB w (w.alloc (.cells #[.int .i64 0,.int .i64 0,.int .i64 0,.int .u32 0,.int .i64 0,.int .i64 0,.int .i64 0,.int .i64 0] 40)):=(Fr.refl _ _).alloc _
 have hB1:=h.none hf1
 have hg1:=Bk.new w 40 #[.int .i64 0,.int .i64 0,.int .i64 0,.int .u32 0,.int .i64 0,.int .i64 0,.int .i64 0,.int .i64 0]
 rw[hg]at hg1
 have Hg:=Lib.hid hg
 clear hg
 go_enter Tryz.func14,Tryz.ntmps14
 go_upto_region 1 with fail
 rw[Hg.out]
 generalize w.alloc (.cells #[.int .i64 0,.int .i64 0,.int .i64 0,.int .u32 0,.int .i64 0,.int .i64 0,.int .i64 0,.int .i64 0] 40)=w1 at*
 refine wpr (fun w'=>aA w' L s∧Bk w' g 40 #[.int .i64 0,.int .i64 0,.int .i64 0,.int .u32 0,.int .i64 0,.int .i64 0,.int .i64 0,.int .i64 0]∧Fr noB w w') [35] (.p 0 (.p 1 (.p 2 (.p 4 (.p 5 (.p 6 (.p 7 (.p 9 (.p 10 (.p 11 (.p 12 (.p 14 (.p 16 (.p 17 (.p 18 (.p 20 (.p 21 (.p 22 (.p 23 (.p 26 (.p 27 (.p 28 (.p 30 (.p 31 (.p 32 (.q 3 (.q 8 (.q 13 (.q 19 (.q 24 (.p 25 (.q 29 (.e 15 (.e 33 (.p 34 (.e 35 (.nil))))))))))))))))))))))))))))))))))))) (⟨hB1.drew,hg1.drew,hf1.drew⟩) ?_
 intro ops Q' hO hQ' wr1 hR1
 iterate 25 refine pP hO ?_
 iterate 5 (refine pQ hO rfl rfl (fun w' hS=>by obtain⟨hB,hG,hF⟩:=hS;have c16:=hB.g16;have c18:=hB.g18;have c19:=hB.g19;have c21:=hB.g21;have c33:=hB.g33;have c44:=hB.g44;exact qd) ?_)
 refine pP hO ?_
 refine pQ hO rfl rfl (fun w' hS=>by obtain⟨hB,hG,hF⟩:=hS;have c16:=hB.g16;have c18:=hB.g18;have c19:=hB.g19;have c21:=hB.g21;have c33:=hB.g33;have c44:=hB.g44;exact qd) ?_
 refine gD hO rfl rfl rfl (fun K hK=> ?_)
 go_simp
 refine(bI L s _ hR1.1).mono ?_
 rintro e w2 ⟨rfl,h2⟩
 subst h2
 refine hK _ _ (hR1) (fun hR_15=> ?_)
 clear hK K
 refine gD hO rfl rfl rfl (fun K hK=> ?_)
 go_simp
 refine(Gw L.p 15 L.mp s.cache _ hR_15.1.g15 hR_15.1.mp hR_15.1.ok.cache).mono ?_
 rintro e w3 ⟨rfl,f3⟩
 refine hK _ _ (⟨hR_15.1.none f3,hR_15.2.1.keep f3 (fun x=>x),hR_15.2.2.none f3⟩) (fun hR_33=> ?_)
 clear hK K
 refine pP hO ?_
 refine iL hO rfl rfl rfl (fun K hK=> ?_)
 refine jG 40 (.tmp 2) (.tmp 37) rfl g _ _ #[.int .i64 s.now,.int .i64 (s.lease:Int),.int .i64 (s.phase:Int),.int .u32 (s.address:Int),.int .i64 s.boots,.int .i64 (s.image.length:Int),.int .i64 s.lost,.int .i64 (s.cache.length:Int)] rfl rfl hR_33.2.1 rfl (by kernel_rfl) (by kernel_rfl) ?_
 intro w9 hx9 hf9
 refine hK _ _ ?_
 clear hK K
 refine bL (hQ' _ _ ?_)
 go_wp2_with fail
 refine bodyPost_ret (results_cell_row Tryz.results14 _ w9 g _ _ _ _ rfl hx9 Tryz.underlying40 rfl (by kernel_rfl)) rfl ?_
 have hF9:Fr noB w w9:=hR_33.2.2.trans' hf9 (fun b hb e=>by have e':b=g:=e;have:=Hg.out;omega)
 exact⟨rfl,hF9⟩
theorem JB (L:Lay) (s:St) (w:World) (h:aA w L s):(convert 102 9 (.slice L.img s.image.length L.icap)).run Tryz.prog w= .ok (.string (bs s.image)) w:=by
 obtain⟨A,cap,hv,hA⟩:=eS h.im
 cases hv
 exact jA w _ _ 5 Tryz.underlying102 Tryz.underlying5 Tryz.underlying9 noB L.img _ _ _ (mJ h.im) (hA.imp id (fun⟨g,hg⟩=>⟨g,0,hg⟩))
end Go.Proofs.YtcbkaiakdhiloacGreatDoor
namespace Go.Proofs.YtcbkaiakdhiloacGreatDoor
open Go.RowKit Go.Proofs
attribute [local go_sem] aG aD aC
theorem nA (l:List UInt8) (i n:Nat):(l.drop i).take n=sub l i (i+n):=by unfold sub;rw[List.drop_take,Nat.add_sub_cancel_left]
section
variable (i p:Nat) (l:List UInt8) (w:World) (hR:Rd w p (l.drop i)) (hl:l.length≤9223372036854775807)
include hR hl
end
theorem MY (p:Nat) (l:List UInt8) (w:World) (hR:Rd w p l) (hl:l.length≤9223372036854775807):
 Calls Tryz.prog 99 #[.pointer (some ⟨p,0,none⟩)] w (DC p l 4 w (.int .u32 (num (l.take 4)))):=by
 go_enter Tryz.func99,Tryz.ntmps99
 go_wp2_with fail
 refine(Ll 4 p l _ hR (by omega) hl).mono ?_
 rintro e w1 (⟨hle,rfl,hR1,hf1⟩|⟨hlt,rfl,hf1⟩)
 ·generalize num (l.take 4)=x at*
  go_wp2_with fail
  go_ret
  exact .inl ⟨hle,rfl,hR1,hf1⟩
 ·exact⟨rfl,.inr ⟨hlt,rfl,hf1⟩⟩
end Go.Proofs.YtcbkaiakdhiloacGreatDoor
namespace Go.Proofs.YtcbkaiakdhiloacGreatDoor
open Go.RowKit Go.Proofs
attribute [local go_sem] aG aD aC aE
theorem EM (l:List UInt8) (w:World) (hl:4≤l.length) (hl2:l.length≤9223372036854775807):
 Calls Tryz.prog 234 #[.string (bs l),.func (.func 99) #[] #[]] w fun e w'=>e= .returned (.tuple #[.int .u32 (num (l.take 4):Int),.int .i64 0])∧Fr noB w w':=by
 refine(Ey 7 (by decide) l w 99 #[] noB (fun x _=>x= .int .u32 (num (l.take 4):Int)) (fun _=>False) (fun _ _ _ x=>x) (fun x _ h=>⟨#[x],rfl,_,h⟩) (fun x _ _ h _=>h) ?_).mono ?_
 ·intro p w1 hp hR hf
  refine(MY p l w1 hR hl2).mono ?_
  rintro e w2 (⟨_,rfl,_,hf2⟩|⟨hlt,_,_⟩)
  ·exact⟨.inl ⟨_,rfl,rfl⟩,hf2.mono fun k _ h=> .inl h⟩
  ·omega
 ·rintro e w' ⟨⟨x,rfl,rfl⟩|⟨_,h,_⟩,hf⟩
  ·exact⟨rfl,hf⟩
  ·exact h.elim
def fT (os:List bK) (code:UInt8) (more:Bool):Option Nat:=match eF os code with
 |some d=>if d.length=4∨(more=true∧4≤d.length)then some (num (d.take 4))else none
 |none=>none
theorem zK:∀(os:List bK) (c:UInt8) (dd:List UInt8),eF os c=some dd→dd.length≤wtO os
 |[],_,_,h=>by cases h
 |o::r,c,dd,h=>by
  unfold eF at h
  simp only[wtO]
  split at h
  ·cases h;omega
  ·have:=zK r c dd h;omega
theorem gT (d:sI) (A:Option Addr) (cap n:Nat) (code:UInt8) (more:Bool) (w:World) (hn:d.os.length=n) (hA:SlR w noB 2 A n (fY d.os)) (hwt:wtO d.os≤1099511627776):
 Calls Tryz.prog 189 #[.agg #[.bool d.reply,.int .u32 (d.xid:Int),.int .u32 (d.client:Int),.int .u32 (d.yours:Int),.int .u32 (d.next:Int),.int .u8 (d.mac.1.toNat:Int),.int .u8 (d.mac.2.1.toNat:Int),.int .u8 (d.mac.2.2.1.toNat:Int),.int .u8 (d.mac.2.2.2.1.toNat:Int),.int .u8 (d.mac.2.2.2.2.1.toNat:Int),.int .u8 (d.mac.2.2.2.2.2.toNat:Int),.slice A n cap],.int .u8 (code.toNat:Int),.bool more] w fun e w'=>e= .returned (.tuple #[.int .u32 (((fT d.os code more).getD 0:Nat):Int),.bool (fT d.os code more).isSome])∧Fr noB w w':=by
 have hpa:=(Bk.new w 62 #[.bool d.reply,.int .u32 (d.xid:Int),.int .u32 (d.client:Int),.int .u32 (d.yours:Int),.int .u32 (d.next:Int),.int .u8 (d.mac.1.toNat:Int),.int .u8 (d.mac.2.1.toNat:Int),.int .u8 (d.mac.2.2.1.toNat:Int),.int .u8 (d.mac.2.2.2.1.toNat:Int),.int .u8 (d.mac.2.2.2.2.1.toNat:Int),.int .u8 (d.mac.2.2.2.2.2.toNat:Int),.slice A n cap]).cells
 have hf0:Fr noB w (w.alloc (.cells #[.bool d.reply,.int .u32 (d.xid:Int),.int .u32 (d.client:Int),.int .u32 (d.yours:Int),.int .u32 (d.next:Int),.int .u8 (d.mac.1.toNat:Int),.int .u8 (d.mac.2.1.toNat:Int),.int .u8 (d.mac.2.2.1.toNat:Int),.int .u8 (d.mac.2.2.2.1.toNat:Int),.int .u8 (d.mac.2.2.2.2.1.toNat:Int),.int .u8 (d.mac.2.2.2.2.2.toNat:Int),.slice A n cap] 62)):=(Fr.refl _ _).alloc _
 have hnl:n≤1099511627776:=by have:=jO d.os;omega
 have hcall:=FN noB A n cap d.os code _ (hA.keep hf0) (by omega)
 have Hcall:=Lib.hid hcall
 have Hn:=Lib.hid hn
 clear hcall hn
 go_enter Tryz.func189,Tryz.ntmps189
 go_wp2_with fail
 refine Hcall.out.mono ?_
 rintro e w2 ⟨rfl,f2⟩
 have hF2:=hf0.none f2
 clear hpa hf0 f2 Hcall
 cases ho:eF d.os code with
 |none=>
  have hnu:fT d.os code more=none:=by unfold fT;rw[ho]
  have Hh:=Lib.hid (And.intro ho hnu)
  clear ho hnu
  simp only[Option.getD_none,Option.isSome_none]
  go_wp2_with fail
  go_ret2
  exact⟨by rw[Hh.out.2];rfl,hF2⟩
 |some dd=>
  have hdl:=zK d.os code dd ho
  simp only[Option.getD_some,Option.isSome_some]
  have hdl2:dd.length≤1099511627776:=by omega
  by_cases h4:dd.length=4
  ·have hnu:fT d.os code more=some (num (dd.take 4)):=by unfold fT;rw[ho];exact if_pos (.inl h4)
   have b4:((dd.length:Int) !=4)=false:=by simp;omega
   have hr:=fun w=>EM dd w (by omega) (by omega)
   generalize num (dd.take 4)=x at*
   have Hr:=Lib.hid hr
   have Hh:=Lib.hid (And.intro ho (And.intro hnu h4))
   clear ho hnu h4 hr hwt
   go_wp2_with fail
   refine(Hr.out _).mono ?_
   rintro e w3 ⟨rfl,f3⟩
   go_wp2_with fail
   go_ret2
   exact⟨by rw[Hh.out.2.1];rfl,hF2.none f3⟩
  ·have b4:((dd.length:Int) !=4)=true:=by simp;omega
   cases more with
   |false=>
    have hnu:fT d.os code false=none:=by unfold fT;rw[ho];exact if_neg (by rintro(x|⟨x,_⟩);exact h4 x;cases x)
    have Hh:=Lib.hid (And.intro ho (And.intro hnu h4))
    clear ho hnu h4 hwt
    go_wp2_with fail
    go_ret2
    exact⟨by rw[Hh.out.2.1];rfl,hF2⟩
   |true=>
    by_cases h5:4≤dd.length
    ·have hnu:fT d.os code true=some (num (dd.take 4)):=by unfold fT;rw[ho];exact if_pos (.inr ⟨rfl,h5⟩)
     have b5:((dd.length:Int)<4)=False:=by simp;omega
     have hr:=fun w=>EM dd w (by omega) (by omega)
     generalize num (dd.take 4)=x at*
     have Hr:=Lib.hid hr
     have Hh:=Lib.hid (And.intro ho (And.intro hnu (And.intro h4 h5)))
     clear ho hnu h4 hr hwt h5
     go_wp2_with fail
     refine(Hr.out _).mono ?_
     rintro e w3 ⟨rfl,f3⟩
     go_wp2_with fail
     go_ret2
     exact⟨by rw[Hh.out.2.1];rfl,hF2.none f3⟩
    ·have hnu:fT d.os code true=none:=by unfold fT;rw[ho];exact if_neg (by rintro(x|⟨_,x⟩);exact h4 x;exact h5 x)
     have b5:((dd.length:Int)<4)=True:=by simp;omega
     have Hh:=Lib.hid (And.intro ho (And.intro hnu (And.intro h4 h5)))
     clear ho hnu h4 hwt h5
     go_wp2_with fail
     go_ret2
     exact⟨by rw[Hh.out.2.1];rfl,hF2⟩
end Go.Proofs.YtcbkaiakdhiloacGreatDoor
namespace Go.Proofs.YtcbkaiakdhiloacGreatDoor
open Go.RowKit Go.Proofs
attribute [local simp] dM ibq ibn eqN ltN leN eqL ltL gtL leL geL
attribute [local go_sem] aG aD aC aE
section
variable {P:Program} {opl:List Oper} {Q:Exit→Act→World→Prop} {n:Nat} {u:Nat→Value} {l:List (Nat×Value)} {w:World} {o:Oper} {v:Value} {L:Lay} {s:St} {k:Nat}
theorem dB2 {S:World→Prop} {brk t:List Nat} {c:Bool} {j:Nat} {r:Result Next} (s':St) (ok:s'.Ok) (hB:aA w L s) (hS:∀w',aA w' L s'→Fr (bM L) w w'→S w') (h:∀w',aA w' L s'→Fr (bM L) w w'→wdr P opl Q S brk true t (F n u l) w')
 (hk:Nat.blt j 1000=true:=by rfl) (h0:kdO opl j=2:=by rfl) (ho:opl[j]? =some o:=by rfl) (hw:Region.wanted o (yielded opl.toArray (F n u l).tmps)=true:=by first|exact aR rfl|exact wg rfl rfl rfl|(refine aP rfl (aO (Lib.hid rfl) rfl) ?_;go_simp<;>fail)) (hd:o.dst=none:=by rfl) (hb:(c&& !(brk.contains j))=true:=by rfl)
 (hv:(∀j,w.cell? ⟨L.p,j,none⟩=(dM s L)[j]?)→(∀j,w.frozen? ⟨L.p,j,none⟩=false)→(execOp (F n u l).eval o).run P w=r:=by intro _ _;go_simp;((try with_reducible rfl);done)) (hr:r= .ok .skip (w.setCell ⟨L.p,k,none⟩ v):=by rfl)
 (he:(dM s L).setIfInBounds k v=dM s' L:=by rfl) (hc:s'.c=s.c:=by rfl) (hrx:s'.rx=s.rx:=by rfl) (ht:s'.tx=s.tx:=by rfl) (hm:s'.cache=s.cache:=by rfl) (hi:s'.image=s.image:=by rfl):wdr P opl Q S brk c (j::t) (F n u l) w:=by
 rw[aV,plN hk h0]
 refine H7 (cV ho) hw hb fun K hK=> ?_
 unfold Oper.wp
 rw[hv hB.bk.cells hB.fr,hr]
 have h1:=hB.set1 k v s' he hc hrx ht hm hi ok
 have h2:=bV L w k v
 show K ((F n u l).put o.dst undef) _
 rw[hd]
 refine hK _ _ (hS _ h1 h2) fun _=> ?_
 rw[←aV];exact h _ h1 h2
end
theorem kG (os:List bK) (c:UInt8):St.number os c=fT os c false:=by
 unfold St.number fT
 cases eF os c with
 |none=>rfl
 |some d=>
  simp only
  by_cases h:d.length=4
  ·rw[if_pos h,if_pos (.inl h),List.take_of_length_le (by omega)]
  ·rw[if_neg h,if_neg (by rintro(x|⟨x,_⟩);exact h x;cases x)]
theorem E0:∀(l:List UInt8) (a:Nat),l.foldl (fun n b=>256*n+b.toNat) a<(a+1)*256^l.length
 |[],a=>by simp
 |b::l,a=>by
  have h:=E0 l (256*a+b.toNat)
  have hb:=b.toNat_lt
  have h2:(256*a+b.toNat+1)*256^l.length≤((a+1)*256)*256^l.length:=Nat.mul_le_mul_right _ (by omega)
  rw[List.foldl_cons,List.length_cons,Nat.pow_succ,Nat.mul_comm (256^l.length) 256,←Nat.mul_assoc]
  omega
theorem BR (l:List UInt8):num l<256^l.length:=by
 have:=E0 l 0
 unfold num;omega
theorem II (l:List UInt8) (h:l.length≤4):num l<4294967296:=by
 have:=BR l
 exact Nat.lt_of_lt_of_le this (by
  have:(256:Nat)^l.length≤256^4:=Nat.pow_le_pow_right (by decide) h
  omega)
theorem nV (os:List bK) (c:UInt8) (m:Bool) (x:Nat) (h:fT os c m=some x):x<4294967296:=by
 unfold fT at h
 split at h
 ·split at h
  ·cases h;exact II _ (by rw[List.length_take];omega)
  ·cases h
 ·cases h
theorem Db (L:Lay) (s:St) (d:sI) (A:Option Addr) (cap n time:Nat) (w:World) (h:aA w L s) (hn:d.os.length=n) (hA:SlR w (bM L) 2 A n (fY d.os)) (hwt:wtO d.os≤1099511627776) (htm:time<4294967296):
 Calls Tryz.prog 235 #[.pointer (some ⟨L.p,0,none⟩),.agg #[.bool d.reply,.int .u32 (d.xid:Int),.int .u32 (d.client:Int),.int .u32 (d.yours:Int),.int .u32 (d.next:Int),.int .u8 (d.mac.1.toNat:Int),.int .u8 (d.mac.2.1.toNat:Int),.int .u8 (d.mac.2.2.1.toNat:Int),.int .u8 (d.mac.2.2.2.1.toNat:Int),.int .u8 (d.mac.2.2.2.2.1.toNat:Int),.int .u8 (d.mac.2.2.2.2.2.toNat:Int),.slice A n cap],.int .u32 (time:Int)] w (bH L (s.times d time) (.tuple #[]) w):=by
 obtain⟨r,hr⟩:∃r,r=s.times d time:=⟨_,rfl⟩
 rw[←hr]
 unfold St.times at hr
 simp only[kG]at hr
 have Hgn:=Lib.hid (show ¬bM L w.heap.size from fun hx=>Nat.lt_irrefl _ (h.lt _ hx))
 refine en Tryz.func235 Tryz.ntmps235 ?_
 refine W ?_
 refine sA ?_
 intro w1 hG f1
 replace h:=h.none f1
 generalize w.heap.size=gx at hG Hgn⊢
 refine W ?_
 refine sB {s with t1:=0} {h.ok with} h ?_
 intro w2 h2 f2
 refine W ?_
 refine sB {s with t1:=0,t2:=0} {h2.ok with} h2 ?_
 intro w3 h3 f3
 refine W ?_
 refine sB {s with t1:=0,t2:=0,untl:=0} {h3.ok with} h3 ?_
 intro w4 h4 f4
 have f5:=(f2.trans f3).trans f4
 replace hG:=hG.keep f5 Hgn.out
 have f:=(f1.of_no (bM L)).trans f5
 clear h h2 h3 f1 f2 f3 f4 f5
 by_cases ht:time=4294967295
 ·rw[if_pos ht]at hr
  clear hG hA
  refine W ?_
  exact⟨rfl,by rw[hr];exact h4,f⟩
 rw[if_neg ht]at hr
 have q0:IntKind.i64.wrap (time:Int)=(time:Int):=IntWalk.i64_in _ (by omega)
 have hx0:=nV d.os 58 false
 have hy0:=nV d.os 59 false
 have hA5:=(hA.keep f).sub (T:=noB) (fun _ _ x=>x.elim)
 have HR:=Lib.hid hr
 have HO:=Lib.hid (And.intro hx0 hy0)
 clear hA hr hx0 hy0
 obtain⟨u1,hu1⟩:∃u1,u1=time/2:=⟨_,rfl⟩
 obtain⟨u8,hu8⟩:∃u8,u8=time/8:=⟨_,rfl⟩
 obtain⟨u2,hu2⟩:∃u2,u2=u8*7:=⟨_,rfl⟩
 have qa:(time:Int)/2=(u1:Int):=by omega
 have qb:(time:Int)/8=(u8:Int):=by omega
 have qc:IntKind.i64.wrap ((u8:Int)*7)=(u2:Int):=by rw[IntWalk.i64_in _ (by omega)];omega
 have qa2:IntKind.i64.wrap (u1:Int)=(u1:Int):=IntWalk.i64_in _ (by omega)
 have qb2:IntKind.i64.wrap (u8:Int)=(u8:Int):=IntWalk.i64_in _ (by omega)
 have Hu:=Lib.hid (And.intro hu1 (And.intro hu8 hu2))
 clear hu1 hu8 hu2
 refine W ?_
 clear qa qb qc qa2 qb2
 refine sC (gT d A cap n 58 false w4 hn hA5 hwt) ?_
 intro w5 f5
 replace hG:=hG.keep f5 (fun x=>x)
 refine W ?_
 refine sC (gT d A cap n 59 false w5 hn (hA5.keep f5) hwt) ?_
 intro w6 f6
 replace f5:=f5.none f6
 replace h4:=h4.none f5
 replace f:=f.none f5
 clear hG hA5 f5 f6
 obtain⟨p1,p2,b,hb,hp1,hp2⟩:∃p1 p2 b,b=decide (((fT d.os 58 false).isSome=true∧(fT d.os 59 false).isSome=true)∧(fT d.os 58 false).getD 0<(fT d.os 59 false).getD 0∧(fT d.os 59 false).getD 0<time)∧p1=(if b=true then(fT d.os 58 false).getD 0 else u1)∧p2=(if b=true then(fT d.os 59 false).getD 0 else u2):=⟨_,_,_,rfl,rfl,rfl⟩
 have hr:r={s with t1:=wrap64 (s.now+(p1:Int)),t2:=wrap64 (s.now+(p2:Int)),untl:=wrap64 (s.now+(time:Int))}:=by
  rw[HR.out,hp1,hp2,hb,Hu.out.1,Hu.out.2.2,Hu.out.2.1]
  cases fT d.os 58 false<;>cases fT d.os 59 false<;>simp
  split<;>exact⟨rfl,rfl⟩
 have hx:(fT d.os 58 false).getD 0<4294967296:=by cases e:fT d.os 58 false with|none=>decide|some x=>exact HO.out.1 x e
 have hy:(fT d.os 59 false).getD 0<4294967296:=by cases e:fT d.os 59 false with|none=>decide|some x=>exact HO.out.2 x e
 generalize(fT d.os 58 false).getD 0=x at*
 generalize(fT d.os 59 false).getD 0=y at*
 generalize(fT d.os 58 false).isSome=k1 at*
 generalize(fT d.os 59 false).isSome=k2 at*
 have qx:IntKind.i64.wrap (x:Int)=(x:Int):=IntWalk.i64_in _ (by omega)
 have qy:IntKind.i64.wrap (y:Int)=(y:Int):=IntWalk.i64_in _ (by omega)
 have Hr:=Lib.hid hr
 clear hr hx hy
 refine V ?_
 refine cS ?_
 refine cM [0,6,7] [(8,.int .i64 (p1:Int)),(9,.int .i64 (p2:Int))] (fun w'=>w'=w6) ?_ ?_
 ·cases k1
  rotate_left
  cases k2
  rotate_left
  by_cases a1:x<y
  by_cases a2:y<time
  ·have e1:p1=x:=by rw[hp1,if_pos (by rw[hb];simp[a1,a2])]
   have e2:p2=y:=by rw[hp2,if_pos (by rw[hb];simp[a1,a2])]
   clear hb hp1 hp2 Hr
   refine W ?_
   rw[e1,e2]
   exact mt rfl
  all_goals
   have hbf:¬b=true:=by rw[hb];simp[*]
   have e1:p1=u1:=by rw[hp1,if_neg hbf]
   have e2:p2=u2:=by rw[hp2,if_neg hbf]
   clear hb hp1 hp2 hbf Hr
   refine W ?_
   rw[e1,e2]
   exact mt rfl
 rintro u w' rfl
 clear hb hp1 hp2 qx qy
 refine W ?_
 refine dI (p:=∃a b c,aA w' L {s with t1:=a,t2:=b,untl:=c}∧Fr (bM L) w w') (S:=fun w'=>∃a b c,aA w' L {s with t1:=a,t2:=b,untl:=c}∧Fr (bM L) w w') ⟨0,0,0,h4,f⟩ [] [0,1,2,3,4,5,7,9,10,11,13,15,16,17,19,6,8,12,14,18,20,21,22,23,24,25,26,27,28,29] (hK:=⟨fun _ _ ⟨a,b,c,h,g⟩ fw=>⟨a,b,c,h.none fw,g.none fw⟩⟩) (h:= ?_)
 clear h4 f
 rintro w7 ⟨a,b,c,h7,f7⟩ _
 refine D ?_
 refine dQ (v:= .int .i64 s.now) ?_ ?_
 ·rintro w' ⟨a,b,c,hB,_⟩
  have c16:=hB.g16
  go_simp
 refine D ?_
 refine dQ (v:= .int .i64 s.now) ?_ ?_
 ·rintro w' ⟨a,b,c,hB,_⟩
  have c16:=hB.g16
  go_simp
 refine D ?_
 refine dQ (v:= .int .i64 s.now) ?_ ?_
 ·rintro w' ⟨a,b,c,hB,_⟩
  have c16:=hB.g16
  go_simp
 refine D ?_
 rw[mM,mM,mM]
 refine dB2 {s with t1:=wrap64 (s.now+(p1:Int)),t2:=b,untl:=c} {h7.ok with} h7 (fun w' h g=>⟨_,_,_,h,f7.trans g⟩) ?_
 intro w8 h8 f8
 replace f8:=f7.trans f8
 refine D ?_
 refine dB2 {s with t1:=wrap64 (s.now+(p1:Int)),t2:=wrap64 (s.now+(p2:Int)),untl:=c} {h8.ok with} h8 (fun w' h g=>⟨_,_,_,h,f8.trans g⟩) ?_
 intro w9 h9 f9
 replace f9:=f8.trans f9
 refine D ?_
 refine dB2 {s with t1:=wrap64 (s.now+(p1:Int)),t2:=wrap64 (s.now+(p2:Int)),untl:=wrap64 (s.now+(time:Int))} {h9.ok with} h9 (fun w' h g=>⟨_,_,_,h,f9.trans g⟩) ?_
 intro w10 h10 f10
 refine D ?_
 refine W ?_
 exact⟨rfl,by rw[Hr.out];exact h10,f9.trans f10⟩
end Go.Proofs.YtcbkaiakdhiloacGreatDoor
