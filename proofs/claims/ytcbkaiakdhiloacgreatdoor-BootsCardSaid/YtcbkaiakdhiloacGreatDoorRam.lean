/- Parts of the walk; written by programs, merged. -/
import Derived.Test.YtcbkaiakdhiloacGreatDoorRal
import Derived.Deep.CutBlock
set_option linter.unusedSimpArgs false
set_option linter.unusedVariables false
set_option maxRecDepth 20000
set_option maxHeartbeats 8000000
namespace Go.Proofs.YtcbkaiakdhiloacGreatDoor
open Go.RowKit Go.Proofs
attribute [local go_sem] aG aD aC aE
theorem Ev (a b:List UInt8):(bs a==bs b)=(a==b):=by
 show((bs a).data==(bs b).data)=_
 simp[bs]
def tfW (u:Nat→Value):Act:=⟨#[u 0,u 1,u 2,u 3,u 4,u 5,u 6,u 7,u 8,u 9,u 10,u 11,u 12,u 13,u 14,u 15,u 16,u 17,u 18,u 19,u 20,u 21,u 22,u 23,u 24,u 25,u 26,u 27,u 28,u 29,u 30,u 31,u 32,u 33,u 34,u 35,u 36,u 37,u 38,u 39,u 40,u 41,u 42,u 43,u 44,u 45,u 46,u 47,u 48,u 49,u 50,u 51,u 52,u 53,u 54,u 55,u 56,u 57,u 58,u 59,u 60,u 61,u 62,u 63,u 64,u 65,u 66,u 67,u 68,u 69,u 70,u 71,u 72,u 73,u 74,u 75,u 76,u 77,u 78,u 79,u 80,u 81,u 82,u 83,u 84,u 85,u 86,u 87,u 88,u 89,u 90,u 91,u 92,u 93,u 94,u 95,u 96,u 97,u 98,u 99,u 100,u 101,u 102,u 103,u 104,u 105,u 106,u 107,u 108,u 109,u 110,u 111,u 112,u 113,u 114],[]⟩
set_option maxRecDepth 100000 in
theorem K4 (u:Nat→Value):tfW u=frN 115 u:=rfl
theorem yH {a:Act} (h:Sz 115 a):a=tfW (sl a):=h.eq.trans (K4 _).symm
theorem J4 (g gm n k cap op bk:Nat) (A:Option Addr) (tx dt:List UInt8) (b4:List eH) (nm vl:List UInt8) (a:Act) (w:World) (K:KT) (hs:Sz 115 a)
 (h1:sl a 1= .pointer (some ⟨gm,0,none⟩)) (h5:sl a 5= .int .i64 (k:Int)) (h6:sl a 6= .pointer (some ⟨g,0,none⟩)) (hT:lY w) (hnl:nm.length≤1099511627) (hvl:vl.length≤1099511627) (hkn:k<n) (hnc:n≤cap) (hnn:n≤4611686018427387904) (ha:cP nm=false) (hA:SlR w noB 2 A k (gJ b4)) (hfb:Bk w g 196 #[.string (bs nm),.string (bs vl)]) (hmb:Bk w gm 123 #[.int .u16 (op:Int),.int .u16 (bk:Int),.string (bs tx),.string (bs dt),.slice A n cap])
 (hK:∀a' w',Sz 115 a'→Kp [0,1,2,3,4,5,6,7,8,9,10,11,12,13,14,15,16,17,18,19,20,21,22,23,24,25,26,27,28,29,30,31,32,33,34,35,36,37,38,39,40,41,42,43,71,72,73,74,75,76,77,78,79,80,81,82,83,84,85,86,87,88,89,90,91,92,93,94,95,96,97,98,99,100,101,102,103,104,105,106,107,108,109,110,111,112,113,114] a a'→sl a' 70= .bool true→Fr noB w w'→K .normal a' w'):
 (aH Tryz.f170 15).wp Tryz.prog K a w:=by
 refine rgE hK (yH hs) fun HK=> ?_;clear hK hs
 simp only[tfW,h1,h5,h6]
 refine wpr (fun w'=>Bk w' g 196 #[.string (bs nm),.string (bs vl)]∧Bk w' gm 123 #[.int .u16 (op:Int),.int .u16 (bk:Int),.string (bs tx),.string (bs dt),.slice A n cap]∧lY w'∧SlR w' noB 2 A k (gJ b4)∧Fr noB w w') [] (.p 0 (.q 1 (.e 2 (.p 3 (.p 4 (.p 5 (.q 6 (.e 7 (.p 8 (.p 9 (.p 10 (.p 11 (.p 13 (.q 12 (.q 14 (.e 15 (.p 16 (.p 17 (.p 18 (.p 19 (.p 21 (.p 23 (.q 20 (.p 22 (.q 24 (.e 25 (.p 26 .nil))))))))))))))))))))))))))) (⟨hfb.drew,hmb.drew,hT.none (Fr.refl noB _).drew,hA.keep (Fr.refl noB _).drew,(Fr.refl _ _).drew⟩) ?_
 intro ops Q' hO hQ' wr1 hR1
 refine pP hO ?_
 refine pQ hO rfl rfl (fun w' hS=>by obtain⟨hf,hm,_,_,_⟩:=hS;have hfc:=hf.cells;have hmc:=hm.cells;exact qd) ?_
 refine gD hO rfl rfl rfl (fun K hK=> ?_)
 go_simp
 refine(eE nm _ (by omega)).mono ?_
 rintro e w2 ⟨rfl,hw2⟩
 subst w2
 rw[ha]
 refine hK _ _ (hR1) (fun hR_2=> ?_)
 clear hK K
 iterate 2 refine pP hO ?_
 refine pN hO ?_
 refine qN hO ?_
 refine C6 hO rfl rfl rfl rfl rfl (fun _=>hR_2) ?_
 simp only[Act.put,List.setIfInBounds_toArray,List.set_cons_zero,List.set_cons_succ]
 refine pN hO ?_
 iterate 2 refine pP hO ?_
 iterate 2 refine pN hO ?_
 iterate 2 refine qN hO ?_
 refine C6 hO rfl rfl rfl rfl rfl (fun _=>hR_2) ?_
 simp only[Act.put,List.setIfInBounds_toArray,List.set_cons_zero,List.set_cons_succ]
 refine pN hO ?_
 iterate 2 refine pP hO ?_
 iterate 3 refine pN hO ?_
 refine qN hO ?_
 refine pN hO ?_
 refine qN hO ?_
 refine C6 hO rfl rfl rfl rfl rfl (fun _=>hR_2) ?_
 simp only[Act.put,List.setIfInBounds_toArray,List.set_cons_zero,List.set_cons_succ]
 refine pP hO ?_
 refine bL (hQ' _ _ ?_)
 exact HK.out _ _ ⟨rfl,rfl⟩ kZ (rfl) hR_2.2.2.2.2
theorem Le (g gm n k cap op bk:Nat) (A:Option Addr) (tx dt:List UInt8) (b4:List eH) (nm vl:List UInt8) (a:Act) (w:World) (K:KT) (hs:Sz 115 a)
 (h1:sl a 1= .pointer (some ⟨gm,0,none⟩)) (h5:sl a 5= .int .i64 (k:Int)) (h6:sl a 6= .pointer (some ⟨g,0,none⟩)) (hT:lY w) (hnl:nm.length≤1099511627) (hvl:vl.length≤1099511627) (hkn:k<n) (hnc:n≤cap) (hnn:n≤4611686018427387904) (ha:cP nm=true) (hv:cP vl=false) (hA:SlR w noB 2 A k (gJ b4)) (hfb:Bk w g 196 #[.string (bs nm),.string (bs vl)]) (hmb:Bk w gm 123 #[.int .u16 (op:Int),.int .u16 (bk:Int),.string (bs tx),.string (bs dt),.slice A n cap])
 (hK:∀a' w',Sz 115 a'→Kp [0,1,2,3,4,5,6,7,8,9,10,11,12,13,14,15,16,17,18,19,20,21,22,23,24,25,26,27,28,29,30,31,32,33,34,35,36,37,38,39,40,41,42,43,71,72,73,74,75,76,77,78,79,80,81,82,83,84,85,86,87,88,89,90,91,92,93,94,95,96,97,98,99,100,101,102,103,104,105,106,107,108,109,110,111,112,113,114] a a'→sl a' 70= .bool true→Fr noB w w'→K .normal a' w'):
 (aH Tryz.f170 15).wp Tryz.prog K a w:=by
 refine rgE hK (yH hs) fun HK=> ?_;clear hK hs
 simp only[tfW,h1,h5,h6]
 refine wpr (fun w'=>Bk w' g 196 #[.string (bs nm),.string (bs vl)]∧Bk w' gm 123 #[.int .u16 (op:Int),.int .u16 (bk:Int),.string (bs tx),.string (bs dt),.slice A n cap]∧lY w'∧SlR w' noB 2 A k (gJ b4)∧Fr noB w w') [] (.p 0 (.q 1 (.e 2 (.p 3 (.p 4 (.p 5 (.q 6 (.e 7 (.p 8 (.p 9 (.p 10 (.p 11 (.p 13 (.q 12 (.q 14 (.e 15 (.p 16 (.p 17 (.p 18 (.p 19 (.p 21 (.p 23 (.q 20 (.p 22 (.q 24 (.e 25 (.p 26 .nil))))))))))))))))))))))))))) (⟨hfb.drew,hmb.drew,hT.none (Fr.refl noB _).drew,hA.keep (Fr.refl noB _).drew,(Fr.refl _ _).drew⟩) ?_
 intro ops Q' hO hQ' wr1 hR1
 refine pP hO ?_
 refine pQ hO rfl rfl (fun w' hS=>by obtain⟨hf,hm,_,_,_⟩:=hS;have hfc:=hf.cells;have hmc:=hm.cells;exact qd) ?_
 refine gD hO rfl rfl rfl (fun K hK=> ?_)
 go_simp
 refine(eE nm _ (by omega)).mono ?_
 rintro e w2 ⟨rfl,hw2⟩
 subst w2
 rw[ha]
 refine hK _ _ (hR1) (fun hR_2=> ?_)
 clear hK K
 iterate 2 refine pP hO ?_
 refine pR hO ?_
 refine pS hO rfl rfl rfl rfl (fun w' hS=>by obtain⟨hf,hm,_,_,_⟩:=hS;have hfc:=hf.cells;have hmc:=hm.cells;exact qd) ?_
 refine xC hO rfl rfl rfl rfl rfl (fun K hK=> ?_)
 go_simp
 refine(eE vl _ (by omega)).mono ?_
 rintro e w2 ⟨rfl,hw2⟩
 subst w2
 rw[hv]
 refine hK _ _ (hR_2) (fun hR_7=> ?_)
 clear hK K
 refine pR hO ?_
 iterate 2 refine pP hO ?_
 iterate 2 refine pN hO ?_
 iterate 2 refine qN hO ?_
 refine C6 hO rfl rfl rfl rfl rfl (fun _=>hR_7) ?_
 simp only[Act.put,List.setIfInBounds_toArray,List.set_cons_zero,List.set_cons_succ]
 refine pN hO ?_
 iterate 2 refine pP hO ?_
 iterate 3 refine pN hO ?_
 refine qN hO ?_
 refine pN hO ?_
 refine qN hO ?_
 refine C6 hO rfl rfl rfl rfl rfl (fun _=>hR_7) ?_
 simp only[Act.put,List.setIfInBounds_toArray,List.set_cons_zero,List.set_cons_succ]
 refine pP hO ?_
 refine bL (hQ' _ _ ?_)
 exact HK.out _ _ ⟨rfl,rfl⟩ kZ (rfl) hR_7.2.2.2.2
theorem Kv (g gm n k cap op bk:Nat) (A:Option Addr) (tx dt:List UInt8) (b4:List eH) (nm vl:List UInt8) (a:Act) (w:World) (K:KT) (hs:Sz 115 a)
 (h1:sl a 1= .pointer (some ⟨gm,0,none⟩)) (h5:sl a 5= .int .i64 (k:Int)) (h6:sl a 6= .pointer (some ⟨g,0,none⟩)) (hT:lY w) (hnl:nm.length≤1099511627) (hvl:vl.length≤1099511627) (hkn:k<n) (hnc:n≤cap) (hnn:n≤4611686018427387904) (ha:cP nm=true) (hv:cP vl=true) (hs0:(nm==tU nm)=false) (hA:SlR w noB 2 A k (gJ b4)) (hfb:Bk w g 196 #[.string (bs nm),.string (bs vl)]) (hmb:Bk w gm 123 #[.int .u16 (op:Int),.int .u16 (bk:Int),.string (bs tx),.string (bs dt),.slice A n cap])
 (hK:∀a' w',Sz 115 a'→Kp [0,1,2,3,4,5,6,7,8,9,10,11,12,13,14,15,16,17,18,19,20,21,22,23,24,25,26,27,28,29,30,31,32,33,34,35,36,37,38,39,40,41,42,43,71,72,73,74,75,76,77,78,79,80,81,82,83,84,85,86,87,88,89,90,91,92,93,94,95,96,97,98,99,100,101,102,103,104,105,106,107,108,109,110,111,112,113,114] a a'→sl a' 70= .bool true→Fr noB w w'→K .normal a' w'):
 (aH Tryz.f170 15).wp Tryz.prog K a w:=by
 refine rgE hK (yH hs) fun HK=> ?_;clear hK hs
 have hs1:(bs nm !=bs (tU nm))=true:=by rw[bne,Ev,hs0];rfl
 simp only[tfW,h1,h5,h6]
 refine wpr (fun w'=>Bk w' g 196 #[.string (bs nm),.string (bs vl)]∧Bk w' gm 123 #[.int .u16 (op:Int),.int .u16 (bk:Int),.string (bs tx),.string (bs dt),.slice A n cap]∧lY w'∧SlR w' noB 2 A k (gJ b4)∧Fr noB w w') [] (.p 0 (.q 1 (.e 2 (.p 3 (.p 4 (.p 5 (.q 6 (.e 7 (.p 8 (.p 9 (.p 10 (.p 11 (.p 13 (.q 12 (.q 14 (.e 15 (.p 16 (.p 17 (.p 18 (.p 19 (.p 21 (.p 23 (.q 20 (.p 22 (.q 24 (.e 25 (.p 26 .nil))))))))))))))))))))))))))) (⟨hfb.drew,hmb.drew,hT.none (Fr.refl noB _).drew,hA.keep (Fr.refl noB _).drew,(Fr.refl _ _).drew⟩) ?_
 intro ops Q' hO hQ' wr1 hR1
 refine pP hO ?_
 refine pQ hO rfl rfl (fun w' hS=>by obtain⟨hf,hm,_,_,_⟩:=hS;have hfc:=hf.cells;have hmc:=hm.cells;exact qd) ?_
 refine gD hO rfl rfl rfl (fun K hK=> ?_)
 go_simp
 refine(eE nm _ (by omega)).mono ?_
 rintro e w2 ⟨rfl,hw2⟩
 subst w2
 rw[ha]
 refine hK _ _ (hR1) (fun hR_2=> ?_)
 clear hK K
 iterate 2 refine pP hO ?_
 refine pR hO ?_
 refine pS hO rfl rfl rfl rfl (fun w' hS=>by obtain⟨hf,hm,_,_,_⟩:=hS;have hfc:=hf.cells;have hmc:=hm.cells;exact qd) ?_
 refine xC hO rfl rfl rfl rfl rfl (fun K hK=> ?_)
 go_simp
 refine(eE vl _ (by omega)).mono ?_
 rintro e w2 ⟨rfl,hw2⟩
 subst w2
 rw[hv]
 refine hK _ _ (hR_2) (fun hR_7=> ?_)
 clear hK K
 refine pR hO ?_
 iterate 2 refine pP hO ?_
 iterate 2 refine pR hO ?_
 iterate 2 (refine pS hO rfl rfl rfl rfl (fun w' hS=>by obtain⟨hf,hm,_,_,_⟩:=hS;have hfc:=hf.cells;have hmc:=hm.cells;exact qd) ?_)
 refine xC hO rfl rfl rfl rfl rfl (fun K hK=> ?_)
 go_simp
 refine(mO nm _ (by omega) hR_7.2.2.1).mono ?_
 rintro e w4 ⟨rfl,f4⟩
 refine hK _ _ (⟨hR_7.1.keep f4 (fun x=>x),hR_7.2.1.keep f4 (fun x=>x),hR_7.2.2.1.none f4,hR_7.2.2.2.1.keep f4,hR_7.2.2.2.2.none f4⟩) (fun hR_15=> ?_)
 clear hK K
 refine pR hO ?_
 iterate 2 refine pP hO ?_
 iterate 3 refine pN hO ?_
 refine qN hO ?_
 refine pN hO ?_
 refine qN hO ?_
 refine C6 hO rfl rfl rfl rfl rfl (fun _=>hR_15) ?_
 simp only[Act.put,List.setIfInBounds_toArray,List.set_cons_zero,List.set_cons_succ]
 refine pP hO ?_
 refine bL (hQ' _ _ ?_)
 exact HK.out _ _ ⟨rfl,rfl⟩ kZ (rfl) hR_15.2.2.2.2
theorem JX (g gm n k cap op bk:Nat) (A:Option Addr) (tx dt:List UInt8) (b4:List eH) (nm vl:List UInt8) (a:Act) (w:World) (K:KT) (hs:Sz 115 a)
 (h1:sl a 1= .pointer (some ⟨gm,0,none⟩)) (h5:sl a 5= .int .i64 (k:Int)) (h6:sl a 6= .pointer (some ⟨g,0,none⟩)) (hT:lY w) (hnl:nm.length≤1099511627) (hvl:vl.length≤1099511627) (hkn:k<n) (hnc:n≤cap) (hnn:n≤4611686018427387904) (ha:cP nm=true) (hv:cP vl=true) (hs0:(nm==tU nm)=true) (hn:named b4 nm=true) (hA:SlR w noB 2 A k (gJ b4)) (hfb:Bk w g 196 #[.string (bs nm),.string (bs vl)]) (hmb:Bk w gm 123 #[.int .u16 (op:Int),.int .u16 (bk:Int),.string (bs tx),.string (bs dt),.slice A n cap])
 (hK:∀a' w',Sz 115 a'→Kp [0,1,2,3,4,5,6,7,8,9,10,11,12,13,14,15,16,17,18,19,20,21,22,23,24,25,26,27,28,29,30,31,32,33,34,35,36,37,38,39,40,41,42,43,71,72,73,74,75,76,77,78,79,80,81,82,83,84,85,86,87,88,89,90,91,92,93,94,95,96,97,98,99,100,101,102,103,104,105,106,107,108,109,110,111,112,113,114] a a'→sl a' 70= .bool true→Fr noB w w'→K .normal a' w'):
 (aH Tryz.f170 15).wp Tryz.prog K a w:=by
 refine rgE hK (yH hs) fun HK=> ?_;clear hK hs
 have hs1:(bs nm !=bs (tU nm))=false:=by rw[bne,Ev,hs0];rfl
 have hkc:k≤cap:=by omega
 simp only[tfW,h1,h5,h6]
 refine wpr (fun w'=>Bk w' g 196 #[.string (bs nm),.string (bs vl)]∧Bk w' gm 123 #[.int .u16 (op:Int),.int .u16 (bk:Int),.string (bs tx),.string (bs dt),.slice A n cap]∧lY w'∧SlR w' noB 2 A k (gJ b4)∧Fr noB w w') [] (.p 0 (.q 1 (.e 2 (.p 3 (.p 4 (.p 5 (.q 6 (.e 7 (.p 8 (.p 9 (.p 10 (.p 11 (.p 13 (.q 12 (.q 14 (.e 15 (.p 16 (.p 17 (.p 18 (.p 19 (.p 21 (.p 23 (.q 20 (.p 22 (.q 24 (.e 25 (.p 26 .nil))))))))))))))))))))))))))) (⟨hfb.drew,hmb.drew,hT.none (Fr.refl noB _).drew,hA.keep (Fr.refl noB _).drew,(Fr.refl _ _).drew⟩) ?_
 intro ops Q' hO hQ' wr1 hR1
 refine pP hO ?_
 refine pQ hO rfl rfl (fun w' hS=>by obtain⟨hf,hm,_,_,_⟩:=hS;have hfc:=hf.cells;have hmc:=hm.cells;exact qd) ?_
 refine gD hO rfl rfl rfl (fun K hK=> ?_)
 go_simp
 refine(eE nm _ (by omega)).mono ?_
 rintro e w2 ⟨rfl,hw2⟩
 subst w2
 rw[ha]
 refine hK _ _ (hR1) (fun hR_2=> ?_)
 clear hK K
 iterate 2 refine pP hO ?_
 refine pR hO ?_
 refine pS hO rfl rfl rfl rfl (fun w' hS=>by obtain⟨hf,hm,_,_,_⟩:=hS;have hfc:=hf.cells;have hmc:=hm.cells;exact qd) ?_
 refine xC hO rfl rfl rfl rfl rfl (fun K hK=> ?_)
 go_simp
 refine(eE vl _ (by omega)).mono ?_
 rintro e w2 ⟨rfl,hw2⟩
 subst w2
 rw[hv]
 refine hK _ _ (hR_2) (fun hR_7=> ?_)
 clear hK K
 refine pR hO ?_
 iterate 2 refine pP hO ?_
 iterate 2 refine pR hO ?_
 iterate 2 (refine pS hO rfl rfl rfl rfl (fun w' hS=>by obtain⟨hf,hm,_,_,_⟩:=hS;have hfc:=hf.cells;have hmc:=hm.cells;exact qd) ?_)
 refine xC hO rfl rfl rfl rfl rfl (fun K hK=> ?_)
 go_simp
 refine(mO nm _ (by omega) hR_7.2.2.1).mono ?_
 rintro e w4 ⟨rfl,f4⟩
 refine hK _ _ (⟨hR_7.1.keep f4 (fun x=>x),hR_7.2.1.keep f4 (fun x=>x),hR_7.2.2.1.none f4,hR_7.2.2.2.1.keep f4,hR_7.2.2.2.2.none f4⟩) (fun hR_15=> ?_)
 clear hK K
 refine pR hO ?_
 iterate 2 refine pP hO ?_
 iterate 3 refine pR hO ?_
 refine pS hO rfl rfl rfl rfl (fun w' hS=>by obtain⟨hf,hm,_,_,_⟩:=hS;have hfc:=hf.cells;have hmc:=hm.cells;exact qd) ?_
 refine pR hO ?_
 refine pS hO rfl rfl rfl rfl (fun w' hS=>by obtain⟨hf,hm,_,_,_⟩:=hS;have hfc:=hf.cells;have hmc:=hm.cells;exact qd) ?_
 refine xC hO rfl rfl rfl rfl rfl (fun K hK=> ?_)
 go_simp
 refine(In A k cap b4 nm _ hR_15.2.2.2.1 (by omega)).mono ?_
 rintro e w4 ⟨rfl,f4⟩
 rw[hn]
 refine hK _ _ (⟨hR_15.1.keep f4 (fun x=>x),hR_15.2.1.keep f4 (fun x=>x),hR_15.2.2.1.none f4,hR_15.2.2.2.1.keep f4,hR_15.2.2.2.2.none f4⟩) (fun hR_25=> ?_)
 clear hK K
 refine pP hO ?_
 refine bL (hQ' _ _ ?_)
 exact HK.out _ _ ⟨rfl,rfl⟩ kZ (rfl) hR_25.2.2.2.2
theorem Kt (g gm n k cap op bk:Nat) (A:Option Addr) (tx dt:List UInt8) (b4:List eH) (nm vl:List UInt8) (a:Act) (w:World) (K:KT) (hs:Sz 115 a)
 (h1:sl a 1= .pointer (some ⟨gm,0,none⟩)) (h5:sl a 5= .int .i64 (k:Int)) (h6:sl a 6= .pointer (some ⟨g,0,none⟩)) (hT:lY w) (hnl:nm.length≤1099511627) (hvl:vl.length≤1099511627) (hkn:k<n) (hnc:n≤cap) (hnn:n≤4611686018427387904) (ha:cP nm=true) (hv:cP vl=true) (hs0:(nm==tU nm)=true) (hn:named b4 nm=false) (hA:SlR w noB 2 A k (gJ b4)) (hfb:Bk w g 196 #[.string (bs nm),.string (bs vl)]) (hmb:Bk w gm 123 #[.int .u16 (op:Int),.int .u16 (bk:Int),.string (bs tx),.string (bs dt),.slice A n cap])
 (hK:∀a' w',Sz 115 a'→Kp [0,1,2,3,4,5,6,7,8,9,10,11,12,13,14,15,16,17,18,19,20,21,22,23,24,25,26,27,28,29,30,31,32,33,34,35,36,37,38,39,40,41,42,43,71,72,73,74,75,76,77,78,79,80,81,82,83,84,85,86,87,88,89,90,91,92,93,94,95,96,97,98,99,100,101,102,103,104,105,106,107,108,109,110,111,112,113,114] a a'→sl a' 70= .bool false→Fr noB w w'→K .normal a' w'):
 (aH Tryz.f170 15).wp Tryz.prog K a w:=by
 refine rgE hK (yH hs) fun HK=> ?_;clear hK hs
 have hs1:(bs nm !=bs (tU nm))=false:=by rw[bne,Ev,hs0];rfl
 have hkc:k≤cap:=by omega
 simp only[tfW,h1,h5,h6]
 refine wpr (fun w'=>Bk w' g 196 #[.string (bs nm),.string (bs vl)]∧Bk w' gm 123 #[.int .u16 (op:Int),.int .u16 (bk:Int),.string (bs tx),.string (bs dt),.slice A n cap]∧lY w'∧SlR w' noB 2 A k (gJ b4)∧Fr noB w w') [] (.p 0 (.q 1 (.e 2 (.p 3 (.p 4 (.p 5 (.q 6 (.e 7 (.p 8 (.p 9 (.p 10 (.p 11 (.p 13 (.q 12 (.q 14 (.e 15 (.p 16 (.p 17 (.p 18 (.p 19 (.p 21 (.p 23 (.q 20 (.p 22 (.q 24 (.e 25 (.p 26 .nil))))))))))))))))))))))))))) (⟨hfb.drew,hmb.drew,hT.none (Fr.refl noB _).drew,hA.keep (Fr.refl noB _).drew,(Fr.refl _ _).drew⟩) ?_
 intro ops Q' hO hQ' wr1 hR1
 refine pP hO ?_
 refine pQ hO rfl rfl (fun w' hS=>by obtain⟨hf,hm,_,_,_⟩:=hS;have hfc:=hf.cells;have hmc:=hm.cells;exact qd) ?_
 refine gD hO rfl rfl rfl (fun K hK=> ?_)
 go_simp
 refine(eE nm _ (by omega)).mono ?_
 rintro e w2 ⟨rfl,hw2⟩
 subst w2
 rw[ha]
 refine hK _ _ (hR1) (fun hR_2=> ?_)
 clear hK K
 iterate 2 refine pP hO ?_
 refine pR hO ?_
 refine pS hO rfl rfl rfl rfl (fun w' hS=>by obtain⟨hf,hm,_,_,_⟩:=hS;have hfc:=hf.cells;have hmc:=hm.cells;exact qd) ?_
 refine xC hO rfl rfl rfl rfl rfl (fun K hK=> ?_)
 go_simp
 refine(eE vl _ (by omega)).mono ?_
 rintro e w2 ⟨rfl,hw2⟩
 subst w2
 rw[hv]
 refine hK _ _ (hR_2) (fun hR_7=> ?_)
 clear hK K
 refine pR hO ?_
 iterate 2 refine pP hO ?_
 iterate 2 refine pR hO ?_
 iterate 2 (refine pS hO rfl rfl rfl rfl (fun w' hS=>by obtain⟨hf,hm,_,_,_⟩:=hS;have hfc:=hf.cells;have hmc:=hm.cells;exact qd) ?_)
 refine xC hO rfl rfl rfl rfl rfl (fun K hK=> ?_)
 go_simp
 refine(mO nm _ (by omega) hR_7.2.2.1).mono ?_
 rintro e w4 ⟨rfl,f4⟩
 refine hK _ _ (⟨hR_7.1.keep f4 (fun x=>x),hR_7.2.1.keep f4 (fun x=>x),hR_7.2.2.1.none f4,hR_7.2.2.2.1.keep f4,hR_7.2.2.2.2.none f4⟩) (fun hR_15=> ?_)
 clear hK K
 refine pR hO ?_
 iterate 2 refine pP hO ?_
 iterate 3 refine pR hO ?_
 refine pS hO rfl rfl rfl rfl (fun w' hS=>by obtain⟨hf,hm,_,_,_⟩:=hS;have hfc:=hf.cells;have hmc:=hm.cells;exact qd) ?_
 refine pR hO ?_
 refine pS hO rfl rfl rfl rfl (fun w' hS=>by obtain⟨hf,hm,_,_,_⟩:=hS;have hfc:=hf.cells;have hmc:=hm.cells;exact qd) ?_
 refine xC hO rfl rfl rfl rfl rfl (fun K hK=> ?_)
 go_simp
 refine(In A k cap b4 nm _ hR_15.2.2.2.1 (by omega)).mono ?_
 rintro e w4 ⟨rfl,f4⟩
 rw[hn]
 refine hK _ _ (⟨hR_15.1.keep f4 (fun x=>x),hR_15.2.1.keep f4 (fun x=>x),hR_15.2.2.1.none f4,hR_15.2.2.2.1.keep f4,hR_15.2.2.2.2.none f4⟩) (fun hR_25=> ?_)
 clear hK K
 refine pP hO ?_
 refine bL (hQ' _ _ ?_)
 exact HK.out _ _ ⟨rfl,rfl⟩ kZ (rfl) hR_25.2.2.2.2
end Go.Proofs.YtcbkaiakdhiloacGreatDoor
namespace Go.Proofs.YtcbkaiakdhiloacGreatDoor
open Go.RowKit Go.Proofs
attribute [local go_sem] aG aD aC aE
theorem FQ {l:List UInt8} (h:cP l=true):asc l:=by
 intro b hb
 unfold cP at h
 simp only[Bool.and_eq_true,List.all_eq_true]at h
 have h1:=h.1 b hb
 unfold eR at h1
 simp at h1
 omega
theorem SlR.fresh2 {w:World} {S:Nat→Prop} {size n:Nat} {A:Option Addr} {xs:List Value} (h:SlR w S size A n xs):SlR w (fun k=>w.heap.size≤k) size A n xs:=
 ⟨h.1,fun hn=>by
  obtain⟨ad,e,hb,hS,hc⟩:=h.2 hn
  exact⟨ad,e,hb,fun x=>by omega,hc⟩⟩
theorem LN (g gm n k cap op bk:Nat) (A:Option Addr) (tx dt:List UInt8) (b4:List eH) (o:eH) (a:Act) (w:World) (K:KT) (hs:Sz 115 a)
 (h1:sl a 1= .pointer (some ⟨gm,0,none⟩)) (h5:sl a 5= .int .i64 (k:Int)) (h6:sl a 6= .pointer (some ⟨g,0,none⟩)) (hT:lY w) (hnl:o.name.length≤1099511627) (hvl:o.value.length≤1099511627) (hkn:k<n) (hnc:n≤cap) (hnn:n≤4611686018427387904) (hA:SlR w noB 2 A k (gJ b4)) (hfb:Bk w g 196 #[.string (bs o.name),.string (bs o.value)]) (hmb:Bk w gm 123 #[.int .u16 (op:Int),.int .u16 (bk:Int),.string (bs tx),.string (bs dt),.slice A n cap])
 (hK:∀a' w',Sz 115 a'→Kp [0,1,2,3,4,5,6,7,8,9,10,11,12,13,14,15,16,17,18,19,20,21,22,23,24,25,26,27,28,29,30,31,32,33,34,35,36,37,38,39,40,41,42,43,71,72,73,74,75,76,77,78,79,80,81,82,83,84,85,86,87,88,89,90,91,92,93,94,95,96,97,98,99,100,101,102,103,104,105,106,107,108,109,110,111,112,113,114] a a'→sl a' 70= .bool (!nM b4 o)→Fr noB w w'→K .normal a' w'):
 (aH Tryz.f170 15).wp Tryz.prog K a w:=by
 rcases ha:cP o.name with _|_
 ·exact J4 g gm n k cap op bk A tx dt b4 o.name o.value a w K hs h1 h5 h6 hT hnl hvl hkn hnc hnn ha hA hfb hmb fun a' w' s kp e f=>hK a' w' s kp (by rw[e];simp[nM,ha]) f
 rcases hv:cP o.value with _|_
 ·exact Le g gm n k cap op bk A tx dt b4 o.name o.value a w K hs h1 h5 h6 hT hnl hvl hkn hnc hnn ha hv hA hfb hmb fun a' w' s kp e f=>hK a' w' s kp (by rw[e];simp[nM,hv]) f
 have hl:=nB o.name (FQ ha)
 rcases h0:(o.name==tU o.name)with _|_
 ·exact Kv g gm n k cap op bk A tx dt b4 o.name o.value a w K hs h1 h5 h6 hT hnl hvl hkn hnc hnn ha hv h0 hA hfb hmb fun a' w' s kp e f=>hK a' w' s kp (by rw[e];rw[hl]at h0;simp[nM,h0]) f
 rcases hn:named b4 o.name with _|_
 ·exact Kt g gm n k cap op bk A tx dt b4 o.name o.value a w K hs h1 h5 h6 hT hnl hvl hkn hnc hnn ha hv h0 hn hA hfb hmb fun a' w' s kp e f=>hK a' w' s kp (by rw[e];rw[hl]at h0;simp only[nM,ha,hv,h0,hn];rfl) f
 ·exact JX g gm n k cap op bk A tx dt b4 o.name o.value a w K hs h1 h5 h6 hT hnl hvl hkn hnc hnn ha hv h0 hn hA hfb hmb fun a' w' s kp e f=>hK a' w' s kp (by rw[e];simp[nM,hn]) f
theorem Iq (pa op bk n cap:Nat) (Ao:Option Addr) (tx dt:List UInt8) (fs:List eH) (w0 w1:World) (p:Nat) (A0:Option Addr) (l0:List UInt8) (a:Act) (w:World) (K:KT) (hs:Sz 115 a)
 (h1:sl a 1= .pointer (some ⟨pa,0,none⟩)) (h4:sl a 4= .pointer (some ⟨p,0,none⟩)) (h37:sl a 37= .slice Ao n cap) (h38:sl a 38= .int .i64 (n:Int)) (h39:sl a 39= .int .i64 0)
 (hpa:Bk w1 pa 123 #[.int .u16 (op:Int),.int .u16 (bk:Int),.string (bs tx),.string (bs dt),.slice Ao n cap]) (hpn:pa≠p) (hop:op<65536) (hbk:bk<65536) (htx:tx.length≤1099511) (hdt:dt.length≤1099511)
 (hn:fs.length=n) (hnc:n≤cap) (hA:SlR w0 noB 2 Ao n (gJ fs)) (hf01:Fr noB w0 w1) (hp0:w0.heap.size≤p) (hT:lY w0) (hwt:wtF fs≤1048576) (hch0:Chn w1 p w1.heap.size A0 l0 w) (N00:l0.length≤3000000)
 (hbad:∀a' w',Sz 115 a'→sl a' 2= .string ⟨#[]⟩→sl a' 3= .int .i64 2→Fr noB w0 w'→B0 [] fs=none→K .ret a' w')
 (hgood:∀a' w' A',Sz 115 a'→Kp [0] a a'→sl a' 1= .pointer (some ⟨pa,0,none⟩)→sl a' 4= .pointer (some ⟨p,0,none⟩)→Chn w1 p w1.heap.size A' (l0++Au fs) w'→B0 [] fs=some (Au fs)→K .normal a' w'):
 (fR Tryz.f170 7).wp Tryz.prog K a w:=by
 have hgood2:∀a' w' A',Sz 115 a'→KpU [0] (sl a) a'→sl a' 1= .pointer (some ⟨pa,0,none⟩)→sl a' 4= .pointer (some ⟨p,0,none⟩)→Chn w1 p w1.heap.size A' (l0++Au fs) w'→B0 [] fs=some (Au fs)→K .normal a' w':=hgood
 have HG:=Lib.hid hgood2
 clear hgood2
 have HB:=Lib.hid hbad
 clear hgood hbad
 rw[Ee hs]
 simp only[tcF,h1,h4,h37,h38,h39]
 clear h1 h4 h37 h38 h39 hs
 generalize sl a=z at*
 clear a
 conv=>arg 2;whnf
 have hlw:=oD fs
 have hcw:=(hpa.keep hch0.fr (by unfold aI;omega)).cells
 have hAf:SlR w0 (fun k=>w0.heap.size≤k) 2 Ao n (gJ fs):=hA.fresh2
 go_wp2_with fail
 go_loopw [39] (fun iv wr=>∃(i:Nat) (A:Option Addr),i≤n∧iv= .int .i64 (i:Int)∧Chn w1 p w1.heap.size A (l0++Au (fs.take i)) wr∧DW fs i) (fun iv _=>n-(intOf iv).toNat)
 case atStart=>exact⟨0,A0,by omega,rfl,by simpa[Au]using hch0,fun j o h=>absurd h (by omega)⟩
 case round=>
  obtain⟨i,A,hi,rfl,hch,hgood⟩:=hrel
  have hbl:(l0++Au (fs.take i)).length≤20000000:=by
   have h1:=pM (fs.take i)
   have h2:=BS fs i
   rw[List.length_append];omega
  by_cases hlt:i<n
  ·obtain⟨o,ho⟩:∃o,fs[i]? =some o:=⟨_,List.getElem?_eq_getElem (by omega)⟩
   have hfr0:Fr noB w0 wr:=hf01.trans' hch.fr (by rintro b hb rfl;omega)
   obtain⟨ad,rfl,c1,c2⟩:=(hA.keep (hf01.trans' hch.fr (by rintro b hb rfl;omega))).fldAt ho
   have hol:=BB fs i o ho
   have hxo:=AlS.beside hch 196 #[.string (bs o.name),.string (bs o.value)]
   have hch2:=hch.alloc (.cells #[.string (bs o.name),.string (bs o.value)] 196)
   have hfb2:=Bk.new wr 196 #[.string (bs o.name),.string (bs o.value)]
   have hfr2:=hfr0.alloc (.cells #[.string (bs o.name),.string (bs o.value)] 196)
   have Ho:=Lib.hid ho
   have Hgood:=Lib.hid hgood
   have Hch2:=Lib.hid hch2
   have Hxo:=Lib.hid hxo
   have Hfb2:=Lib.hid hfb2
   have Hfr2:=Lib.hid hfr2
   clear ho hgood hch2 hxo hcw hfb2 hfr2 hfr0
   go_upto_region 15 with fail
   obtain⟨go,hgo⟩:∃go,wr.heap.size=go:=⟨_,rfl⟩
   rw[hgo]at Hxo Hfb2
   rw[hgo]
   obtain⟨w4,hw4⟩:∃w4,wr.alloc (.cells #[.string (bs o.name),.string (bs o.value)] 196)=w4:=⟨_,rfl⟩
   rw[hw4]at Hch2 Hxo Hfb2 Hfr2
   rw[hw4]
   have hch4:=Hch2.out
   have hxo4:=Hxo.out
   have hmb4:=hpa.keep hch4.fr (by unfold aI;omega)
   have hA4:=(hA.keep Hfr2.out).fldTake (k:=i) (by omega)
   have hT4:=hT.none Hfr2.out
   clear hgo hw4 Hch2 Hxo c1 c2 hch
   have hbadP:nM (fs.take i) o=false→B0 [] fs=none:=EB Ho.out
   have HbadP:=Lib.hid hbadP
   clear hbadP
   refine lH (c:=aH Tryz.f170 15) (by kernel_rfl) (LN go pa n i cap op bk (some ad) tx dt (fs.take i) o _ _ _ ⟨rfl,rfl⟩ rfl rfl rfl hT4 (by omega) (by omega) hlt hnc (by omega) hA4 Hfb2.out hmb4 ?_)
   intro a15 w15 hs15 kp15 e70 hf15
   have hfr15:=Hfr2.out.none hf15
   have hch15:=hch4.quiet hf15
   have hx15:=hxo4.quiet hf15
   clear hch4 hxo4 hmb4 hA4 hT4 Hfr2 hf15 Hfb2
   rw[kp15.eq_put (n:=115) [44,45,46,47,48,49,50,51,52,53,54,55,56,57,58,59,60,61,62,63,64,65,66,67,68,69,70] ⟨rfl,rfl⟩ hs15 (by decide) (by decide)]
   simp only[List.foldl,Act.put,List.setIfInBounds_toArray,List.set_cons_succ,List.set_cons_zero,e70]
   generalize sl a15=z15
   clear e70 kp15 hs15
   rcases hok:nM (fs.take i) o with _|_
   ·have Hno:=Lib.hid (HbadP.out hok)
    clear hok HbadP
    go_wp2_with fail
    exact HB.out _ _ ⟨rfl,rfl⟩ rfl rfl hfr15 Hno.out
   ·have Hg1:Hid (DW fs (i+1)):=Lib.hid (Dp Hgood.out Ho.out hok)
    clear hok HbadP hfr15
    go_upto_region 17 with fail
    refine lH (c:=aH Tryz.f170 17) (by kernel_rfl) (LK go o.name o.value w1 p w1.heap.size A _ _ _ _ ⟨rfl,rfl⟩ rfl rfl (by omega) (by omega) hx15 hch15 (by omega) ?_)
    intro a17 w17 A17 hs17 kp17 hch17 hx17
    rw[kp17.eq_put (n:=115) [71,72,73,74,75,76,77] ⟨rfl,rfl⟩ hs17 (by decide) (by decide)]
    simp only[List.foldl,Act.put,List.setIfInBounds_toArray,List.set_cons_succ,List.set_cons_zero]
    generalize sl a17=z17
    clear kp17 hs17
    go_wp2_with fail
    refine⟨⟨i+1,A17,by omega,by rw[Int.natCast_add];rfl,?_,Hg1.out⟩,by simp only[intOf];omega⟩
    rw[DU Ho.out,←List.append_assoc]
    simpa using hch17
  ·obtain rfl:i=n:=by omega
   rw[List.take_of_length_le (by omega)]at hch hbl
   have hg:=EW (by rw[hn];exact hgood)
   have Hg:=Lib.hid hg
   clear hg hgood
   go_wp2_with fail
   exact HG.out _ _ A ⟨rfl,rfl⟩ kZ rfl rfl hch Hg.out
end Go.Proofs.YtcbkaiakdhiloacGreatDoor
namespace Go.Proofs.YtcbkaiakdhiloacGreatDoor
open Go.RowKit Go.Proofs
attribute [local go_sem] aG aD aC aE
theorem CJ:∀l:List UInt8,decide (0≤Lib.indexByte l 0)=l.contains 0:=by
 intro l
 induction l with
 |nil=>rfl
 |cons c r ih=>
  have hge:=Lib.indexByte_ge r 0
  rw[List.contains_cons,←ih]
  have e:Lib.indexByte (c::r) 0=if c==0 then 0 else if Lib.indexByte r 0== -1 then-1 else Lib.indexByte r 0+1:=rfl
  rw[e]
  by_cases h:c=0
  ·subst h;simp
  ·have h1:(c==0)=false:=by simpa using h
   have h2:((0:UInt8)==c)=false:=by rw[beq_eq_false_iff_ne];exact fun x=>h x.symm
   rw[h1,h2]
   by_cases h3:Lib.indexByte r 0= -1
   ·simp[h3]
   ·have h4:(Lib.indexByte r 0== -1)=false:=by simpa using h3
    rw[h4];simp;omega
theorem C9 (l:List UInt8) (w:World):Calls Tryz.prog 207 #[.string (bs l),.string ⟨#[0]⟩] w fun e w'=>e= .returned (.bool (l.contains 0))∧w'=w:=
 (Tryz.strings_Contains_one (bs l) 0 w).mono fun e w' h=>by rw[oO]at h;rw[CJ]at h;exact h
theorem jK (n:Nat):bQ 2 [(n:Int)]=big 2 n:=by simp[bQ]
theorem rR (op bk:Nat) (tx dt:List UInt8) (fs:List eH) (Ao:Option Addr) (cap:Nat) (w:World)
 (hop:op<65536) (hbk:bk<65536) (hA:SlR w noB 2 Ao fs.length (gJ fs)) (hnc:fs.length≤cap) (hwt:wtF fs≤1048576) (htx:tx.length≤1048576) (hdt:dt.length≤1048576) (hT:lY w):
 Calls Tryz.prog 170 #[.agg #[.int .u16 (op:Int),.int .u16 (bk:Int),.string (bs tx),.string (bs dt),.slice Ao fs.length cap]] w (fX (bU ⟨op,bk,tx,dt,fs⟩) w):=by
 have hpa:=(Bk.new w 123 #[.int .u16 (op:Int),.int .u16 (bk:Int),.string (bs tx),.string (bs dt),.slice Ao fs.length cap]).alloc (.cells #[.slice none 0 0] 226)
 have hbw:=Bk.new (w.alloc (.cells #[.int .u16 (op:Int),.int .u16 (bk:Int),.string (bs tx),.string (bs dt),.slice Ao fs.length cap] 123)) 226 #[.slice none 0 0]
 rw[show(w.alloc (.cells #[.int .u16 (op:Int),.int .u16 (bk:Int),.string (bs tx),.string (bs dt),.slice Ao fs.length cap] 123)).heap.size=w.heap.size+1 by simp]at hbw
 obtain⟨n,hn⟩:∃n,fs.length=n:=⟨_,rfl⟩
 rw[hn]at hA hpa hbw hnc⊢
 obtain⟨r,hr⟩:∃r,bU ⟨op,bk,tx,dt,fs⟩=r:=⟨_,rfl⟩
 rw[hr]
 have Hr:=Lib.hid hr
 have hlw:=oD fs
 clear hr
 go_enter Tryz.func170,Tryz.ntmps170
 go_upto_region 2 with fail
 have hf0:Fr noB w ((w.alloc (.cells #[.int .u16 (op:Int),.int .u16 (bk:Int),.string (bs tx),.string (bs dt),.slice Ao n cap] 123)).alloc (.cells #[.slice none 0 0] 226)):=((Fr.refl _ _).alloc _).alloc _
 have hsz:((w.alloc (.cells #[.int .u16 (op:Int),.int .u16 (bk:Int),.string (bs tx),.string (bs dt),.slice Ao n cap] 123)).alloc (.cells #[.slice none 0 0] 226)).heap.size=w.heap.size+2:=by simp
 generalize(w.alloc (.cells #[.int .u16 (op:Int),.int .u16 (bk:Int),.string (bs tx),.string (bs dt),.slice Ao n cap] 123)).alloc (.cells #[.slice none 0 0] 226)=w1 at*
 have hwr0:=Chn.start0 (Wr.zero hbw) rfl
 refine lH (c:=aH Tryz.f170 2) (by kernel_rfl) (M5 w.heap.size op bk n cap Ao tx dt w1 (w.heap.size+1) w1.heap.size none [] _ _ _ ⟨rfl,rfl⟩ rfl rfl hpa (by omega) hop hbk (by omega) (by omega) hwr0 (by simp) ?_)
 intro a5 w5 A5 hs5 kp5 hch5
 rw[List.nil_append,jK]at hch5
 have Hsz:=Lib.hid hsz
 clear hsz hwr0 hbw
 rw[kp5.eq_put (n:=115) [10,11,12,13,14] ⟨rfl,rfl⟩ hs5 (by decide) (by decide)]
 simp only[List.foldl,Act.put,List.setIfInBounds_toArray,List.set_cons_succ,List.set_cons_zero]
 generalize sl a5=z
 clear kp5 hs5
 have hc5:=(hpa.keep hch5.fr (by unfold aI;omega)).cells
 generalize Value.agg #[.int .u16 (op:Int),.int .u16 (bk:Int),.string (bs tx),.string (bs dt),.slice Ao n cap]=v0
 go_upto_block 0 with fail
 go_cut [2,3]from 5 (fun s2 s3 wx=>∃A l,Chn w1 (w.heap.size+1) w1.heap.size A l wx∧r=Av l∧l.length≤40000000)
 case first=>
  have hcon:=C9 tx
  have hasc:=fun w=>eE tx w (by omega)
  have Hasc:=Lib.hid hasc
  have Hcon:=Lib.hid hcon
  clear hasc hcon
  have hfr5:Fr noB w w5:=hf0.trans' hch5.fr (by rintro b hb rfl;omega)
  by_cases h1:op=1
  ·have hi1:(op:Int)=1:=by omega
   have H1:=Lib.hid h1
   clear h1
   rcases hw:cP tx with _|_
   ·have Hres:Hid (r=([],2)):=Lib.hid (by rw[←Hr.out];simp[bU,H1.out,hw])
    have Hw:=Lib.hid hw
    clear hw
    go_wp2_with (go_at_call 167;refine(Hasc.out _).mono ?_;rintro e w6 ⟨rfl,rfl⟩;rw[Hw.out])
    go_ret2
    exact⟨by rw[Hres.out];rfl,hfr5⟩
   ·have Hw:=Lib.hid hw
    clear hw
    go_upto_region 11 with(go_at_call 167;refine(Hasc.out _).mono ?_;rintro e w6 ⟨rfl,rfl⟩;rw[Hw.out])
    refine lH (c:=aH Tryz.f170 11) (by kernel_rfl) (Mh w.heap.size op bk n cap Ao tx dt w1 (w.heap.size+1) w1.heap.size A5 (big 2 op) _ _ _ ⟨rfl,rfl⟩ rfl rfl hpa (by omega) hop hbk (by omega) (by omega) hch5 (by rw[aB];omega) ?_)
    intro a11 w11 A11 hs11 kp11 hch11
    rw[kp11.eq_put (n:=115) [31,32,33,34,35] ⟨rfl,rfl⟩ hs11 (by decide) (by decide)]
    simp only[List.foldl,Act.put,List.setIfInBounds_toArray,List.set_cons_succ,List.set_cons_zero]
    generalize sl a11=z11
    clear kp11 hs11
    have hc11:=(hpa.keep hch11.fr (by unfold aI;omega)).cells
    go_upto_block 7 with fail
    refine lH (c:=fR Tryz.f170 7) (by kernel_rfl) (Iq w.heap.size op bk n cap Ao tx dt fs w w1 (w.heap.size+1) A11 (big 2 op++List.flatten [tx,[0,111,99,116,101,116,0]]) _ _ _ ⟨rfl,rfl⟩ rfl rfl rfl rfl rfl hpa (by omega) hop hbk (by omega) (by omega) hn hnc hA hf0 (by omega) hT hwt hch11 (by simp[aB];try omega) ?_ ?_)
    ·intro a' w' s' e2 e3 hf' hno
     refine bodyPost_ret (results_tmp2 rfl _ _ _) s'.defers ?_
     have e2':a'.tmps.getD 2 undef=_:=e2
     have e3':a'.tmps.getD 3 undef=_:=e3
     rw[e2',e3']
     exact⟨by rw[show r=([],2)from by rw[←Hr.out];(unfold bU;rw[if_pos H1.out,if_pos Hw.out]);rw[hno]];rfl,hf'⟩
    ·intro a' w' A' s' kp' e1 e4 hch' hyes
     rw[Ee s']
     simp only[tcF,e1,e4,kp' 0 (by decide)]
     generalize sl a'=z'
     have Hyes:=Lib.hid hyes
     clear hyes kp' s' e1 e4
     have hfl:=pM fs
     go_wp2_with fail
     go_meet
     case rel=>exact⟨A',_,hch',by rw[←Hr.out];(unfold bU;rw[if_pos H1.out,if_pos Hw.out]);rw[Hyes.out];simp,by simp[aB];omega⟩
  have j1:((op:Int)==1)=false:=by rw[beq_eq_false_iff_ne];omega
  have H1:=Lib.hid h1
  clear h1
  by_cases h6:op=6
  ·have hi6:(op:Int)=6:=by omega
   have H6:=Lib.hid h6
   clear h6 j1
   go_upto_block 7 with fail
   refine lH (c:=fR Tryz.f170 7) (by kernel_rfl) (Iq w.heap.size op bk n cap Ao tx dt fs w w1 (w.heap.size+1) A5 (big 2 op) _ _ _ ⟨rfl,rfl⟩ rfl rfl rfl rfl rfl hpa (by omega) hop hbk (by omega) (by omega) hn hnc hA hf0 (by omega) hT hwt hch5 (by simp[aB];try omega) ?_ ?_)
   ·intro a' w' s' e2 e3 hf' hno
    refine bodyPost_ret (results_tmp2 rfl _ _ _) s'.defers ?_
    have e2':a'.tmps.getD 2 undef=_:=e2
    have e3':a'.tmps.getD 3 undef=_:=e3
    rw[e2',e3']
    exact⟨by rw[show r=([],2)from by rw[←Hr.out];(unfold bU;rw[if_neg H1.out,if_pos H6.out]);rw[hno]];rfl,hf'⟩
   ·intro a' w' A' s' kp' e1 e4 hch' hyes
    rw[Ee s']
    simp only[tcF,e1,e4,kp' 0 (by decide)]
    generalize sl a'=z'
    have Hyes:=Lib.hid hyes
    clear hyes kp' s' e1 e4
    have hfl:=pM fs
    go_wp2_with fail
    go_meet
    case rel=>exact⟨A',_,hch',by rw[←Hr.out];(unfold bU;rw[if_neg H1.out,if_pos H6.out]);rw[Hyes.out],by simp[aB];omega⟩
  have j6:((op:Int)==6)=false:=by rw[beq_eq_false_iff_ne];omega
  have H6:=Lib.hid h6
  clear h6
  by_cases h3:op=3
  ·have hi3:(op:Int)=3:=by omega
   have H3:=Lib.hid h3
   clear h3 j1 j6
   go_upto_region 19 with fail
   refine lH (c:=aH Tryz.f170 19) (by kernel_rfl) (MP w.heap.size op bk n cap Ao tx dt w1 (w.heap.size+1) w1.heap.size A5 (big 2 op) _ _ _ ⟨rfl,rfl⟩ rfl rfl hpa (by omega) hop hbk (by omega) (by omega) hch5 (by rw[aB];omega) ?_)
   intro a19 w19 A19 hs19 kp19 hch19
   rw[kp19.eq_put (n:=115) [79,80,81,82,83,84,85,86,87] ⟨rfl,rfl⟩ hs19 (by decide) (by decide)]
   simp only[List.foldl,Act.put,List.setIfInBounds_toArray,List.set_cons_succ,List.set_cons_zero]
   generalize sl a19=z19
   clear kp19 hs19
   have hc19:=(hpa.keep hch19.fr (by unfold aI;omega)).cells
   have hfr19:Fr noB w w19:=hf0.trans' hch19.fr (by rintro b hb rfl;omega)
   by_cases hlen:1024<dt.length
   ·have hli:(1024:Int)<(dt.length:Int):=by omega
    have Hres:Hid (r=([],7)):=Lib.hid (by rw[←Hr.out];unfold bU;rw[if_neg H1.out,if_neg H6.out,if_pos H3.out,if_pos hlen])
    clear hlen
    go_wp2_with fail
    go_ret2
    exact⟨by rw[Hres.out];rfl,hfr19⟩
   ·have hli:¬(1024:Int)<(dt.length:Int):=by omega
    have Hres:Hid (r=Av (big 2 op++big 2 bk++dt)):=Lib.hid (by rw[←Hr.out];unfold bU;rw[if_neg H1.out,if_neg H6.out,if_pos H3.out,if_neg hlen])
    go_wp2_with fail
    go_meet
    case rel=>exact⟨A19,_,hch19,by rw[Hres.out,jK];simp,by simp[jK,aB];omega⟩
  have j3:((op:Int)==3)=false:=by rw[beq_eq_false_iff_ne];omega
  have H3:=Lib.hid h3
  clear h3
  by_cases h4:op=4
  ·have hi4:(op:Int)=4:=by omega
   have H4:=Lib.hid h4
   clear h4 j1 j6 j3
   go_upto_region 22 with fail
   refine lH (c:=aH Tryz.f170 22) (by kernel_rfl) (Mz w.heap.size op bk n cap Ao tx dt w1 (w.heap.size+1) w1.heap.size A5 (big 2 op) _ _ _ ⟨rfl,rfl⟩ rfl rfl hpa (by omega) hop hbk (by omega) (by omega) hch5 (by rw[aB];omega) ?_)
   intro a22 w22 A22 hs22 kp22 hch22
   rw[kp22.eq_put (n:=115) [92,93,94,95,96] ⟨rfl,rfl⟩ hs22 (by decide) (by decide)]
   simp only[List.foldl,Act.put,List.setIfInBounds_toArray,List.set_cons_succ,List.set_cons_zero]
   generalize sl a22=z22
   clear kp22 hs22
   go_wp2_with fail
   go_meet
   case rel=>exact⟨A22,_,hch22,by rw[←Hr.out];unfold bU;rw[if_neg H1.out,if_neg H6.out,if_neg H3.out,if_pos H4.out,jK],by simp[jK,aB]⟩
  have j4:((op:Int)==4)=false:=by rw[beq_eq_false_iff_ne];omega
  have H4:=Lib.hid h4
  clear h4
  by_cases h5:op=5
  ·have hi5:(op:Int)=5:=by omega
   have H5:=Lib.hid h5
   clear h5 j1 j6 j3 j4
   rcases hw:tx.contains 0 with _|_
   ·have Hw:=Lib.hid hw
    clear hw
    go_upto_region 25 with(go_at_call 207;refine(Hcon.out _).mono ?_;rintro e w6 ⟨rfl,rfl⟩;rw[Hw.out])
    refine lH (c:=aH Tryz.f170 25) (by kernel_rfl) (Mp w.heap.size op bk n cap Ao tx dt w1 (w.heap.size+1) w1.heap.size A5 (big 2 op) _ _ _ ⟨rfl,rfl⟩ rfl rfl hpa (by omega) hop hbk (by omega) (by omega) hch5 (by rw[aB];omega) ?_)
    intro a25 w25 A25 hs25 kp25 hch25
    rw[kp25.eq_put (n:=115) [100,101,102,103,104,105,106,107,108] ⟨rfl,rfl⟩ hs25 (by decide) (by decide)]
    simp only[List.foldl,Act.put,List.setIfInBounds_toArray,List.set_cons_succ,List.set_cons_zero]
    generalize sl a25=z25
    clear kp25 hs25
    go_wp2_with fail
    go_meet
    case rel=>exact⟨A25,_,hch25,by rw[←Hr.out];unfold bU;rw[if_neg H1.out,if_neg H6.out,if_neg H3.out,if_neg H4.out,if_pos H5.out,Hw.out,jK];simp,by simp[jK,aB];omega⟩
   ·have Hw:=Lib.hid hw
    clear hw
    have Hres:Hid (r=([],2)):=Lib.hid (by rw[←Hr.out];unfold bU;rw[if_neg H1.out,if_neg H6.out,if_neg H3.out,if_neg H4.out,if_pos H5.out,Hw.out];rfl)
    go_wp2_with (go_at_call 207;refine(Hcon.out _).mono ?_;rintro e w6 ⟨rfl,rfl⟩;rw[Hw.out])
    go_ret2
    exact⟨by rw[Hres.out];rfl,hfr5⟩
  have j5:((op:Int)==5)=false:=by rw[beq_eq_false_iff_ne];omega
  have Hres:Hid (r=([],2)):=Lib.hid (by rw[←Hr.out];unfold bU;rw[if_neg H1.out,if_neg H6.out,if_neg H3.out,if_neg H4.out,if_neg h5])
  clear h5
  go_wp2_with fail
  go_ret2
  exact⟨by rw[Hres.out];rfl,hfr5⟩
 case rest=>
  obtain⟨A7,l7,hch7,hr7,hl7⟩:=hcut
  have hfr7:Fr noB w wc:=hf0.trans' hch7.fr (by rintro b hb rfl;omega)
  have Hr7:=Lib.hid hr7
  clear hr7
  have hst:=fun w6 (h:Wr w6 (w.heap.size+1) A7 l7)=>iN (w.heap.size+1) A7 l7 w6 h
  have hwr7:=hch7.wr
  by_cases hlen:1472<l7.length
  ·have hli:(1472:Int)<(l7.length:Int):=by omega
   have Hres:Hid (r=([],7)):=Lib.hid (by rw[Hr7.out];unfold Av;rw[if_pos hlen])
   clear hlen
   go_wp2_with (go_at_call 150;refine(iN (w.heap.size+1) A7 l7 _ hwr7).mono ?_;rintro e w6 ⟨rfl,rfl⟩)
   go_ret2
   exact⟨by rw[Hres.out];rfl,hfr7⟩
  ·have hli:¬(1472:Int)<(l7.length:Int):=by omega
   have Hres:Hid (r=(l7,0)):=Lib.hid (by rw[Hr7.out];unfold Av;rw[if_neg hlen])
   clear hlen
   go_wp2_with (go_at_call 150;refine(iN (w.heap.size+1) A7 l7 _ hwr7).mono ?_;rintro e w6 ⟨rfl,rfl⟩)
   go_ret2
   exact⟨by rw[Hres.out];rfl,hfr7⟩
end Go.Proofs.YtcbkaiakdhiloacGreatDoor
namespace Go.Proofs.YtcbkaiakdhiloacGreatDoor
open Go.RowKit Go.Proofs
attribute [local go_sem] aG aD aC aE
theorem FR (b:List UInt8):(Av b).1.length≤b.length:=by
 unfold Av;split<;>simp
theorem HJ (code:Nat) (tx:List UInt8) (h:tx.length≤1048576):(bU ⟨5,code,tx,[],[]⟩).1.length≤4611686018427387000:=by
 have h1:=FR (big 2 5++big 2 code++tx++[0])
 simp only[List.length_append,aB,List.length_cons,List.length_nil]at h1
 unfold bU
 simp only[show ¬((5:Nat)=1) by decide,show ¬((5:Nat)=6) by decide,show ¬((5:Nat)=3) by decide,show ¬((5:Nat)=4) by decide,if_false,if_true]
 split
 ·simp
 ·omega
theorem cN (L:Lay) (s:St) (port code:Nat) (tx:List UInt8) (w:World) (h:aA w L s) (hport:port<65536) (hcode:code<65536) (htx:tx.length≤1048576):
 Calls Tryz.prog 191 #[.pointer (some ⟨L.p,0,none⟩),.int .u16 (port:Int),.int .u16 (code:Int),.string (bs tx)] w (bH L (s.wrong port code tx) (.tuple #[]) w):=by
 obtain⟨ld,hl⟩:∃ld,(bU ⟨5,code,tx,[],[]⟩).1=ld:=⟨_,rfl⟩
 have hld:ld.length≤4611686018427387000:=by rw[←hl];exact HJ code tx htx
 have hu:s.wrong port code tx=s.udp s.source s.port port ld:=by rw[←hl];rfl
 have Hu:=Lib.hid hu
 have Hl:=Lib.hid hl
 clear hl hu
 go_enter Tryz.func191,Tryz.ntmps191
 go_wp2_with fail
 refine(rR 5 code tx [] [] none 0 _ (by decide) hcode SlR.nil (Nat.le_refl 0) (by decide) htx (by decide) h.gb.tabs).mono ?_
 rintro e w2 ⟨rfl,f2⟩
 rw[Hl.out]
 have hB2:=h.none f2
 have hF2:Fr noB w w2:=f2
 go_upto_region 1 with fail
 refine wpr (fun w'=>aA w' L s∧Fr noB w w') [13] (.p 0 (.p 1 (.p 2 (.p 3 (.p 4 (.p 6 (.p 7 (.p 8 (.p 9 (.p 11 (.p 12 (.q 5 (.q 10 (.e 13 (.nil))))))))))))))) (⟨hB2.drew,hF2.drew⟩) ?_
 intro ops Q' hO hQ' wr1 hR1
 iterate 11 refine pP hO ?_
 iterate 2 (refine pQ hO rfl rfl (fun w' hS=>by obtain⟨hB,hF⟩:=hS;have c27:=hB.g27;have c34:=hB.g34;exact qd) ?_)
 refine iL hO rfl rfl rfl (fun K hK=> ?_)
 go_simp
 refine(xD L s s.source s.port port ld _ hR1.1 h.ok.source h.ok.port hport hld).mono ?_
 rintro e w3 ⟨rfl,hB3,hf3⟩
 refine hK _ _ ?_
 clear hK K
 refine bL (hQ' _ _ ?_)
 go_wp2_with fail
 refine bodyPost_end (results_none rfl _ _ _) rfl ?_
 rw[Hu.out]
 exact⟨rfl,hB3,(hR1.2.of_no (bM L)).trans hf3⟩
end Go.Proofs.YtcbkaiakdhiloacGreatDoor
namespace Go.Proofs.YtcbkaiakdhiloacGreatDoor
open Go.RowKit Go.Proofs
attribute [local go_sem] aG aD aC aE
theorem pJ (ip:Nat) (w:World) (hip:ip<4294967296):
 Calls Tryz.prog 137 #[.int .u32 (ip:Int)] w fun e w'=>e= .returned (.string (bs (big 4 ip)))∧Fr noB w w':=by
 have hf0:Fr noB w ((w.alloc (.cells #[.slice none 0 0] 226)).alloc (.cells #[.int .u32 (ip:Int)] 38)):=((Fr.refl _ _).alloc _).alloc _
 have hbw:=(Bk.new w 226 #[.slice none 0 0]).alloc (.cells #[.int .u32 (ip:Int)] 38)
 have hbs:=Bk.new (w.alloc (.cells #[.slice none 0 0] 226)) 38 #[.int .u32 (ip:Int)]
 rw[show(w.alloc (.cells #[.slice none 0 0] 226)).heap.size=w.heap.size+1 by simp]at hbs
 have hwr:=Wr.zero hbw
 have hcall:=wIP w.heap.size none [] _ (some ⟨w.heap.size+1,0,none⟩) 1 1 [(ip:Int)] hwr (SlR.of_bk hbs (by rintro(h|⟨a,h,_⟩);omega;cases h) rfl) (by simp;omega) (by decide) (by simp)
 have Hcall:=Lib.hid hcall
 clear hcall
 go_enter Tryz.func137,Tryz.ntmps137
 go_wp2_with fail
 refine Hcall.out.mono ?_
 rintro e w2 ⟨rfl,A',hw2,hf2,ha2⟩
 go_wp2_with fail
 refine(iN w.heap.size A' _ w2 hw2).mono ?_
 rintro e w3 ⟨rfl,rfl⟩
 go_wp2_with fail
 go_ret
 refine⟨by simp[bQ],hf0.trans' hf2 ?_⟩
 rintro b hb (rfl|⟨a,h,_⟩)
 ·exact absurd hb (Nat.lt_irrefl _)
 ·cases h
end Go.Proofs.YtcbkaiakdhiloacGreatDoor
namespace Go.Proofs.YtcbkaiakdhiloacGreatDoor
open Go.RowKit Go.Proofs
attribute [local go_sem] aG aD aC aE
theorem uY (cb co:Nat) (v:Value) (w:World) (hc:w.cell? ⟨cb,co,none⟩=some v) (hfz:w.frozen? ⟨cb,co,none⟩=false):
 Calls Tryz.prog 35 #[.pointer (some ⟨cb,co,none⟩)] w fun e w'=>e= .returned (.tuple #[])∧w'=(w.alloc (.map #[] 0)).setCell ⟨cb,co,none⟩ (.map (some w.heap.size)):=by
 have hlt:=cJ hc
 have hc2:(w.alloc (.map #[] 0)).cell? ⟨cb,co,none⟩=some v:=by
  rw[show(w.alloc (.map #[] 0)).cell? ⟨cb,co,none⟩=w.cell? ⟨cb,co,none⟩from by unfold World.cell?;rw[Below.heap_alloc w _ cb hlt]]
  exact hc
 have hf2:(w.alloc (.map #[] 0)).frozen? ⟨cb,co,none⟩=false:=by
  rw[show(w.alloc (.map #[] 0)).frozen? ⟨cb,co,none⟩=w.frozen? ⟨cb,co,none⟩from by unfold World.frozen?;rw[Below.heap_alloc w _ cb hlt]]
  exact hfz
 have hmm:= @run_makeMap Tryz.prog
 go_enter Tryz.func35,Tryz.ntmps35
 go_wp2_with fail
 exact bodyPost_end (results_none rfl _ _ _) rfl ⟨rfl,rfl⟩
theorem Ec {w:World} {cb co:Nat} (hlt:cb<w.heap.size):fD ((w.alloc (.map #[] 0)).setCell ⟨cb,co,none⟩ (.map (some w.heap.size))) w.heap.size []:=by
 have h1:fD (w.alloc (.map #[] 0)) w.heap.size []:=⟨_,w.ownsMap_made _ _ _,Rep.nil⟩
 have hf:Fr (aI cb) (w.alloc (.map #[] 0)) ((w.alloc (.map #[] 0)).setCell ⟨cb,co,none⟩ (.map (some w.heap.size))):=(Fr.refl (aI cb) (w.alloc (.map #[] 0))).setCell (p:=⟨cb,co,none⟩) (fun _=>rfl) (.map (some w.heap.size))
 exact h1.keep hf (fun x=>by have x':w.heap.size=cb:=x;omega)
end Go.Proofs.YtcbkaiakdhiloacGreatDoor
namespace Go.Proofs.YtcbkaiakdhiloacGreatDoor
open Go.RowKit Go.Proofs
attribute [local go_sem] aG aD aC aE
theorem zG {w:World} (h:Glb w):∀b,glB b→b<w.heap.size:=by
 rintro b (rfl|rfl|rfl|rfl|rfl|rfl)
 ·exact h.all.1
 ·exact h.rounds.1
 ·exact h.begin.1
 ·exact h.tabs.lt.1
 ·exact h.tabs.lt.2
 ·exact Ie h.pow MW
def bC (L:Lay) (s:St) (r:Value) (w:World) (e:Ending) (w':World):Prop:=e= .returned r∧∃L':Lay,L'.p=L.p∧(∀b,bM L' b→bM L b∨w.heap.size≤b)∧aA w' L' s∧Fr (bM L) w w'
theorem bH.two {L:Lay} {s:St} {r:Value} {w w':World} {e:Ending} (h:bH L s r w e w'):bC L s r w e w':=⟨h.1,L,rfl,fun b hb=> .inl hb,h.2⟩
theorem bC.comp {L L1:Lay} {s:St} {r:Value} {w w1 w':World} {e:Ending} (hp:L1.p=L.p) (ho:∀b,bM L1 b→bM L b∨w.heap.size≤b) (hf:Fr (bM L) w w1) (h:bC L1 s r w1 e w'):bC L s r w e w':=by
 obtain⟨h1,L',h2,h3,h4,h5⟩:=h
 refine⟨h1,L',h2.trans hp,fun b hb=> ?_,h4,hf.trans' h5 fun b hb hx=> ?_⟩
 ·rcases h3 b hb with h|h
  ·exact ho b h
  ·exact .inr (Nat.le_trans hf.size h)
 ·rcases ho b hx with h|h
  ·exact h
  ·omega
theorem AX {s:St} (h:s.Ok):s.drop.Ok where
 rx0:=h.rx0
 rx1:=h.rx1
 tx0:=h.tx0
 tx1:=h.tx1
 draw:=h.draw
 xid:=by simp[St.drop]
 addr:=by simp[St.drop]
 mask:=by simp[St.drop]
 router:=by simp[St.drop]
 server:=by simp[St.drop]
 source:=by simp[St.drop]
 lsends:=by simp[St.drop]
 tsends:=by simp[St.drop]
 port:=by simp[St.drop]
 peer:=by simp[St.drop]
 goal:=by simp[St.drop]
 last:=by simp[St.drop]
 name:=h.name
 cap:=h.cap
 block:=h.block
 window:=h.window
 blk:=by simp[St.drop]
 wind:=by simp[St.drop]
 next:=by simp[St.drop]
 image:=by simp[St.drop]
 waits:=by simp[St.drop]
 cache:=by simp[St.drop]
 now0:=h.now0
 now1:=h.now1
 dues:=by simp[St.drop]
theorem rE (L:Lay) (s:St) (w:World) (h:aA w L s):
 Calls Tryz.prog 79 #[.pointer (some ⟨L.p,0,none⟩)] w (bC L s.drop (.tuple #[]) w):=by
 obtain⟨w1,hw1⟩:∃w1,((((((((((((((((((((((((w.setCell ⟨L.p,21,none⟩ (.int .i64 0)).setCell ⟨L.p,22,none⟩ (.int .u32 0)).setCell ⟨L.p,23,none⟩ (.int .u32 0)).setCell ⟨L.p,24,none⟩ (.int .u32 0)).setCell ⟨L.p,25,none⟩ (.int .u32 0)).setCell ⟨L.p,26,none⟩ (.int .u32 0)).setCell ⟨L.p,27,none⟩ (.int .u32 0)).setCell ⟨L.p,28,none⟩ (.int .i64 0)).setCell ⟨L.p,29,none⟩ (.int .i64 0)).setCell ⟨L.p,30,none⟩ (.int .i64 0)).setCell ⟨L.p,31,none⟩ (.int .i64 0)).setCell ⟨L.p,32,none⟩ (.int .i64 0)).setCell ⟨L.p,33,none⟩ (.int .i64 0)).setCell ⟨L.p,34,none⟩ (.int .u16 0)).setCell ⟨L.p,35,none⟩ (.int .u16 0)).setCell ⟨L.p,36,none⟩ (.int .u16 0)).setCell ⟨L.p,37,none⟩ (.int .i64 0)).setCell ⟨L.p,38,none⟩ (.int .i64 0)).setCell ⟨L.p,39,none⟩ (.int .u16 0)).setCell ⟨L.p,40,none⟩ (.int .i64 0)).setCell ⟨L.p,41,none⟩ (.int .i64 0)).setCell ⟨L.p,42,none⟩ (.int .i64 0)).setCell ⟨L.p,43,none⟩ (.string ⟨#[]⟩)).setCell ⟨L.p,44,none⟩ (.slice none 0 0))=w1:=⟨_,rfl⟩
 have hce0:(((((((((((((((((((((((((dM s L).setIfInBounds 21 (.int .i64 0)).setIfInBounds 22 (.int .u32 0)).setIfInBounds 23 (.int .u32 0)).setIfInBounds 24 (.int .u32 0)).setIfInBounds 25 (.int .u32 0)).setIfInBounds 26 (.int .u32 0)).setIfInBounds 27 (.int .u32 0)).setIfInBounds 28 (.int .i64 0)).setIfInBounds 29 (.int .i64 0)).setIfInBounds 30 (.int .i64 0)).setIfInBounds 31 (.int .i64 0)).setIfInBounds 32 (.int .i64 0)).setIfInBounds 33 (.int .i64 0)).setIfInBounds 34 (.int .u16 0)).setIfInBounds 35 (.int .u16 0)).setIfInBounds 36 (.int .u16 0)).setIfInBounds 37 (.int .i64 0)).setIfInBounds 38 (.int .i64 0)).setIfInBounds 39 (.int .u16 0)).setIfInBounds 40 (.int .i64 0)).setIfInBounds 41 (.int .i64 0)).setIfInBounds 42 (.int .i64 0)).setIfInBounds 43 (.string ⟨#[]⟩)).setIfInBounds 44 (.slice none 0 0))=dM s.drop {L with img:=none,icap:=0}:=by
  unfold dM
  simp only[List.setIfInBounds_toArray,List.set_cons_zero,List.set_cons_succ]
  rfl
 have hb1:Bk w1 L.p 106 (dM s.drop {L with img:=none,icap:=0}):=by rw[←hw1,←hce0];exact((((((((((((((((((((((((h.bk.set 21 (.int .i64 0)).set 22 (.int .u32 0)).set 23 (.int .u32 0)).set 24 (.int .u32 0)).set 25 (.int .u32 0)).set 26 (.int .u32 0)).set 27 (.int .u32 0)).set 28 (.int .i64 0)).set 29 (.int .i64 0)).set 30 (.int .i64 0)).set 31 (.int .i64 0)).set 32 (.int .i64 0)).set 33 (.int .i64 0)).set 34 (.int .u16 0)).set 35 (.int .u16 0)).set 36 (.int .u16 0)).set 37 (.int .i64 0)).set 38 (.int .i64 0)).set 39 (.int .u16 0)).set 40 (.int .i64 0)).set 41 (.int .i64 0)).set 42 (.int .i64 0)).set 43 (.string ⟨#[]⟩)).set 44 (.slice none 0 0))
 clear hce0
 have hf1:Fr (aI L.p) w w1:=by rw[←hw1];exact(((((((((((((((((((((((((Fr.refl (aI L.p) w).setCell (p:=⟨L.p,21,none⟩) (fun _=>rfl) (.int .i64 0)).setCell (p:=⟨L.p,22,none⟩) (fun _=>rfl) (.int .u32 0)).setCell (p:=⟨L.p,23,none⟩) (fun _=>rfl) (.int .u32 0)).setCell (p:=⟨L.p,24,none⟩) (fun _=>rfl) (.int .u32 0)).setCell (p:=⟨L.p,25,none⟩) (fun _=>rfl) (.int .u32 0)).setCell (p:=⟨L.p,26,none⟩) (fun _=>rfl) (.int .u32 0)).setCell (p:=⟨L.p,27,none⟩) (fun _=>rfl) (.int .u32 0)).setCell (p:=⟨L.p,28,none⟩) (fun _=>rfl) (.int .i64 0)).setCell (p:=⟨L.p,29,none⟩) (fun _=>rfl) (.int .i64 0)).setCell (p:=⟨L.p,30,none⟩) (fun _=>rfl) (.int .i64 0)).setCell (p:=⟨L.p,31,none⟩) (fun _=>rfl) (.int .i64 0)).setCell (p:=⟨L.p,32,none⟩) (fun _=>rfl) (.int .i64 0)).setCell (p:=⟨L.p,33,none⟩) (fun _=>rfl) (.int .i64 0)).setCell (p:=⟨L.p,34,none⟩) (fun _=>rfl) (.int .u16 0)).setCell (p:=⟨L.p,35,none⟩) (fun _=>rfl) (.int .u16 0)).setCell (p:=⟨L.p,36,none⟩) (fun _=>rfl) (.int .u16 0)).setCell (p:=⟨L.p,37,none⟩) (fun _=>rfl) (.int .i64 0)).setCell (p:=⟨L.p,38,none⟩) (fun _=>rfl) (.int .i64 0)).setCell (p:=⟨L.p,39,none⟩) (fun _=>rfl) (.int .u16 0)).setCell (p:=⟨L.p,40,none⟩) (fun _=>rfl) (.int .i64 0)).setCell (p:=⟨L.p,41,none⟩) (fun _=>rfl) (.int .i64 0)).setCell (p:=⟨L.p,42,none⟩) (fun _=>rfl) (.int .i64 0)).setCell (p:=⟨L.p,43,none⟩) (fun _=>rfl) (.string ⟨#[]⟩)).setCell (p:=⟨L.p,44,none⟩) (fun _=>rfl) (.slice none 0 0))
 have Hw1:=Lib.hid hw1
 clear hw1
 have hlt:=h.lt
 have c21:=h.g21
 have c22:=h.g22
 have c23:=h.g23
 have c24:=h.g24
 have c25:=h.g25
 have c26:=h.g26
 have c27:=h.g27
 have c28:=h.g28
 have c29:=h.g29
 have c30:=h.g30
 have c31:=h.g31
 have c32:=h.g32
 have c33:=h.g33
 have c34:=h.g34
 have c35:=h.g35
 have c36:=h.g36
 have c37:=h.g37
 have c38:=h.g38
 have c39:=h.g39
 have c40:=h.g40
 have c41:=h.g41
 have c42:=h.g42
 have c43:=h.g43
 have c44:=h.g44
 have hfz:=h.fr
 have hcall:=uY L.p 15 (.map (some L.mp)) w1 (hb1.cell 15) (hb1.free 15)
 have Hcall:=Lib.hid hcall
 clear hcall
 go_enter Tryz.func79,Tryz.ntmps79
 go_wp2_with fail
 rw[Hw1.out]
 refine Hcall.out.mono ?_
 rintro e w3 ⟨rfl,rfl⟩
 have hfr:Fr (aI L.p) w ((w1.alloc (.map #[] 0)).setCell ⟨L.p,15,none⟩ (.map (some w1.heap.size))):=(hf1.alloc _).setCell (p:=⟨L.p,15,none⟩) (fun _=>rfl) _
 have hpl:L.p<w1.heap.size:=hb1.lt
 have hmp:=Ec (w:=w1) (cb:=L.p) (co:=15) hpl
 have hbk:Bk ((w1.alloc (.map #[] 0)).setCell ⟨L.p,15,none⟩ (.map (some w1.heap.size))) L.p 106 (dM s.drop ⟨L.p,L.rx,L.rxs,L.tx,L.txs,w1.heap.size,none,0⟩):=(hb1.alloc _).set 15 _
 generalize hw3:(w1.alloc (.map #[] 0)).setCell ⟨L.p,15,none⟩ (.map (some w1.heap.size))=w3 at*
 have hs1:=hf1.size
 have hn:=h.ne
 have hgl:=zG h.gb
 have q0:=hlt _ (.inl (show L.p∈L.blocks by simp[Lay.blocks]))
 have q1:=hlt _ (.inl (show L.rx∈L.blocks by simp[Lay.blocks]))
 have q2:=hlt _ (.inl (show L.rxs∈L.blocks by simp[Lay.blocks]))
 have q3:=hlt _ (.inl (show L.tx∈L.blocks by simp[Lay.blocks]))
 have q4:=hlt _ (.inl (show L.txs∈L.blocks by simp[Lay.blocks]))
 simp only[Lay.blocks,List.nodup_cons,List.mem_cons,List.not_mem_nil,or_false,not_or]at hn
 obtain⟨⟨n1,n2,n3,n4,n5⟩,⟨m2,m3,m4,m5⟩,⟨k3,k4,k5⟩,⟨j4,j5⟩,i5,_⟩:=hn
 have hown:∀b,bM ⟨L.p,L.rx,L.rxs,L.tx,L.txs,w1.heap.size,none,0⟩ b→(bM L b∨b=w1.heap.size):=by
  rintro b (hb|⟨a,ha,_⟩)
  ·simp only[Lay.blocks,List.mem_cons,List.not_mem_nil,or_false]at hb
   rcases hb with rfl|rfl|rfl|rfl|rfl|rfl
   ·exact .inl (.inl (by simp[Lay.blocks]))
   ·exact .inl (.inl (by simp[Lay.blocks]))
   ·exact .inl (.inl (by simp[Lay.blocks]))
   ·exact .inl (.inl (by simp[Lay.blocks]))
   ·exact .inl (.inl (by simp[Lay.blocks]))
   ·exact .inr rfl
  ·cases ha
 go_wp2_with fail
 refine bodyPost_end (results_none rfl _ _ _) rfl ⟨rfl,⟨L.p,L.rx,L.rxs,L.tx,L.txs,w1.heap.size,none,0⟩,rfl,fun b hb=> ?_,?_,hfr.mono fun b _ hb=>by obtain rfl:b=L.p:=hb;exact nH L⟩
 ·rcases hown b hb with hb|rfl
  ·exact .inl hb
  ·exact .inr hs1
 ·refine⟨hbk,h.rx.keep hfr (fun x=>n1 x.symm) (fun x=>n2 x.symm),h.tx.keep hfr (fun x=>n3 x.symm) (fun x=>n4 x.symm),hmp,⟨by simp[u8s,St.drop],.inl ⟨rfl,rfl⟩⟩,?_,(fun a ha=>by cases ha),AX h.ok,h.gb.keep hfr (fun b hb x=>h.gd _ (nH L) (x▸hb)),fun b hb=> ?_⟩
  ·simp only[Lay.blocks,List.nodup_cons,List.mem_cons,List.not_mem_nil,or_false,not_or]
   exact⟨⟨n1,n2,n3,n4,by omega⟩,⟨m2,m3,m4,by omega⟩,⟨k3,k4,by omega⟩,⟨j4,by omega⟩,by omega,by simp⟩
  ·rcases hown b hb with hb|rfl
   ·exact h.gd b hb
   ·intro hx;have:=hgl _ hx;omega
end Go.Proofs.YtcbkaiakdhiloacGreatDoor
namespace Go.Proofs.YtcbkaiakdhiloacGreatDoor
open Go.RowKit Go.Proofs
attribute [local go_sem] aG aD aC aE
theorem bX (L:Lay) (s:St) (w:World) (h:aA w L s):
 Calls Tryz.prog 45 #[.pointer (some ⟨L.p,0,none⟩)] w (bC L s.fail (.tuple #[]) w):=by
 have hcall:=rE L s w h
 have Hcall:=Lib.hid hcall
 clear hcall
 go_enter Tryz.func45,Tryz.ntmps45
 go_wp2_with fail
 refine Hcall.out.mono ?_
 rintro e w1 ⟨rfl,⟨p',rx',rxs',tx',txs',mp',im',ic'⟩,hp,ho,hB,hF⟩
 have hp':p'=L.p:=hp
 subst hp'
 have c18:=hB.g18
 have c33:=hB.g33
 have hfz:=hB.fr
 dsimp only at c18 c33 hfz
 have hs:s.drop.boots=s.boots:=rfl
 have hph:s.drop.phase=0:=rfl
 rw[hs]at c18
 rw[hph]at c33
 have hown:∀b,b<w.heap.size→bM ⟨L.p,rx',rxs',tx',txs',mp',im',ic'⟩ b→bM L b:=fun b hb hx=>by
  rcases ho b hx with h|h
  ·exact h
  ·omega
 have hw:=mM (s.boots+1)
 by_cases h3:wrap64 (s.boots+1)=3
 ·have hu:s.fail={s.drop with boots:=wrap64 (s.boots+1),phase:=4}:=by unfold St.fail;rw[if_pos h3]
  rw[h3]at hw hu
  have Hu:=Lib.hid hu
  clear hu h3 hs hph
  go_wp2_with fail
  refine bodyPost_end (results_none rfl _ _ _) rfl ⟨rfl,⟨L.p,rx',rxs',tx',txs',mp',im',ic'⟩,rfl,ho,?_,?_⟩
  ·rw[Hu.out]
   have hf:=((Fr.refl (aI L.p) w1).setCell (p:=⟨L.p,18,none⟩) (fun _=>rfl) (.int .i64 3)).setCell (p:=⟨L.p,33,none⟩) (fun _=>rfl) (.int .i64 4)
   exact hB.turn _ hf ((hB.bk.set 18 _).set 33 _) rfl rfl rfl rfl rfl {AX h.ok with}
  ·exact hF.trans' (((Fr.refl (bM ⟨L.p,rx',rxs',tx',txs',mp',im',ic'⟩) w1).setCell (p:=⟨L.p,18,none⟩) (fun _=>nH ⟨L.p,rx',rxs',tx',txs',mp',im',ic'⟩) _).setCell (p:=⟨L.p,33,none⟩) (fun _=>nH ⟨L.p,rx',rxs',tx',txs',mp',im',ic'⟩) _) hown
 ·have hu:s.fail={s.drop with boots:=wrap64 (s.boots+1)}:=by unfold St.fail;rw[if_neg h3]
  have h3b:(wrap64 (s.boots+1)==3)=false:=by rw[beq_eq_false_iff_ne];exact h3
  have Hu:=Lib.hid hu
  clear hu h3 hs hph
  go_wp2_with fail
  refine bodyPost_end (results_none rfl _ _ _) rfl ⟨rfl,⟨L.p,rx',rxs',tx',txs',mp',im',ic'⟩,rfl,ho,?_,?_⟩
  ·rw[Hu.out]
   have hf:=(Fr.refl (aI L.p) w1).setCell (p:=⟨L.p,18,none⟩) (fun _=>rfl) (.int .i64 (wrap64 (s.boots+1)))
   exact hB.turn _ hf (hB.bk.set 18 _) rfl rfl rfl rfl rfl {AX h.ok with}
  ·exact hF.trans' ((Fr.refl (bM ⟨L.p,rx',rxs',tx',txs',mp',im',ic'⟩) w1).setCell (p:=⟨L.p,18,none⟩) (fun _=>nH ⟨L.p,rx',rxs',tx',txs',mp',im',ic'⟩) _) hown
end Go.Proofs.YtcbkaiakdhiloacGreatDoor
