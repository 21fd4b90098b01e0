/- Part of a proof that a law of the program holds for every input: printed by a program of this work: how the functions are walked. No conditions. -/
import Derived.Test.YtgpdnmfpgkkgcaaGreatDoorP15
namespace Go.Proofs.YtgpdnmfpgkkgcaaGreatDoor
open Go
set_option linter.unusedSimpArgs false
set_option linter.unusedVariables false
set_option maxRecDepth 8000
set_option maxHeartbeats 4000000
abbrev tI:Ty:=.int .i64
abbrev tC:Ty:=.pair (.int .i64) (.pair (.int .i64) (.pair (.sl (.int .i64)) (.int .i64)))
abbrev tS:Ty:=.pair (.int .i64) (.sl (.sl tC))
abbrev tL:Ty:=.pair (.sl (.int .i64)) (.int .i64)
noncomputable def vF:List (Nat×FX):=[]
theorem ZFM:∀g fx,(λn=>C0 n vF) g=some fx→fx.Ok prog g:=ZAo
noncomputable def vG:List (Nat×FX):=(77,.fi (C5 Tryz.f77))::vF
theorem ZFN:∀g fx,(λn=>C0 n vG) g=some fx→fx.Ok prog g:=Fw (AL Tryz.func77 (by kernel_rfl) (by kernel_rfl)) ZFM
noncomputable def vM:List (Nat×FX):=(110,.fi (C5 Tryz.f110))::vG
theorem ZFT:∀g fx,(λn=>C0 n vM) g=some fx→fx.Ok prog g:=Fw (AL Tryz.func110 (by kernel_rfl) (by kernel_rfl)) ZFN
noncomputable def vN:List (Nat×FX):=(113,.fi (C5 Tryz.f113))::vM
theorem ZFU:∀g fx,(λn=>C0 n vN) g=some fx→fx.Ok prog g:=Fw (AL Tryz.func113 (by kernel_rfl) (by kernel_rfl)) ZFT
noncomputable def vO:List (Nat×FX):=(42,.fi (C5 Tryz.f42))::vN
theorem ZFV:∀g fx,(λn=>C0 n vO) g=some fx→fx.Ok prog g:=Fw (AL Tryz.func42 (by kernel_rfl) (by kernel_rfl)) ZFU
noncomputable def vP:List (Nat×FX):=(66,.fi (C5 Tryz.f66))::vO
theorem ZFW:∀g fx,(λn=>C0 n vP) g=some fx→fx.Ok prog g:=Fw (AL Tryz.func66 (by kernel_rfl) (by kernel_rfl)) ZFV
noncomputable def vQ:List (Nat×FX):=(67,.fi (C5 Tryz.f67))::vP
theorem ZFX:∀g fx,(λn=>C0 n vQ) g=some fx→fx.Ok prog g:=Fw (AL Tryz.func67 (by kernel_rfl) (by kernel_rfl)) ZFW
noncomputable def vR:List (Nat×FX):=(69,.fi (C5 Tryz.f69))::vQ
theorem ZFY:∀g fx,(λn=>C0 n vR) g=some fx→fx.Ok prog g:=Fw (AL Tryz.func69 (by kernel_rfl) (by kernel_rfl)) ZFX
noncomputable def vS:List (Nat×FX):=(101,.fi (C5 Tryz.f101))::vR
theorem ZFZ:∀g fx,(λn=>C0 n vS) g=some fx→fx.Ok prog g:=Fw (AL Tryz.func101 (by kernel_rfl) (by kernel_rfl)) ZFY
noncomputable def vT:List (Nat×FX):=(103,.fi (C5 Tryz.f103))::vS
theorem ZFa:∀g fx,(λn=>C0 n vT) g=some fx→fx.Ok prog g:=Fw (AL Tryz.func103 (by kernel_rfl) (by kernel_rfl)) ZFZ
noncomputable def vH:List (Nat×FX):=(73,.fi (C5 Tryz.f73))::vT
theorem ZFO:∀g fx,(λn=>C0 n vH) g=some fx→fx.Ok prog g:=Fw (AL Tryz.func73 (by kernel_rfl) (by kernel_rfl)) ZFa
noncomputable def vI:List (Nat×FX):=(72,.fi (C5 Tryz.f72))::vH
theorem ZFP:∀g fx,(λn=>C0 n vI) g=some fx→fx.Ok prog g:=Fw (AL Tryz.func72 (by kernel_rfl) (by kernel_rfl)) ZFO
noncomputable def vJ:List (Nat×FX):=(74,.fi (C5 Tryz.f74))::vI
theorem ZFQ:∀g fx,(λn=>C0 n vJ) g=some fx→fx.Ok prog g:=Fw (AL Tryz.func74 (by kernel_rfl) (by kernel_rfl)) ZFP
noncomputable def vK:List (Nat×FX):=(47,.fi (C5 Tryz.f47))::vJ
theorem ZFR:∀g fx,(λn=>C0 n vK) g=some fx→fx.Ok prog g:=Fw (AL Tryz.func47 (by kernel_rfl) (by kernel_rfl)) ZFQ
noncomputable def vL:List (Nat×FX):=(143,.fi (C5 Tryz.f143))::vK
theorem ZFS:∀g fx,(λn=>C0 n vL) g=some fx→fx.Ok prog g:=Fw (AL Tryz.func143 (by kernel_rfl) (by kernel_rfl)) ZFR
noncomputable def P5:List (Nat×FX):=(95,.fi (C5 Tryz.f95))::vL
theorem Sf:∀g fx,(λn=>C0 n P5) g=some fx→fx.Ok prog g:=Fw (AL Tryz.func95 (by kernel_rfl) (by kernel_rfl)) ZFS
noncomputable def φA:Nat→Option FX:=λn=>C0 n P5
theorem De:∀g fx,φA g=some fx→fx.Ok prog g:=Sf
noncomputable def φC:Nat→Option FX:=λn=>C0 n ((115,.sp .appInt)::P5)
theorem vE:∀g fx,φC g=some fx→fx.Ok prog g:=Fw wO Sf
noncomputable def cO:List (Nat×CX):=(68,.clo 69)::κR
theorem fL:BK prog λn=>B5 n cO:=TE (c:=.clo 69) (xX (AL Tryz.func68 (by kernel_rfl) (by kernel_rfl)) rfl) yT
noncomputable def κ0:A2:=λn=>B5 n cO
theorem QK:BK prog κ0:=fL
theorem ZDT:Cy prog (walk τw κ0 φA):=Cw tM QK De mixed
theorem CC:Cy prog (walk τ0 κ0 φA):=Cw AJ QK De mixed
theorem ZDS:Cy prog (walk τ0 κ0 φC):=Cw AJ QK vE mixed
noncomputable def CH.con:AP:=⟨[.d tI,.d tI,.d (.sl tS)],none,λx=>AO [.bool] (CH.fn x)⟩
theorem CH.ok:AQ prog 12 CH.con:=AT (A:=.mk [] [(2,⟨[.t 26 tI],[],[34,33,32,31,30,11,29,28,27],[]⟩),(0,⟨[.t 14 tI,.t 7 tI],[],[35,27,34,33,32,31,30,11,29,28,26,25,24,23,22,21,20,19,18,9,17,16,15],[]⟩)] [] [] []) (Wp:=λxs Q=>CH.wp xs.1 xs.2.1 xs.2.2.1 Q) tM ZDT (AL Tryz.func12 (by kernel_rfl) (by kernel_rfl)) λxs Q=>by kernel_rfl λ⟨x0,x1,x2,_⟩hl hp=>by first|exact CH.spec x0 x1 x2|exact CH.spec x0 x1 x2 hp|exact CH.spec x0 x1 x2 hl.1|exact CH.spec x0 x1 x2 hl.1 hp|exact CH.spec x0 x1 x2 hl.1.1|exact CH.spec x0 x1 x2 hl.1.1 hp|exact CH.spec x0 x1 x2 hl.1.1.1|exact CH.spec x0 x1 x2 hl.1.1.1 hp|exact CH.spec x0 x1 x2 hl.1.2.1|exact CH.spec x0 x1 x2 hl.1.2.1 hp|exact CH.spec x0 x1 x2 hl.2.1|exact CH.spec x0 x1 x2 hl.2.1 hp|exact CH.spec x0 x1 x2 hl.2.1.1|exact CH.spec x0 x1 x2 hl.2.1.1 hp|exact CH.spec x0 x1 x2 hl.2.1.1.1|exact CH.spec x0 x1 x2 hl.2.1.1.1 hp|exact CH.spec x0 x1 x2 hl.2.2.1.1 λs hs=>(hl.2.2.1.2 s hs).2.1|exact CH.spec x0 x1 x2 hl.2.2.2.1.1 λs hs=>⟨(hl.2.2.2.1.2 s hs).2.1,λp hp=>⟨((hl.2.2.2.1.2 s hs).2.2 p hp).1,λc hc=>(((hl.2.2.2.1.2 s hs).2.2 p hp).2 c hc).2.2.1.1⟩⟩
noncomputable def G1.con:AP:=⟨[.d tI],none,λx=>AO [.bool] (G1.fn x)⟩
theorem G1.ok:AQ prog 138 G1.con:=AT (A:=.mk [] [] [] [] []) (Wp:=λxs Q=>G1.wp xs.1 Q) AJ CC (AL Tryz.func138 (by kernel_rfl) (by kernel_rfl)) λxs Q=>by kernel_rfl λ⟨x0,_⟩hl hp=>G1.spec x0
noncomputable def OL.con:AP:=⟨[.d (.sl (.sl tC))],none,λx=>.fn (.func 77) [] [.er [.d (.sl (.sl tC)) x.1]]⟩
theorem OL.val(xs:Cz [.d (.sl (.sl tC))])(Q:V→Prop):Q (OL.con.res xs)=QZ τ0 (walk τ0 κ0 φA) An.none (C5 Tryz.f43) [.d (.sl (.sl tC))] xs Q:=by kernel_rfl
theorem OL.ok:AQ prog 43 OL.con:=fF AJ (Cw AJ QK De mixed) (AL Tryz.func43 (by kernel_rfl) (by kernel_rfl)) λxs _ _=>Eq.mp (OL.val xs _) rfl
noncomputable def Gd.con:AP:=⟨[.d (.sl tC),.f [tC] [.bool]],some λx=>Gd.pre x,λx=>AO [tI] (Gd.fn x)⟩
theorem Gd.ok:AQ prog 122 Gd.con:=AT (A:=.mk [] [(0,⟨[.t 8 tI],[],[18,16,15,14,13,12,11,5,10,9],[]⟩)] [] [] []) (Wp:=λxs Q=>Gd.wp xs.1 xs.2.1 Q) AJ CC (AL Tryz.func122 (by kernel_rfl) (by kernel_rfl)) λxs Q=>by kernel_rfl λ⟨x0,x1,_⟩hl hp=>Gd.spec x0 x1 hl.1.1 hp
noncomputable def FF.con:AP:=⟨[.d (.sl tI),.d (.int .u64),.f [.int .u64,tI] [.int .u64]],some λx=>FF.pre x,λx=>AO [.int .u64] (FF.fn x)⟩
theorem FF.ok:AQ prog 146 FF.con:=AT (A:=.mk [] [(0,⟨[.t 11 tI,.t 1 (.int .u64)],[],[19,18,17,16,15,8,14,13,12],[]⟩)] [] [] []) (Wp:=λxs Q=>FF.wp xs.1 xs.2.1 xs.2.2.1 Q) AJ CC (AL Tryz.func146 (by kernel_rfl) (by kernel_rfl)) λxs Q=>by kernel_rfl λ⟨x0,x1,x2,_⟩hl hp=>FF.spec x0 x1 x2 hl.1.1 hp
noncomputable def ED.con:AP:=⟨[.d (.int .u64),.d (.int .u64)],none,λx=>AO [.int .u64] (ED.fn x)⟩
theorem ED.ok:AQ prog 148 ED.con:=AT (A:=.mk [] [(0,⟨[.t 1 (.int .u64),.t 0 (.int .u64)],[],[10,9,8,7,6,5],[]⟩)] [] [] []) (Wp:=λxs Q=>ED.wp xs.1 xs.2.1 Q) AJ CC (AL Tryz.func148 (by kernel_rfl) (by kernel_rfl)) λxs Q=>by kernel_rfl λ⟨x0,x1,_⟩hl hp=>ED.spec x0 x1
noncomputable def FG.con:AP:=⟨[.d tI],none,λx=>AO [.int .u64] (FG.fn x)⟩
theorem FG.ok:AQ prog 184 FG.con:=AT (A:=.mk [] [] [] [] []) (Wp:=λxs Q=>FG.wp xs.1 Q) AJ CC (AL Tryz.func184 (by kernel_rfl) (by kernel_rfl)) λxs Q=>by kernel_rfl λ⟨x0,_⟩hl hp=>FG.spec x0
noncomputable def E9.con:AP:=⟨[.d .bool],none,λx=>AO [tC,tI] (E9.fn x)⟩
theorem E9.ok:AQ prog 170 E9.con:=AT (A:=.mk [] [] [] [] []) (Wp:=λxs Q=>E9.wp xs.1 Q) AJ CC (AL Tryz.func170 (by kernel_rfl) (by kernel_rfl)) λxs Q=>by kernel_rfl λ⟨x0,_⟩hl hp=>E9.spec x0
noncomputable def D9.con:AP:=⟨[.d tI,.d tI],some λx=>D9.pre x,λx=>AO [tI,tI] (D9.fn x)⟩
theorem D9.ok:AQ prog 171 D9.con:=AT (A:=.mk [] [] [] [] []) (Wp:=λxs Q=>D9.wp xs.1 xs.2.1 Q) AJ CC (AL Tryz.func171 (by kernel_rfl) (by kernel_rfl)) λxs Q=>by kernel_rfl λ⟨x0,x1,_⟩hl hp=>D9.spec x0 x1 hp
noncomputable def DS.con:AP:=⟨[.d tC,.d tI],some λx=>DS.pre x,λx=>AO [.sl tI] (DS.fn x)⟩
theorem DS.ok:AQ prog 172 DS.con:=AT (A:=.mk [] [(0,⟨[.t 19 tI,.row 1 tI],[],[30,29,28,27,26,25,24,7,6,23,22,21,20],[]⟩)] [] [] []) (Wp:=λxs Q=>DS.wp xs.1 xs.2.1 Q) AJ CC (AL Tryz.func172 (by kernel_rfl) (by kernel_rfl)) λxs Q=>by kernel_rfl λ⟨x0,x1,_⟩hl hp=>DS.spec x0 x1 hp
noncomputable def Db.con:AP:=⟨[.d tI,.d tI],some λx=>Db.pre x,λx=>AO [tI,tI] (Db.fn x)⟩
theorem Db.ok:AQ prog 173 Db.con:=AT (A:=.mk [] [] [] [] []) (Wp:=λxs Q=>Db.wp xs.1 xs.2.1 Q) AJ CC (AL Tryz.func173 (by kernel_rfl) (by kernel_rfl)) λxs Q=>by kernel_rfl λ⟨x0,x1,_⟩hl hp=>Db.spec x0 x1 hp
noncomputable def Cb.con:AP:=⟨[.d (.sl tI),.d tI],some λx=>Cb.pre x,λx=>AO [.str] (Cb.fn x)⟩
theorem Cb.ok:AQ prog 116 Cb.con:=AT (A:=.mk [(1000,[.own 5 (.int .u8)])] [(0,⟨[.t 10 tI,.row 0 (.int .u8)],[5],[22,21,19,18,20,14,17,16,15,7,13,12,11],[]⟩)] [] [] []) (Wp:=λxs Q=>Cb.wp xs.1 xs.2.1 Q) AJ ZDS (AL Tryz.func116 (by kernel_rfl) (by kernel_rfl)) λxs Q=>by kernel_rfl λ⟨x0,x1,_⟩hl hp=>Cb.spec x0 x1 hp
noncomputable def IB.con:AP:=⟨[.d (.sl tI)],none,λx=>AO [tI] (IB.fn x)⟩
theorem IB.ok:AQ prog 134 IB.con:=AT (A:=.mk [] [(0,⟨[.t 8 tI],[],[16,14,13,12,5,11,10,9],[]⟩)] [] [] []) (Wp:=λxs Q=>IB.wp xs.1 Q) AJ CC (AL Tryz.func134 (by kernel_rfl) (by kernel_rfl)) λxs Q=>by kernel_rfl λ⟨x0,_⟩hl hp=>IB.spec x0 hl.1.1
noncomputable def Gg.con:AP:=⟨[.d tI],none,λx=>AO [.bool] (Gg.fn x)⟩
theorem Gg.ok:AQ prog 162 Gg.con:=AT (A:=.mk [] [] [] [] []) (Wp:=λxs Q=>Gg.wp xs.1 Q) AJ CC (AL Tryz.func162 (by kernel_rfl) (by kernel_rfl)) λxs Q=>by kernel_rfl λ⟨x0,_⟩hl hp=>Gg.spec x0
noncomputable def Bm.con:AP:=⟨[.d tI,.d tL,.d tI,.d tL],some λx=>Bm.pre x,λx=>AO [tL] (Bm.fn x)⟩
theorem Bm.ok:AQ prog 102 Bm.con:=AT (A:=.mk [] [(0,⟨[.t 28 tI,.row 6 tI],[],[50,49,48,47,46,45,44,43,42,41,40,39,38,37,36,35,34,33,32,31,10,30,29],[]⟩)] [] [] []) (Wp:=λxs Q=>Bm.wp xs.1 xs.2.1 xs.2.2.1 xs.2.2.2.1 Q) AJ CC (AL Tryz.func102 (by kernel_rfl) (by kernel_rfl)) λxs Q=>by kernel_rfl λ⟨x0,x1,x2,x3,_⟩hl hp=>Bm.spec x0 x1 x2 x3 hp
noncomputable def DV.con:AP:=⟨[.d tL,.d tI],some λx=>DV.pre x,λx=>AO [tL] (DV.fn x)⟩
theorem DV.ok:AQ prog 105 DV.con:=AT (A:=.mk [] [] [] [] []) (Wp:=λxs Q=>DV.wp xs.1 xs.2.1 Q) AJ CC (AL Tryz.func105 (by kernel_rfl) (by kernel_rfl)) λxs Q=>by kernel_rfl λ⟨x0,x1,_⟩hl hp=>DV.spec x0 x1 hp
noncomputable def Eg.con:AP:=⟨[.d (.sl tC),.d tI],some λx=>Eg.pre x,λx=>AO [tI] (Eg.fn x)⟩
theorem Eg.ok:AQ prog 58 Eg.con:=AT (A:=.mk [] [(2,⟨[.t 29 tI,.t 5 tI,.t 6 tI,.row 1 tI,.row 3 tI],[],[77,34,36,35,12,11,33,32,31,30,52,51,50,49,48,47,46,45,44,43,42,41,37,40,39,38,66,65,64,63,62,61,53,60,59,58,57,56,55,54,76,75,74,73,72,71,67,70,69,68],[]⟩),(0,⟨[.t 21 tI,.t 5 tI,.t 6 tI,.row 1 tI,.row 3 tI],[],[78,30,77,34,36,35,12,11,33,32,31,52,51,50,49,48,47,46,45,44,43,42,41,37,40,39,38,66,65,64,63,62,61,53,60,59,58,57,56,55,54,76,75,74,73,72,71,67,70,69,68,29,28,27,26,25,10,24,23,22],[]⟩),(5,⟨[.t 86 tI,.t 13 tI],[],[109,108,107,106,105,104,103,102,101,100,99,98,97,96,95,94,93,92,91,90,89,14,88,87],[]⟩)] [] [] []) (Wp:=λxs Q=>Eg.wp xs.1 xs.2.1 Q) AJ CC (AL Tryz.func58 (by kernel_rfl) (by kernel_rfl)) λxs Q=>by kernel_rfl λ⟨x0,x1,_⟩hl hp=>Eg.spec x0 x1 hp
noncomputable def HY.con:AP:=⟨[.d tL,.d tL],none,λx=>AO [.bool] (HY.fn x)⟩
theorem HY.ok:AQ prog 127 HY.con:=AT (A:=.mk [] [(0,⟨[.t 23 tI],[],[37,36,35,34,33,32,31,30,29,28,27,26,5,25,24],[]⟩)] [] [] []) (Wp:=λxs Q=>HY.wp xs.1 xs.2.1 Q) AJ CC (AL Tryz.func127 (by kernel_rfl) (by kernel_rfl)) λxs Q=>by kernel_rfl λ⟨x0,x1,_⟩hl hp=>HY.spec x0 x1 hl.1.1.1
noncomputable def GL.con:AP:=⟨[.d tI,.d (.sl tI)],none,λx=>AO [tC] (GL.fn x)⟩
theorem GL.ok:AQ prog 37 GL.con:=AT (A:=.mk [] [] [] [] []) (Wp:=λxs Q=>GL.wp xs.1 xs.2.1 Q) AJ CC (AL Tryz.func37 (by kernel_rfl) (by kernel_rfl)) λxs Q=>by kernel_rfl λ⟨x0,x1,_⟩hl hp=>GL.spec x0 x1
noncomputable def HT.con:AP:=⟨[.d tI,.d tI],none,λx=>AO [.sl tC] (HT.fn x)⟩
theorem HT.ok:AQ prog 38 HT.con:=AT (A:=.mk [] [] [] [] []) (Wp:=λxs Q=>HT.wp xs.1 xs.2.1 Q) AJ CC (AL Tryz.func38 (by kernel_rfl) (by kernel_rfl)) λxs Q=>by kernel_rfl λ⟨x0,x1,_⟩hl hp=>HT.spec x0 x1
noncomputable def G2.con:AP:=⟨[.d tI],none,λx=>AO [.bool] (G2.fn x)⟩
theorem G2.ok:AQ prog 121 G2.con:=AT (A:=.mk [] [] [] [] []) (Wp:=λxs Q=>G2.wp xs.1 Q) AJ CC (AL Tryz.func121 (by kernel_rfl) (by kernel_rfl)) λxs Q=>by kernel_rfl λ⟨x0,_⟩hl hp=>G2.spec x0
noncomputable def Dl.con:AP:=⟨[.d tI,.d tI],some λx=>Dl.pre x,λx=>AO [tI,tI] (Dl.fn x)⟩
theorem Dl.ok:AQ prog 51 Dl.con:=AT (A:=.mk [] [] [] [] []) (Wp:=λxs Q=>Dl.wp xs.1 xs.2.1 Q) AJ CC (AL Tryz.func51 (by kernel_rfl) (by kernel_rfl)) λxs Q=>by kernel_rfl λ⟨x0,x1,_⟩hl hp=>Dl.spec x0 x1 hp
noncomputable def C9.con:AP:=⟨[.d tI,.d tI],some λx=>C9.pre x,λx=>AO [tI,tI] (C9.fn x)⟩
theorem C9.ok:AQ prog 53 C9.con:=AT (A:=.mk [] [] [] [] []) (Wp:=λxs Q=>C9.wp xs.1 xs.2.1 Q) AJ CC (AL Tryz.func53 (by kernel_rfl) (by kernel_rfl)) λxs Q=>by kernel_rfl λ⟨x0,x1,_⟩hl hp=>C9.spec x0 x1 hp
noncomputable def H1.con:AP:=⟨[.d tI],none,λx=>AO [.int .u64] (H1.fn x)⟩
theorem H1.ok:AQ prog 164 H1.con:=AT (A:=.mk [] [] [] [] []) (Wp:=λxs Q=>H1.wp xs.1 Q) AJ CC (AL Tryz.func164 (by kernel_rfl) (by kernel_rfl)) λxs Q=>by kernel_rfl λ⟨x0,_⟩hl hp=>H1.spec x0
noncomputable def G4.con:AP:=⟨[.d .bool],none,λx=>AO [tC,tI] (G4.fn x)⟩
theorem G4.ok:AQ prog 140 G4.con:=AT (A:=.mk [] [] [] [] []) (Wp:=λxs Q=>G4.wp xs.1 Q) AJ CC (AL Tryz.func140 (by kernel_rfl) (by kernel_rfl)) λxs Q=>by kernel_rfl λ⟨x0,_⟩hl hp=>G4.spec x0
noncomputable def Dz.con:AP:=⟨[.d tL,.d tI,.d tI],some λx=>Dz.pre x,λx=>AO [tL] (Dz.fn x)⟩
theorem Dz.ok:AQ prog 141 Dz.con:=AT (A:=.mk [] [(0,⟨[.t 19 tI,.row 2 tI],[],[31,30,29,28,27,26,25,24,9,8,23,22,21,20],[]⟩)] [] [] []) (Wp:=λxs Q=>Dz.wp xs.1 xs.2.1 xs.2.2.1 Q) AJ CC (AL Tryz.func141 (by kernel_rfl) (by kernel_rfl)) λxs Q=>by kernel_rfl λ⟨x0,x1,x2,_⟩hl hp=>Dz.spec x0 x1 x2 hp
noncomputable def Dn.con:AP:=⟨[.d tC,.d tC],some λx=>Dn.pre x,λx=>AO [tI] (Dn.fn x)⟩
theorem Dn.ok:AQ prog 125 Dn.con:=AT (A:=.mk [] [(0,⟨[.t 12 tI,.t 6 .bool,.t 5 .bool],[],[48,47,46,45,44,43,42,41,40,39,38,37,36,35,34,33,32,31,30,29,28,27,26,25,24,23,22,21,20,19,18,17,16,15,7,14,13],[]⟩)] [] [] []) (Wp:=λxs Q=>Dn.wp xs.1 xs.2.1 Q) AJ CC (AL Tryz.func125 (by kernel_rfl) (by kernel_rfl)) λxs Q=>by kernel_rfl λ⟨x0,x1,_⟩hl hp=>Dn.spec x0 x1 hp
noncomputable def Er.con:AP:=⟨[.d (.sl tI),.d (.sl tI)],some λx=>Er.pre x,λx=>AO [tI] (Er.fn x)⟩
theorem Er.ok:AQ prog 165 Er.con:=AT (A:=.mk [] [(0,⟨[.t 8 tI],[],[31,21,30,29,28,27,26,25,24,23,22,11,20,19,18,17,16,15,14,13,12,5,10,9],[]⟩)] [] [] []) (Wp:=λxs Q=>Er.wp xs.1 xs.2.1 Q) AJ CC (AL Tryz.func165 (by kernel_rfl) (by kernel_rfl)) λxs Q=>by kernel_rfl λ⟨x0,x1,_⟩hl hp=>Er.spec x0 x1 hl.1.1 hp
noncomputable def G3.con:AP:=⟨[.d tI],none,λx=>AO [tI] (G3.fn x)⟩
theorem G3.ok:AQ prog 166 G3.con:=AT (A:=.mk [] [] [] [] []) (Wp:=λxs Q=>G3.wp xs.1 Q) AJ CC (AL Tryz.func166 (by kernel_rfl) (by kernel_rfl)) λxs Q=>by kernel_rfl λ⟨x0,_⟩hl hp=>G3.spec x0
noncomputable def CD.con:AP:=⟨[.d tL,.d tI],some λx=>CD.pre x,λx=>AO [tL] (CD.fn x)⟩
theorem CD.ok:AQ prog 78 CD.con:=AT (A:=.mk [(1000,[.ownc 2 0 tI])] [(0,⟨[.t 14 tI,.cell 2 1 tI,.row 3 tI],[],[28,27,26,23,25,24,22,21,20,19,7,6,18,17,16,15],[]⟩)] [] [] []) (Wp:=λxs Q=>CD.wp xs.1 xs.2.1 Q) AJ CC (AL Tryz.func78 (by kernel_rfl) (by kernel_rfl)) λxs Q=>by kernel_rfl λ⟨x0,x1,_⟩hl hp=>CD.spec x0 x1 hp
noncomputable def BV.con:AP:=⟨[.d tI],some λx=>BV.pre x,λx=>AO [tI] (BV.fn x)⟩
theorem BV.ok:AQ prog 79 BV.con:=AT (A:=.mk [] [] [] [] []) (Wp:=λxs Q=>BV.wp xs.1 Q) AJ CC (AL Tryz.func79 (by kernel_rfl) (by kernel_rfl)) λxs Q=>by kernel_rfl λ⟨x0,_⟩hl hp=>BV.spec x0 hp
def BY.A:An:=.mk [] [(0,⟨[.t 28 tI,.row 6 tI],[],[50,49,48,47,46,45,44,43,42,41,40,39,38,37,36,35,34,33,32,31,10,30,29],[]⟩)] [] [] []
noncomputable def BY.con:AP:=⟨[.d tI,.d tL,.d tI,.d tL],some λx=>BY.pre x,λx=>AO [tL] (BY.fn x)⟩
theorem BY.ok:AQ prog 82 BY.con:=AT (A:=BY.A) (Wp:=λxs Q=>BY.wp xs.1 xs.2.1 xs.2.2.1 xs.2.2.2.1 Q) AJ CC (AL Tryz.func82 (by kernel_rfl) (by kernel_rfl)) λxs Q=>by kernel_rfl λ⟨x0,x1,x2,x3,_⟩hl hp=>BY.spec x0 x1 x2 x3 hp
noncomputable def Dc.con:AP:=⟨[.d (.sl tI)],some λx=>Dc.pre x,λx=>AO [tI,tI] (Dc.fn x)⟩
theorem Dc.ok:AQ prog 52 Dc.con:=AT (A:=.mk [] [(0,⟨[.t 12 tI],[],[18,17,16,5,15,14,13],[]⟩),(4,⟨[.t 25 tI,.t 7 .bool],[],[36,35,34,33,32,31,30,29,9,28,27,26],[]⟩),(2,⟨[.t 6 tI],[],[22,21,37,26,36,35,34,33,32,31,30,29,9,28,27,25,7,24,23,20,19],[]⟩)] [] [] []) (Wp:=λxs Q=>Dc.wp xs.1 Q) AJ CC (AL Tryz.func52 (by kernel_rfl) (by kernel_rfl)) λxs Q=>by kernel_rfl λ⟨x0,_⟩hl hp=>Dc.spec x0 hl.1.1 hp
noncomputable def Eb.con:AP:=⟨[.d tI,.d tI],some λx=>Eb.pre x,λx=>AO [tL] (Eb.fn x)⟩
theorem Eb.ok:AQ prog 118 Eb.con:=AT (A:=.mk [] [] [] [] []) (Wp:=λxs Q=>Eb.wp xs.1 xs.2.1 Q) AJ CC (AL Tryz.func118 (by kernel_rfl) (by kernel_rfl)) λxs Q=>by kernel_rfl λ⟨x0,x1,_⟩hl hp=>Eb.spec x0 x1 hp
noncomputable def Fp.con:AP:=⟨[.d (.sl tC)],some λx=>Fp.pre x,λx=>AO [.sl tC] (Fp.fn x)⟩
theorem Fp.ok:AQ prog 61 Fp.con:=AT (A:=.mk [] [(0,⟨[.t 11 tI,.row 0 tC],[],[32,30,29,25,31,28,27,26,24,23,22,21,20,19,18,17,16,4,5,15,14,13,12],[]⟩)] [] [] []) (Wp:=λxs Q=>Fp.wp xs.1 Q) AJ CC (AL Tryz.func61 (by kernel_rfl) (by kernel_rfl)) λxs Q=>by kernel_rfl λ⟨x0,_⟩hl hp=>Fp.spec x0 hp
noncomputable def Ex.con:AP:=⟨[.d (.sl (.sl tC))],some λx=>Ex.pre x,λx=>AO [.sl tC] (Ex.fn x)⟩
theorem Ex.ok:AQ prog 128 Ex.con:=AT (A:=.mk [(1002,[.own 6 tC,.zero 6])] [(0,⟨[.t 11 tI,.t 3 tI],[],[22,20,19,18,17,16,15,5,14,13,12],[]⟩),(2,⟨[.t 27 tI,.row 0 tC],[6],[34,33,31,32,8,30,29,28],[]⟩)] [] [] []) (Wp:=λxs Q=>Ex.wp xs.1 Q) AJ CC (AL Tryz.func128 (by kernel_rfl) (by kernel_rfl)) λxs Q=>by kernel_rfl λ⟨x0,_⟩hl hp=>Ex.spec x0 hp
noncomputable def Fs.con:AP:=⟨[.d tL,.d tI],some λx=>Fs.pre x,λx=>AO [tL] (Fs.fn x)⟩
theorem Fs.ok:AQ prog 168 Fs.con:=AT (A:=.mk [] [(0,⟨[.t 20 tI,.row 5 tI],[],[31,30,29,28,27,26,25,7,6,24,23,22,21],[]⟩)] [] [] []) (Wp:=λxs Q=>Fs.wp xs.1 xs.2.1 Q) AJ CC (AL Tryz.func168 (by kernel_rfl) (by kernel_rfl)) λxs Q=>by kernel_rfl λ⟨x0,x1,_⟩hl hp=>Fs.spec x0 x1 hp
noncomputable def EZ.con:AP:=⟨[.d (.sl tC),.d (.sl tC)],some λx=>EZ.pre x,λx=>AO [.sl tC] (EZ.fn x)⟩
theorem EZ.ok:AQ prog 98 EZ.con:=AT (A:=.mk [] [] [] [] []) (Wp:=λxs Q=>EZ.wp xs.1 xs.2.1 Q) AJ CC (AL Tryz.func98 (by kernel_rfl) (by kernel_rfl)) λxs Q=>by kernel_rfl λ⟨x0,x1,_⟩hl hp=>EZ.spec x0 x1 hp
noncomputable def IZ.con:AP:=⟨[.d tI],none,λx=>AO [.bool] (IZ.fn x)⟩
theorem IZ.ok:AQ prog 49 IZ.con:=AT (A:=.mk [] [] [] [] []) (Wp:=λxs Q=>IZ.wp xs.1 Q) AJ CC (AL Tryz.func49 (by kernel_rfl) (by kernel_rfl)) λxs Q=>by kernel_rfl λ⟨x0,_⟩hl hp=>IZ.spec x0
noncomputable def Fj.con:AP:=⟨[.d tL,.d (.sl tI)],some λx=>Fj.pre x,λx=>AO [tI] (Fj.fn x)⟩
theorem Fj.ok:AQ prog 120 Fj.con:=AT (A:=.mk [] [(0,⟨[.t 12 tI,.t 5 tI],[],[27,26,25,24,23,22,21,20,19,18,17,16,15,6,14,13],[]⟩)] [] [] []) (Wp:=λxs Q=>Fj.wp xs.1 xs.2.1 Q) AJ CC (AL Tryz.func120 (by kernel_rfl) (by kernel_rfl)) λxs Q=>by kernel_rfl λ⟨x0,x1,_⟩hl hp=>Fj.spec x0 x1 hp
noncomputable def EM.con:AP:=⟨[.d tI,.d tI],some λx=>EM.pre x,λx=>AO [tI,tI] (EM.fn x)⟩
theorem EM.ok:AQ prog 50 EM.con:=AT (A:=.mk [] [] [] [] []) (Wp:=λxs Q=>EM.wp xs.1 xs.2.1 Q) AJ CC (AL Tryz.func50 (by kernel_rfl) (by kernel_rfl)) λxs Q=>by kernel_rfl λ⟨x0,x1,_⟩hl hp=>EM.spec x0 x1 hp
noncomputable def Fa.con:AP:=⟨[.d (.sl tC),.d tI,.d (.sl tI)],some λx=>Fa.pre x,λx=>AO [.sl tC] (Fa.fn x)⟩
theorem Fa.ok:AQ prog 22 Fa.con:=AT (A:=.mk [(1000,[.own 7 tC])] [(2,⟨[.t 35 tI,.t 11 tI,.cell 13 0 (.sl tI),.cell 13 1 tI],[],[55,54,53,52,51,50,49,48,47,46,45,44,43,42,41,40,13,12,39,38,37,36],[]⟩),(0,⟨[.t 16 tI,.row 0 tC],[7],[65,64,56,63,62,61,60,59,58,57,36,55,54,53,52,51,50,49,48,47,46,45,44,43,42,41,40,13,12,39,38,37,35,11,34,33,32,31,10,30,29,28,27,26,25,24,23,22,21,20,9,19,18,17],[]⟩)] [] [] []) (Wp:=λxs Q=>Fa.wp xs.1 xs.2.1 xs.2.2.1 Q) AJ CC (AL Tryz.func22 (by kernel_rfl) (by kernel_rfl)) λxs Q=>by kernel_rfl λ⟨x0,x1,x2,_⟩hl hp=>Fa.spec x0 x1 x2 hp
noncomputable def cP:List (Nat×CX):=(12,.con CH.con)::(138,.con G1.con)::(43,.con OL.con)::(122,.con Gd.con)::(146,.con FF.con)::(148,.con ED.con)::(184,.con FG.con)::(170,.con E9.con)::(171,.con D9.con)::(172,.con DS.con)::(173,.con Db.con)::(116,.con Cb.con)::(134,.con IB.con)::(162,.con Gg.con)::(102,.con Bm.con)::(105,.con DV.con)::(58,.con Eg.con)::(127,.con HY.con)::(37,.con GL.con)::(38,.con HT.con)::(121,.con G2.con)::(51,.con Dl.con)::(53,.con C9.con)::(164,.con H1.con)::(140,.con G4.con)::(141,.con Dz.con)::(125,.con Dn.con)::(165,.con Er.con)::(166,.con G3.con)::(78,.con CD.con)::(79,.con BV.con)::(82,.con BY.con)::(52,.con Dc.con)::(118,.con Eb.con)::(61,.con Fp.con)::(128,.con Ex.con)::(168,.con Fs.con)::(98,.con EZ.con)::(49,.con IZ.con)::(120,.con Fj.con)::(50,.con EM.con)::(22,.con Fa.con)::cO
theorem fM:BK prog λn=>B5 n cP:=AS CH.ok (AS G1.ok (AS OL.ok (AS Gd.ok (AS FF.ok (AS ED.ok (AS FG.ok (AS E9.ok (AS D9.ok (AS DS.ok (AS Db.ok (AS Cb.ok (AS IB.ok (AS Gg.ok (AS Bm.ok (AS DV.ok (AS Eg.ok (AS HY.ok (AS GL.ok (AS HT.ok (AS G2.ok (AS Dl.ok (AS C9.ok (AS H1.ok (AS G4.ok (AS Dz.ok (AS Dn.ok (AS Er.ok (AS G3.ok (AS CD.ok (AS BV.ok (AS BY.ok (AS Dc.ok (AS Eb.ok (AS Fp.ok (AS Ex.ok (AS Fs.ok (AS EZ.ok (AS IZ.ok (AS Fj.ok (AS EM.ok (AS Fa.ok fL)))))))))))))))))))))))))))))))))))))))))
noncomputable def κ1:A2:=λn=>B5 n cP
theorem fG:BK prog κ1:=fM
theorem Fh:Cy prog (walk τ0 κ1 φA):=Cw AJ fG De mixed
theorem ZDV:Cy prog (walk τ0 κ1 φC):=Cw AJ fG vE mixed
noncomputable def F2.con:AP:=⟨[.d tL],none,λx=>AO [.bool] (F2.fn x)⟩
theorem F2.ok:AQ prog 123 F2.con:=AT (A:=.mk [] [(0,⟨[.t 8 tI],[],[15,14,13,12,4,11,10,9],[]⟩)] [] [] []) (Wp:=λxs Q=>F2.wp xs.1 Q) AJ Fh (AL Tryz.func123 (by kernel_rfl) (by kernel_rfl)) λxs Q=>by kernel_rfl λ⟨x0,_⟩hl hp=>F2.spec x0 hl.1.1.1
noncomputable def Ey.con:AP:=⟨[.d (.sl tC),.f [tC] [.bool]],some λx=>Ey.pre x,λx=>AO [.bool] (Ey.fn x)⟩
theorem Ey.ok:AQ prog 88 Ey.con:=AT (A:=.mk [] [] [] [] []) (Wp:=λxs Q=>Ey.wp xs.1 xs.2.1 Q) AJ Fh (AL Tryz.func88 (by kernel_rfl) (by kernel_rfl)) λxs Q=>by kernel_rfl λ⟨x0,x1,_⟩hl hp=>Ey.spec x0 x1 hp
noncomputable def EX.con:AP:=⟨[.d (.int .u64),.d tI],none,λx=>AO [.int .u64] (EX.fn x)⟩
theorem EX.ok:AQ prog 183 EX.con:=AT (A:=.mk [] [] [] [] []) (Wp:=λxs Q=>EX.wp xs.1 xs.2.1 Q) AJ Fh (AL Tryz.func183 (by kernel_rfl) (by kernel_rfl)) λxs Q=>by kernel_rfl λ⟨x0,x1,_⟩hl hp=>EX.spec x0 x1
noncomputable def FL.con:AP:=⟨[.d (.sl tC)],some λx=>FL.pre x,λx=>AO [.sl tC] (FL.fn x)⟩
theorem FL.ok:AQ prog 109 FL.con:=AT (A:=.mk [(1000,[.own 3 tC])] [(0,⟨[.t 13 tI,.row 1 tC,.smap 0 tI],[3],[58,23,20,22,21,19,18,17,6,16,15,14,57,54,52,56,55,53,51,50,34,9,8,33,32,28,31,30,29,7,27,26,25,24,49,48,47,46,45,44,43,42,41,40,39,38,37,36,35],[]⟩)] [] [] []) (Wp:=λxs Q=>FL.wp xs.1 Q) AJ Fh (AL Tryz.func109 (by kernel_rfl) (by kernel_rfl)) λxs Q=>by kernel_rfl λ⟨x0,_⟩hl hp=>FL.spec x0 hp
noncomputable def FO.con:AP:=⟨[.d tI,.d tI],none,λx=>AO [tI] (FO.fn x)⟩
theorem FO.ok:AQ prog 135 FO.con:=AT (A:=.mk [] [] [] [] []) (Wp:=λxs Q=>FO.wp xs.1 xs.2.1 Q) AJ Fh (AL Tryz.func135 (by kernel_rfl) (by kernel_rfl)) λxs Q=>by kernel_rfl λ⟨x0,x1,_⟩hl hp=>FO.spec x0 x1
noncomputable def A1.con:AP:=⟨[.d (.sl tC)],some λx=>A1.pre x,λx=>AO [.str] (A1.fn x)⟩
theorem A1.ok:AQ prog 76 A1.con:=AT (A:=.mk [(1000,[.own 3 (.int .u8)])] [(0,⟨[.t 8 tI,.row 0 (.int .u8)],[3],[40,39,37,36,38,32,31,35,34,33,26,25,30,29,28,27,23,22,24,19,18,21,20,16,15,17,12,14,13,5,11,10,9],[]⟩)] [] [] []) (Wp:=λxs Q=>A1.wp xs.1 Q) AJ ZDV (AL Tryz.func76 (by kernel_rfl) (by kernel_rfl)) λxs Q=>by kernel_rfl λ⟨x0,_⟩hl hp=>A1.spec x0 hp
noncomputable def Fu.con:AP:=⟨[.d (.pair tI (.pair (.sl tC) (.pair (.sl (.pair tC (.pair tI tL))) (.pair tI (.pair (.sl (.pair tC (.pair tI tL))) (.pair (.sl (.pair tC (.pair tI tL))) (.sl (.pair tC (.pair tI tL)))))))))],some λx=>Fu.pre x,λx=>AO [.sl (.sl tC)] (Fu.fn x)⟩
theorem Fu.ok:AQ prog 70 Fu.con:=AT (A:=.mk [(1000,[.own 6 tC])] [(0,⟨[.t 29 tI,.row 6 tC],[6],[61,60,38,59,58,57,56,55,54,53,52,51,50,49,48,47,46,45,44,43,42,41,40,39,37,36,35,34,7,8,33,32,31,30,25],[]⟩)] [(5,⟨[.t 5 tI,.t 4 tI,.t 19 .bool,.t 18 tI],[],[22,21,20,17],[]⟩)] [] []) (Wp:=λxs Q=>Fu.wp xs.1 Q) AJ Fh (AL Tryz.func70 (by kernel_rfl) (by kernel_rfl)) λxs Q=>by kernel_rfl λ⟨x0,_⟩hl hp=>Fu.spec x0 hp
noncomputable def FT.con:AP:=⟨[.d (.pair tI (.pair (.sl tC) (.pair (.sl (.pair tC (.pair tI tL))) (.pair tI (.pair (.sl (.pair tC (.pair tI tL))) (.pair (.sl (.pair tC (.pair tI tL))) (.sl (.pair tC (.pair tI tL)))))))))],some λx=>FT.pre x,λx=>AO [.sl (.sl tC)] (FT.fn x)⟩
theorem FT.ok:AQ prog 71 FT.con:=AT (A:=.mk [(1000,[.own 3 tC])] [(2,⟨[.t 21 tI,.row 1 tC],[3],[39,38,25,37,36,35,34,33,32,31,30,29,28,27,26,7,24,23,22,10],[]⟩),(0,⟨[.t 14 tI,.row 1 tC],[],[40,22,39,38,25,37,36,35,34,33,32,31,30,29,28,27,26,7,24,23,21,20,19,18,5,17,16,15,10],[]⟩)] [] [] []) (Wp:=λxs Q=>FT.wp xs.1 Q) AJ Fh (AL Tryz.func71 (by kernel_rfl) (by kernel_rfl)) λxs Q=>by kernel_rfl λ⟨x0,_⟩hl hp=>FT.spec x0 hp
noncomputable def EC.con:AP:=⟨[.d (.int .u64),.d tI],some λx=>EC.pre x,λx=>AO [.int .u64] (EC.fn x)⟩
theorem EC.ok:AQ prog 147 EC.con:=AT (A:=.mk [] [] [] [] []) (Wp:=λxs Q=>EC.wp xs.1 xs.2.1 Q) AJ Fh (AL Tryz.func147 (by kernel_rfl) (by kernel_rfl)) λxs Q=>by kernel_rfl λ⟨x0,x1,_⟩hl hp=>EC.spec x0 x1 hp
noncomputable def CM.con:AP:=⟨[.d (.pair tI (.pair (.sl tC) (.pair (.sl (.pair tC (.pair tI tL))) (.pair tI (.pair (.sl (.pair tC (.pair tI tL))) (.pair (.sl (.pair tC (.pair tI tL))) (.sl (.pair tC (.pair tI tL))))))))),.d tI,.d tL,.d .bool],some λx=>CM.pre x,λx=>AO [.sl tC] (CM.fn x)⟩
theorem CM.ok:AQ prog 104 CM.con:=AT (A:=.mk [(1000,[.own 9 tC])] [(0,⟨[.t 18 tI,.row 2 tC],[9],[47,46,29,45,44,43,42,41,40,39,38,37,36,35,34,33,32,31,30,28,27,26,25,24,23,22,11,21,20,19,14],[]⟩)] [] [] []) (Wp:=λxs Q=>CM.wp xs.1 xs.2.1 xs.2.2.1 xs.2.2.2.1 Q) AJ Fh (AL Tryz.func104 (by kernel_rfl) (by kernel_rfl)) λxs Q=>by kernel_rfl λ⟨x0,x1,x2,x3,_⟩hl hp=>CM.spec x0 x1 x2 x3 hp
noncomputable def GX.con:AP:=⟨[.d tC,.d tC],none,λx=>AO [.bool] (GX.fn x)⟩
theorem GX.ok:AQ prog 93 GX.con:=AT (A:=.mk [] [] [] [] []) (Wp:=λxs Q=>GX.wp xs.1 xs.2.1 Q) AJ Fh (AL Tryz.func93 (by kernel_rfl) (by kernel_rfl)) λxs Q=>by kernel_rfl λ⟨x0,x1,_⟩hl hp=>GX.spec x0 x1
noncomputable def HZ.con:AP:=⟨[.d tL],none,λx=>AO [.bool] (HZ.fn x)⟩
theorem HZ.ok:AQ prog 87 HZ.con:=AT (A:=.mk [] [(0,⟨[.t 8 tI],[],[15,14,13,12,4,11,10,9],[]⟩)] [] [] []) (Wp:=λxs Q=>HZ.wp xs.1 Q) AJ Fh (AL Tryz.func87 (by kernel_rfl) (by kernel_rfl)) λxs Q=>by kernel_rfl λ⟨x0,_⟩hl hp=>HZ.spec x0 hl.1.1.1
noncomputable def Fi.con:AP:=⟨[.d (.sl tI)],some λx=>Fi.pre x,λx=>AO [tI,tI] (Fi.fn x)⟩
theorem Fi.ok:AQ prog 139 Fi.con:=AT (A:=.mk [] [(2,⟨[.t 7 (.int .u64),.t 4 (.int .u64)],[],[21,20,19,18,17,16],[]⟩),(0,⟨[.t 10 tI,.t 4 (.int .u64)],[],[22,17,16,21,20,19,18,7,15,14,6,13,12,11],[]⟩)] [] [] []) (Wp:=λxs Q=>Fi.wp xs.1 Q) AJ Fh (AL Tryz.func139 (by kernel_rfl) (by kernel_rfl)) λxs Q=>by kernel_rfl λ⟨x0,_⟩hl hp=>Fi.spec x0 hl.1.1 hp
noncomputable def F4.con:AP:=⟨[.d tL,.d tL],some λx=>F4.pre x,λx=>AO [tI] (F4.fn x)⟩
theorem F4.ok:AQ prog 167 F4.con:=AT (A:=.mk [] [] [] [] []) (Wp:=λxs Q=>F4.wp xs.1 xs.2.1 Q) AJ Fh (AL Tryz.func167 (by kernel_rfl) (by kernel_rfl)) λxs Q=>by kernel_rfl λ⟨x0,x1,_⟩hl hp=>F4.spec x0 x1 hp
noncomputable def DH.con:AP:=⟨[.d tC,.d tI,.d tI,.d tI,.d tL],some λx=>DH.pre x,λx=>AO [tC] (DH.fn x)⟩
theorem DH.ok:AQ prog 117 DH.con:=AT (A:=.mk [] [] [] [] []) (Wp:=λxs Q=>DH.wp xs.1 xs.2.1 xs.2.2.1 xs.2.2.2.1 xs.2.2.2.2.1 Q) AJ Fh (AL Tryz.func117 (by kernel_rfl) (by kernel_rfl)) λxs Q=>by kernel_rfl λ⟨x0,x1,x2,x3,x4,_⟩hl hp=>DH.spec x0 x1 x2 x3 x4 hp
noncomputable def Eu.con:AP:=⟨[.d (.sl tC),.d tI],some λx=>Eu.pre x,λx=>AO [tI] (Eu.fn x)⟩
theorem Eu.ok:AQ prog 60 Eu.con:=AT (A:=.mk [] [(2,⟨[.t 31 tI,.t 5 tI,.t 6 tI],[],[47,46,45,44,43,42,41,40,39,38,37,36,10,9,35,34,33,32],[]⟩),(0,⟨[.t 20 tI,.t 5 tI,.t 6 tI],[],[48,26,25,24,8,23,22,21,32,47,46,45,44,43,42,41,40,39,38,37,36,10,9,35,34,33,31,30,29,28,27],[]⟩),(6,⟨[.t 62 tI,.t 14 tI,.t 15 tI],[],[91,68,80,79,78,77,76,75,74,73,72,71,70,69,17,65,64,63,90,89,81,88,87,86,85,84,83,82,67,66],[]⟩),(4,⟨[.t 13 tI,.t 12 tI,.t 11 tI],[],[59,58,104,103,102,101,100,99,98,97,96,95,94,93,92,63,91,68,80,79,78,77,76,75,74,73,72,71,70,69,17,65,64,90,89,81,88,87,86,85,84,83,82,67,66,62,14,15,61,60,57,56,55],[]⟩)] [] [] []) (Wp:=λxs Q=>Eu.wp xs.1 xs.2.1 Q) AJ Fh (AL Tryz.func60 (by kernel_rfl) (by kernel_rfl)) λxs Q=>by kernel_rfl λ⟨x0,x1,_⟩hl hp=>Eu.spec x0 x1 hp
noncomputable def E8.con:AP:=⟨[.d tC],some λx=>E8.pre x,λx=>AO [.sl tC] (E8.fn x)⟩
theorem E8.ok:AQ prog 144 E8.con:=AT (A:=.mk [(1001,[.own 4 tC])] [(1,⟨[.t 5 tI,.row 2 tC],[4],[34,33,49,35,48,47,46,45,44,43,42,41,40,39,38,37,36,32,31,30,29],[]⟩)] [] [] []) (Wp:=λxs Q=>E8.wp xs.1 Q) AJ Fh (AL Tryz.func144 (by kernel_rfl) (by kernel_rfl)) λxs Q=>by kernel_rfl λ⟨x0,_⟩hl hp=>E8.spec x0 hp
noncomputable def Es.con:AP:=⟨[.d (.sl tI)],none,λx=>AO [.bool] (Es.fn x)⟩
theorem Es.ok:AQ prog 20 Es.con:=AT (A:=.mk [] [(0,⟨[.t 7 tI],[],[14,13,12,11,4,10,9,8],[]⟩)] [] [] []) (Wp:=λxs Q=>Es.wp xs.1 Q) AJ Fh (AL Tryz.func20 (by kernel_rfl) (by kernel_rfl)) λxs Q=>by kernel_rfl λ⟨x0,_⟩hl hp=>Es.spec x0 hl.1.1
noncomputable def Fl.con:AP:=⟨[.d tC,.d (.sl tI)],some λx=>Fl.pre x,λx=>AO [.bool] (Fl.fn x)⟩
theorem Fl.ok:AQ prog 86 Fl.con:=AT (A:=.mk [] [] [] [] []) (Wp:=λxs Q=>Fl.wp xs.1 xs.2.1 Q) AJ Fh (AL Tryz.func86 (by kernel_rfl) (by kernel_rfl)) λxs Q=>by kernel_rfl λ⟨x0,x1,_⟩hl hp=>Fl.spec x0 x1 hp
noncomputable def FE.con:AP:=⟨[.d (.sl tC)],some λx=>FE.pre x,λx=>AO [.bool,.bool] (FE.fn x)⟩
theorem FE.ok:AQ prog 21 FE.con:=AT (A:=.mk [] [(0,⟨[.t 32 tI,.t 5 tI,.t 4 tI,.row 1 tI,.row 0 .bool],[],[138,52,29,51,50,49,45,42,41,39,37,36,9,34,71,70,69,68,67,66,65,64,63,62,61,60,59,58,57,56,53,55,54,137,136,135,134,133,132,131,130,129,128,14,120,119,15,118,117,112,116,115,114,113,111,110,109,108,107,106,105,78,74,73,72,44,47,46,11,10,43,40,38,35,33],[]⟩),(5,⟨[.t 176 tI,.t 19 .bool],[],[222,221,220,219,218,217,216,215,214,213,212,211,210,27,26,209,208,201,207,206,205,204,203,202,25,24,200,199,190,198,197,196,195,194,193,192,191,23,22,189,188,183,187,186,185,184,182,181,180,21,179,178,177],[]⟩),(3,⟨[.t 18 tI],[],[173,172,223,177,222,221,220,219,218,217,216,215,214,213,212,211,210,27,26,209,208,201,207,206,205,204,203,202,25,24,200,199,190,198,197,196,195,194,193,192,191,23,22,189,188,183,187,186,185,184,182,181,180,21,179,178,176,19,175,174,171,170,169,168,167,166,165,164,163,162,161,160,159,158,157],[]⟩)] [(16,⟨[.t 12 tI,.t 87 .bool,.t 86 tI],[],[94,93,88,92,91,90,89],[]⟩),(18,⟨[.t 4 tI,.t 78 .bool,.t 74 .bool,.t 73 .bool,.t 72 tI,.row 0 .bool],[94,93,88,92,91,90,89],[104,103,102,101,100,99,98,97,96,95,12,87,86,13,85,84,79,83,82,81,80,77,76,75],[]⟩),(22,⟨[.t 14 tI,.t 120 .bool,.t 119 tI],[],[127,126,121,125,124,123,122],[]⟩),(24,⟨[.t 44 .bool,.t 47 .bool,.t 46 tI,.t 11 tI,.t 10 tI,.t 43 tI,.t 40 tI,.t 38 (.sl tI),.t 35 tC,.t 5 tI,.t 4 tI,.row 1 tI,.row 0 .bool],[7,48,127,126,121,125,124,123,122,104,103,102,101,100,99,98,97,96,95,12,87,86,13,85,84,79,83,82,81,80,77,76,75],[52,29,51,50,49,45,42,41,39,37,36,9,34,71,70,69,68,67,66,65,64,63,62,61,60,59,58,57,56,53,55,54,137,136,135,134,133,132,131,130,129,128,14,120,119,15,118,117,112,116,115,114,113,111,110,109,108,107,106,105,78,74,73,72],[]⟩),(32,⟨[.t 4 tI,.t 148 .bool,.t 147 .bool],[],[155,154,153,152,151,150,149,146],[]⟩)] [] []) (Wp:=λxs Q=>FE.wp xs.1 Q) AJ Fh (AL Tryz.func21 (by kernel_rfl) (by kernel_rfl)) λxs Q=>by kernel_rfl λ⟨x0,_⟩hl hp=>FE.spec x0 hp
noncomputable def Fb.con:AP:=⟨[.d (.sl tC),.d tI],some λx=>Fb.pre x,λx=>AO [.sl tI,.sl tI,.bool] (Fb.fn x)⟩
theorem Fb.ok:AQ prog 56 Fb.con:=AT (A:=.mk [] [(4,⟨[.t 50 tI,.t 11 .bool],[],[65,64,63,62,61,60,59,58,57,56,55,13,12,54,53,52,51],[]⟩),(2,⟨[.t 30 tI,.row 6 .bool,.row 1 tI,.row 3 tI],[],[126,67,66,51,65,64,63,62,61,60,59,58,57,56,55,13,12,54,53,52,50,11,49,48,47,46,45,44,43,42,41,40,39,38,37,36,35,34,10,33,32,31,100,99,98,97,96,95,94,93,92,91,90,89,88,87,86,85,16,15,84,83,76,82,81,80,79,78,77,75,74,14,73,72,71,70,69,68,125,124,123,122,121,120,119,118,117,116,115,114,113,112,111,110,18,17,109,108,101,107,106,105,104,103,102],[]⟩),(0,⟨[.t 24 tI,.row 1 tI,.row 3 tI],[],[135,134,133,132,131,130,129,128,127,31,126,67,66,51,65,64,63,62,61,60,59,58,57,56,55,13,12,54,53,52,50,11,49,48,47,46,45,44,43,42,41,40,39,38,37,36,35,34,10,33,32,100,99,98,97,96,95,94,93,92,91,90,89,88,87,86,85,16,15,84,83,76,82,81,80,79,78,77,75,74,14,73,72,71,70,69,68,125,124,123,122,121,120,119,118,117,116,115,114,113,112,111,110,18,17,109,108,101,107,106,105,104,103,102,30,29,28,8,27,7,26,25],[]⟩)] [] [] []) (Wp:=λxs Q=>Fb.wp xs.1 xs.2.1 Q) AJ Fh (AL Tryz.func56 (by kernel_rfl) (by kernel_rfl)) λxs Q=>by kernel_rfl λ⟨x0,x1,_⟩hl hp=>Fb.spec x0 x1 hp
noncomputable def cT:List (Nat×CX):=(123,.con F2.con)::(88,.con Ey.con)::(183,.con EX.con)::(109,.con FL.con)::(135,.con FO.con)::(76,.con A1.con)::(70,.con Fu.con)::(71,.con FT.con)::(147,.con EC.con)::(104,.con CM.con)::(93,.con GX.con)::(87,.con HZ.con)::(139,.con Fi.con)::(167,.con F4.con)::(117,.con DH.con)::(60,.con Eu.con)::(144,.con E8.con)::(20,.con Es.con)::(86,.con Fl.con)::(21,.con FE.con)::(56,.con Fb.con)::cP
theorem fQ:BK prog λn=>B5 n cT:=AS F2.ok (AS Ey.ok (AS EX.ok (AS FL.ok (AS FO.ok (AS A1.ok (AS Fu.ok (AS FT.ok (AS EC.ok (AS CM.ok (AS GX.ok (AS HZ.ok (AS Fi.ok (AS F4.ok (AS DH.ok (AS Eu.ok (AS E8.ok (AS Es.ok (AS Fl.ok (AS FE.ok (AS Fb.ok fM))))))))))))))))))))
noncomputable def κ2:A2:=λn=>B5 n cT
theorem yN:BK prog κ2:=fQ
theorem Kx:Cy prog (walk τ0 κ2 φA):=Cw AJ yN De mixed
noncomputable def B8.con:AP:=⟨[.d tC],none,λx=>AO [.bool] (B8.fn x)⟩
theorem B8.ok:AQ prog 90 B8.con:=AT (A:=.mk [] [] [] [] []) (Wp:=λxs Q=>B8.wp xs.1 Q) AJ Kx (AL Tryz.func90 (by kernel_rfl) (by kernel_rfl)) λxs Q=>by kernel_rfl λ⟨x0,_⟩hl hp=>B8.spec x0
noncomputable def Dk.con:AP:=⟨[.d (.sl tI)],some λx=>Dk.pre x,λx=>AO [tI,tI] (Dk.fn x)⟩
theorem Dk.ok:AQ prog 169 Dk.con:=AT (A:=.mk [] [] [] [] []) (Wp:=λxs Q=>Dk.wp xs.1 Q) AJ Kx (AL Tryz.func169 (by kernel_rfl) (by kernel_rfl)) λxs Q=>by kernel_rfl λ⟨x0,_⟩hl hp=>Dk.spec x0 hp
noncomputable def H5.con:AP:=⟨[.d (.sl tI),.d (.sl tI)],none,λx=>AO [tI] (H5.fn x)⟩
theorem H5.ok:AQ prog 136 H5.con:=AT (A:=.mk [] [(0,⟨[.t 11 tI],[],[30,28,27,8,26,25,24,7,23,22,21,20,19,18,17,16,6,5,15,14,13,12],[]⟩)] [] [] []) (Wp:=λxs Q=>H5.wp xs.1 xs.2.1 Q) AJ Kx (AL Tryz.func136 (by kernel_rfl) (by kernel_rfl)) λxs Q=>by kernel_rfl λ⟨x0,x1,_⟩hl hp=>H5.spec x0 x1 hl.1.1
noncomputable def BP.con:AP:=⟨[.d (.sl tI)],some λx=>BP.pre x,λx=>AO [tI,tI] (BP.fn x)⟩
theorem BP.ok:AQ prog 130 BP.con:=AT (A:=.mk [] [(0,⟨[.t 9 tI],[],[15,14,13,5,12,11,10],[]⟩)] [] [] []) (Wp:=λxs Q=>BP.wp xs.1 Q) AJ Kx (AL Tryz.func130 (by kernel_rfl) (by kernel_rfl)) λxs Q=>by kernel_rfl λ⟨x0,_⟩hl hp=>BP.spec x0 hl.1.1 hp
noncomputable def GY.con:AP:=⟨[.d (.sl tC),.d (.sl tC)],none,λx=>AO [.bool] (GY.fn x)⟩
theorem GY.ok:AQ prog 62 GY.con:=AT (A:=.mk [] [(0,⟨[.t 13 tI],[],[26,25,24,23,22,21,20,19,18,17,16,5,15,14],[]⟩)] [] [] []) (Wp:=λxs Q=>GY.wp xs.1 xs.2.1 Q) AJ Kx (AL Tryz.func62 (by kernel_rfl) (by kernel_rfl)) λxs Q=>by kernel_rfl λ⟨x0,x1,_⟩hl hp=>GY.spec x0 x1 hl.1.1
noncomputable def EY.con:AP:=⟨[.d tC],none,λx=>AO [.bool] (EY.fn x)⟩
theorem EY.ok:AQ prog 55 EY.con:=AT (A:=.mk [] [] [] [] []) (Wp:=λxs Q=>EY.wp xs.1 Q) AJ Kx (AL Tryz.func55 (by kernel_rfl) (by kernel_rfl)) λxs Q=>by kernel_rfl λ⟨x0,_⟩hl hp=>EY.spec x0
noncomputable def Bi.con:AP:=⟨[.d tC],some λx=>Bi.pre x,λx=>AO [tC,tI] (Bi.fn x)⟩
theorem Bi.ok:AQ prog 124 Bi.con:=AT (A:=.mk [] [(1,⟨[.t 73 tI],[],[83,78,77,9,76,75,74],[]⟩),(3,⟨[.t 104 tI,.row 2 tI],[],[120,119,118,117,109,116,115,114,113,112,111,110,12,11,108,107,106,105],[]⟩)] [] [] []) (Wp:=λxs Q=>Bi.wp xs.1 Q) AJ Kx (AL Tryz.func124 (by kernel_rfl) (by kernel_rfl)) λxs Q=>by kernel_rfl λ⟨x0,_⟩hl hp=>Bi.spec x0 hp
noncomputable def Fk.con:AP:=⟨[.d tC,.d tC],some λx=>Fk.pre x,λx=>AO [tI] (Fk.fn x)⟩
theorem Fk.ok:AQ prog 142 Fk.con:=AT (A:=.mk [] [] [] [] []) (Wp:=λxs Q=>Fk.wp xs.1 xs.2.1 Q) AJ Kx (AL Tryz.func142 (by kernel_rfl) (by kernel_rfl)) λxs Q=>by kernel_rfl λ⟨x0,x1,_⟩hl hp=>Fk.spec x0 x1 hp
noncomputable def Fo.con:AP:=⟨[.d (.sl tC),.d tI,.d tI],some λx=>Fo.pre x,λx=>AO [.sl tC] (Fo.fn x)⟩
theorem Fo.ok:AQ prog 81 Fo.con:=AT (A:=.mk [(1000,[.own 10 tC])] [(0,⟨[.t 33 tI,.row 1 tC],[10],[71,40,39,38,11,12,37,36,35,34,59,48,58,57,56,55,54,53,52,51,50,49,47,46,45,44,43,42,41,70,60,69,68,67,66,65,64,63,62,61],[]⟩)] [] [] []) (Wp:=λxs Q=>Fo.wp xs.1 xs.2.1 xs.2.2.1 Q) AJ Kx (AL Tryz.func81 (by kernel_rfl) (by kernel_rfl)) λxs Q=>by kernel_rfl λ⟨x0,x1,x2,_⟩hl hp=>Fo.spec x0 x1 x2 hp
noncomputable def Ea.con:AP:=⟨[.d (.sl tC),.d (.sl tI)],some λx=>Ea.pre x,λx=>AO [.bool] (Ea.fn x)⟩
theorem Ea.ok:AQ prog 54 Ea.con:=AT (A:=.mk [] [(0,⟨[.t 9 tI],[],[17,16,15,14,13,6,12,11,10],[]⟩)] [] [] []) (Wp:=λxs Q=>Ea.wp xs.1 xs.2.1 Q) AJ Kx (AL Tryz.func54 (by kernel_rfl) (by kernel_rfl)) λxs Q=>by kernel_rfl λ⟨x0,x1,_⟩hl hp=>Ea.spec x0 x1 hl.1.1 hp
noncomputable def cU:List (Nat×CX):=(90,.con B8.con)::(169,.con Dk.con)::(136,.con H5.con)::(130,.con BP.con)::(62,.con GY.con)::(55,.con EY.con)::(124,.con Bi.con)::(142,.con Fk.con)::(81,.con Fo.con)::(54,.con Ea.con)::cT
theorem fR:BK prog λn=>B5 n cU:=AS B8.ok (AS Dk.ok (AS H5.ok (AS BP.ok (AS GY.ok (AS EY.ok (AS Bi.ok (AS Fk.ok (AS Fo.ok (AS Ea.ok fQ)))))))))
noncomputable def κ3:A2:=λn=>B5 n cU
theorem yO:BK prog κ3:=fR
theorem IY:Cy prog (walk τ0 κ3 φA):=Cw AJ yO De mixed
noncomputable def Gb.con:AP:=⟨[.d (.sl tC),.d tI],none,λx=>AO [.bool] (Gb.fn x)⟩
theorem Gb.ok:AQ prog 65 Gb.con:=AT (A:=.mk [] [(0,⟨[.t 9 tI],[],[24,23,22,21,20,19,18,17,16,15,14,13,6,12,11,10],[]⟩)] [] [] []) (Wp:=λxs Q=>Gb.wp xs.1 xs.2.1 Q) AJ IY (AL Tryz.func65 (by kernel_rfl) (by kernel_rfl)) λxs Q=>by kernel_rfl λ⟨x0,x1,_⟩hl hp=>Gb.spec x0 x1 hl.1.1
noncomputable def FR.con:AP:=⟨[.d tC],some λx=>FR.pre x,λx=>AO [tC,tI] (FR.fn x)⟩
theorem FR.ok:AQ prog 149 FR.con:=AT (A:=.mk [] [] [] [] []) (Wp:=λxs Q=>FR.wp xs.1 Q) AJ IY (AL Tryz.func149 (by kernel_rfl) (by kernel_rfl)) λxs Q=>by kernel_rfl λ⟨x0,_⟩hl hp=>FR.spec x0 hp
noncomputable def FQ.con:AP:=⟨[.d tC],some λx=>FQ.pre x,λx=>AO [tC,tI] (FQ.fn x)⟩
theorem FQ.ok:AQ prog 150 FQ.con:=AT (A:=.mk [] [(0,⟨[.t 44 tI],[],[54,49,48,7,47,46,45],[]⟩)] [] [] []) (Wp:=λxs Q=>FQ.wp xs.1 Q) AJ IY (AL Tryz.func150 (by kernel_rfl) (by kernel_rfl)) λxs Q=>by kernel_rfl λ⟨x0,_⟩hl hp=>FQ.spec x0 hp
noncomputable def FP.con:AP:=⟨[.d tC],some λx=>FP.pre x,λx=>AO [tC,tI] (FP.fn x)⟩
theorem FP.ok:AQ prog 151 FP.con:=AT (A:=.mk [] [(0,⟨[.t 25 tI,.t 6 tI,.row 2 tI],[],[51,50,49,40,48,47,46,45,44,43,42,41,39,38,37,30,36,35,34,33,32,31,8,7,29,28,27,26],[]⟩)] [] [] []) (Wp:=λxs Q=>FP.wp xs.1 Q) AJ IY (AL Tryz.func151 (by kernel_rfl) (by kernel_rfl)) λxs Q=>by kernel_rfl λ⟨x0,_⟩hl hp=>FP.spec x0 hp
noncomputable def Hi.con:AP:=⟨[.d tC],none,λx=>AO [.bool] (Hi.fn x)⟩
theorem Hi.ok:AQ prog 107 Hi.con:=AT (A:=.mk [] [] [] [] []) (Wp:=λxs Q=>Hi.wp xs.1 Q) AJ IY (AL Tryz.func107 (by kernel_rfl) (by kernel_rfl)) λxs Q=>by kernel_rfl λ⟨x0,_⟩hl hp=>Hi.spec x0
noncomputable def D1.con:AP:=⟨[.d tC,.d tC],some λx=>D1.pre x,λx=>AO [tI] (D1.fn x)⟩
theorem D1.ok:AQ prog 112 D1.con:=AT (A:=.mk [] [] [] [] []) (Wp:=λxs Q=>D1.wp xs.1 xs.2.1 Q) AJ IY (AL Tryz.func112 (by kernel_rfl) (by kernel_rfl)) λxs Q=>by kernel_rfl λ⟨x0,x1,_⟩hl hp=>D1.spec x0 x1 hp
noncomputable def Et.con:AP:=⟨[.d tS,.d tS],none,λx=>AO [.bool] (Et.fn x)⟩
theorem Et.ok:AQ prog 29 Et.con:=AT (A:=.mk [] [(0,⟨[.t 23 tI],[],[38,37,36,35,34,33,32,31,30,29,28,27,26,5,25,24],[]⟩)] [] [] []) (Wp:=λxs Q=>Et.wp xs.1 xs.2.1 Q) AJ IY (AL Tryz.func29 (by kernel_rfl) (by kernel_rfl)) λxs Q=>by kernel_rfl λ⟨x0,x1,_⟩hl hp=>Et.spec x0 x1 hl.1.2.1
noncomputable def CO.con:AP:=⟨[.d tS],none,λx=>AO [.bool] (CO.fn x)⟩
theorem CO.ok:AQ prog 24 CO.con:=AT (A:=.mk [] [(2,⟨[.t 33 tI],[],[49,48,47,46,45,44,43,42,41,40,39,38,37,6,36,35,34],[]⟩),(0,⟨[.t 24 tI],[],[50,34,49,48,47,46,45,44,43,42,41,40,39,38,37,6,36,35,33,32,31,30,29,28,4,27,26,25],[]⟩)] [] [] []) (Wp:=λxs Q=>CO.wp xs.1 Q) AJ IY (AL Tryz.func24 (by kernel_rfl) (by kernel_rfl)) λxs Q=>by kernel_rfl λ⟨x0,_⟩hl hp=>CO.spec x0 hl.1.2.1
noncomputable def Fm.con:AP:=⟨[.d (.sl tC)],some λx=>Fm.pre x,λx=>AO [.sl tC] (Fm.fn x)⟩
theorem Fm.ok:AQ prog 126 Fm.con:=AT (A:=.mk [(1000,[.own 3 tC])] [(2,⟨[.t 6 tI],[],[28,27,26,25,24,23,22,21,20,19,18,17,16,15,14],[]⟩),(0,⟨[.t 10 tI,.t 3 (.sl tC)],[],[55,54,50,7,49,53,52,51,46,45,48,47,41,44,43,42,40,39,38,37,36,35,34,33,32,31,30,29,26,25,24,23,22,21,20,19,18,17,16,15,14,6,5,13,12,11,28,27],[]⟩)] [] [] []) (Wp:=λxs Q=>Fm.wp xs.1 Q) AJ IY (AL Tryz.func126 (by kernel_rfl) (by kernel_rfl)) λxs Q=>by kernel_rfl λ⟨x0,_⟩hl hp=>Fm.spec x0 hp
noncomputable def Hc.con:AP:=⟨[.d (.sl (.sl tC)),.d (.sl tC)],none,λx=>AO [.bool] (Hc.fn x)⟩
theorem Hc.ok:AQ prog 119 Hc.con:=AT (A:=.mk [] [(0,⟨[.t 9 tI],[],[16,15,14,13,6,12,11,10],[]⟩)] [] [] []) (Wp:=λxs Q=>Hc.wp xs.1 xs.2.1 Q) AJ IY (AL Tryz.func119 (by kernel_rfl) (by kernel_rfl)) λxs Q=>by kernel_rfl λ⟨x0,x1,_⟩hl hp=>Hc.spec x0 x1 hl.1.1
noncomputable def If.con:AP:=⟨[.d tC],none,λx=>AO [.bool] (If.fn x)⟩
theorem If.ok:AQ prog 89 If.con:=AT (A:=.mk [] [] [] [] []) (Wp:=λxs Q=>If.wp xs.1 Q) AJ IY (AL Tryz.func89 (by kernel_rfl) (by kernel_rfl)) λxs Q=>by kernel_rfl λ⟨x0,_⟩hl hp=>If.spec x0
noncomputable def Ha.con:AP:=⟨[.d tC],none,λx=>AO [.sl tC,tI] (Ha.fn x)⟩
theorem Ha.ok:AQ prog 99 Ha.con:=AT (A:=.mk [(5,[.frz 20]),(1001,[.own 6 tC]),(1003,[.own 8 tC])] [(1,⟨[.t 7 tI,.row 4 tC],[6],[32,31,44,33,43,42,41,40,39,38,37,36,35,34,30,29,28,27],[]⟩),(3,⟨[.t 68 tI,.row 4 tC],[8],[100,84,80,83,82,81,77,79,78,12,11,76,75,72,74,73,10,71,70,69,99,96,98,97,93,95,94,85,92,91,90,89,88,87,86],[]⟩)] [(15,⟨[.t 6 (.sl tC),.t 45 .bool,.t 46 .bool,.t 26 tI],[32,31,44,33,43,42,41,40,39,38,37,36,35,34],[52,51,50,49,48,47,25,65,64,63,62,61,60,59,58,57,56,55,53,54,30,29,28,27,7],[]⟩)] [] []) (Wp:=λxs Q=>Ha.wp xs.1 Q) AJ IY (AL Tryz.func99 (by kernel_rfl) (by kernel_rfl)) λxs Q=>by kernel_rfl λ⟨x0,_⟩hl hp=>Ha.spec x0
noncomputable def Cs.con:AP:=⟨[.d tS,.d (.sl tI)],some λx=>Cs.pre x,λx=>AO [.bool] (Cs.fn x)⟩
theorem Cs.ok:AQ prog 23 Cs.con:=AT (A:=.mk [] [(0,⟨[.t 10 tI],[],[17,16,15,14,6,13,12,11],[]⟩)] [] [] []) (Wp:=λxs Q=>Cs.wp xs.1 xs.2.1 Q) AJ IY (AL Tryz.func23 (by kernel_rfl) (by kernel_rfl)) λxs Q=>by kernel_rfl λ⟨x0,x1,_⟩hl hp=>Cs.spec x0 x1 hl.1.2.1 hp
noncomputable def Fc.con:AP:=⟨[.d (.sl tC),.d tI,.d tI],some λx=>Fc.pre x,λx=>AO [.bool,.bool] (Fc.fn x)⟩
theorem Fc.ok:AQ prog 25 Fc.con:=AT (A:=.mk [] [(0,⟨[.t 25 tI,.t 11 tI],[],[63,62,61,60,59,58,57,56,55,54,53,52,51,50,49,48,47,46,45,44,43,42,41,40,39,38,37,36,35,34,33,32,31,30,29,28,12,27,26],[]⟩),(4,⟨[.t 14 tI,.row 0 tI],[],[78,77,100,99,98,97,96,95,94,93,92,91,90,89,88,87,86,85,84,83,82,81,80,79,76,75],[]⟩),(2,⟨[.t 68 tI,.row 0 tI],[],[101,93,92,91,90,89,88,87,86,85,84,83,82,81,80,79,76,75,78,77,100,99,98,97,96,95,94,14,74,73,72,71,70,69],[]⟩)] [] [] []) (Wp:=λxs Q=>Fc.wp xs.1 xs.2.1 xs.2.2.1 Q) AJ IY (AL Tryz.func25 (by kernel_rfl) (by kernel_rfl)) λxs Q=>by kernel_rfl λ⟨x0,x1,x2,_⟩hl hp=>Fc.spec x0 x1 x2 hp
noncomputable def cV:List (Nat×CX):=(65,.con Gb.con)::(149,.con FR.con)::(150,.con FQ.con)::(151,.con FP.con)::(107,.con Hi.con)::(112,.con D1.con)::(29,.con Et.con)::(24,.con CO.con)::(126,.con Fm.con)::(119,.con Hc.con)::(89,.con If.con)::(99,.con Ha.con)::(23,.con Cs.con)::(25,.con Fc.con)::cU
theorem fS:BK prog λn=>B5 n cV:=AS Gb.ok (AS FR.ok (AS FQ.ok (AS FP.ok (AS Hi.ok (AS D1.ok (AS Et.ok (AS CO.ok (AS Fm.ok (AS Hc.ok (AS If.ok (AS Ha.ok (AS Cs.ok (AS Fc.ok fR)))))))))))))
noncomputable def κ4:A2:=λn=>B5 n cV
theorem fI:BK prog κ4:=fS
theorem Pl:Cy prog (walk τ0 κ4 φA):=Cw AJ fI De mixed
noncomputable def Cu.con:AP:=⟨[.d tS],none,λx=>AO [.bool] (Cu.fn x)⟩
theorem Cu.ok:AQ prog 39 Cu.con:=AT (A:=.mk [] [(0,⟨[.t 22 tI],[],[36,35,34,33,32,31,30,29,28,27,26,4,25,24,23],[]⟩)] [] [] []) (Wp:=λxs Q=>Cu.wp xs.1 Q) AJ Pl (AL Tryz.func39 (by kernel_rfl) (by kernel_rfl)) λxs Q=>by kernel_rfl λ⟨x0,_⟩hl hp=>Cu.spec x0 hl.1.2.1
noncomputable def NB.con:AP:=⟨[],none,λ_=>.agg [.fn (.func 149) [] [],.fn (.func 150) [] [],.fn (.func 151) [] []]⟩
theorem NB.val(xs:Cz [])(Q:V→Prop):Q (NB.con.res xs)=QZ τ0 (walk τ0 κ4 φA) An.none (C5 Tryz.f131) [] xs Q:=by kernel_rfl
theorem NB.ok:AQ prog 131 NB.con:=fF AJ (Cw AJ fI De mixed) (AL Tryz.func131 (by kernel_rfl) (by kernel_rfl)) λxs _ _=>Eq.mp (NB.val xs _) rfl
noncomputable def Ec.con:AP:=⟨[.d tC,.d tC],some λx=>Ec.pre x,λx=>AO [.bool] (Ec.fn x)⟩
theorem Ec.ok:AQ prog 114 Ec.con:=AT (A:=.mk [] [] [] [] []) (Wp:=λxs Q=>Ec.wp xs.1 xs.2.1 Q) AJ Pl (AL Tryz.func114 (by kernel_rfl) (by kernel_rfl)) λxs Q=>by kernel_rfl λ⟨x0,x1,_⟩hl hp=>Ec.spec x0 x1 hp
noncomputable def Dm.con:AP:=⟨[.d (.sl tC)],some λx=>Dm.pre x,λx=>AO [.sl tC,.bool,tI] (Dm.fn x)⟩
theorem Dm.ok:AQ prog 91 Dm.con:=AT (A:=.mk [(1000,[.own 6 tC,.own 7 tC,.own 8 tC]),(1003,[.own 13 tC])] [(0,⟨[.t 36 tI,.t 5 .bool,.row 0 tC,.row 1 tC,.row 2 tC],[6,7,8],[73,48,47,46,45,12,11,44,43,40,42,41,10,39,38,37,66,63,65,64,61,62,56,55,54,53,52,51,50,49,72,69,71,70,67,68,60,57,59,58],[]⟩),(5,⟨[.t 82 tI,.t 16 .bool,.row 3 tC],[],[107,106,105,104,103,102,101,100,99,98,97,96,95,94,93,92,91,90,89,88,87,86,85,17,84,83],[]⟩),(3,⟨[.t 76 tI,.row 3 tC],[13],[114,113,110,80,112,111,109,108,83,82,81,16,15,79,78,77,107,106,105,104,103,102,101,100,99,98,97,96,95,94,93,92,91,90,89,88,87,86,85,17,84],[]⟩),(9,⟨[.t 21 tI,.row 1 tC,.row 4 .bool],[7],[132,131,140,139,138,137,22,136,135,134,133,130,129,128,127,173,170,172,171,24,23,169,168,163,167,166,165,164,162,161,160,159,158,157,156,155,154,153,152,151,150,149,148,147,146,145,144,143,142,141],[]⟩),(7,⟨[.t 120 tI,.row 1 tC,.row 4 .bool],[],[174,130,129,128,127,132,131,140,139,138,137,22,136,135,134,133,173,170,172,171,24,23,169,168,163,167,166,165,164,162,161,160,159,158,157,156,155,154,153,152,151,150,149,148,147,146,145,144,143,142,141,21,126,125,19,20,124,123,122,121],[]⟩),(15,⟨[.t 206 tI,.row 4 .bool],[],[236,220,219,218,217,216,215,214,213,212,211,29,30,210,209,208,207,235,234,233,232,231,230,229,228,227,226,225,224,223,222,221],[]⟩),(13,⟨[.t 186 tI],[],[203,202,201,200,199,198,197,196,195,194,193,192,191,190,28,189,188,187],[]⟩),(11,⟨[.t 177 tI,.row 4 .bool],[],[237,207,236,220,219,218,217,216,215,214,213,212,211,29,30,210,209,208,235,234,233,232,231,230,229,228,227,226,225,224,223,222,221,206,205,204,187,186,185,184,183,182,25,26,181,180,179,178,203,202,201,200,199,198,197,196,195,194,193,192,191,190,28,189,188],[]⟩),(17,⟨[.t 241 tI,.row 1 tC],[31],[255,254,251,238,175,7,253,252,250,249,248,247,246,32,33,245,244,243,242],[]⟩)] [] [] []) (Wp:=λxs Q=>Dm.wp xs.1 Q) AJ Pl (AL Tryz.func91 (by kernel_rfl) (by kernel_rfl)) λxs Q=>by kernel_rfl λ⟨x0,_⟩hl hp=>Dm.spec x0 hp
noncomputable def F0.con:AP:=⟨[.d tS,.d tI,.d tS,.d tI],none,λx=>AO [.bool] (F0.fn x)⟩
theorem F0.ok:AQ prog 16 F0.con:=AT (A:=.mk [] [] [] [] []) (Wp:=λxs Q=>F0.wp xs.1 xs.2.1 xs.2.2.1 xs.2.2.2.1 Q) AJ Pl (AL Tryz.func16 (by kernel_rfl) (by kernel_rfl)) λxs Q=>by kernel_rfl λ⟨x0,x1,x2,x3,_⟩hl hp=>F0.spec x0 x1 x2 x3
noncomputable def Br.con:AP:=⟨[.d tI,.d tI,.d tI,.d (.sl tS)],none,λx=>AO [.bool] (Br.fn x)⟩
theorem Br.ok:AQ prog 17 Br.con:=AT (A:=.mk [] [(2,⟨[.t 34 tI,.t 11 tI],[],[42,41,40,39,38,13,37,36,35],[]⟩),(8,⟨[.t 73 tI],[],[87,86,85,84,83,82,81,80,79,78,77,19,76,75,74],[]⟩),(6,⟨[.t 65 tI],[],[95,94,93,92,91,90,89,88,74,87,86,85,84,83,82,81,80,79,78,77,19,76,75,73,72,71,70,69,17,68,67,66],[]⟩),(4,⟨[.t 59 tI],[],[96,66,95,94,93,92,91,90,89,88,74,87,86,85,84,83,82,81,80,79,78,77,19,76,75,73,72,71,70,69,17,68,67,65,64,63,15,62,61,60],[]⟩),(0,⟨[.t 27 tI],[],[97,60,96,66,95,94,93,92,91,90,89,88,74,87,86,85,84,83,82,81,80,79,78,77,19,76,75,73,72,71,70,69,17,68,67,65,64,63,15,62,61,59,58,57,56,55,54,53,52,51,50,49,48,47,46,45,44,43,35,42,41,40,39,38,13,37,36,34,11,33,32,31,10,30,29,28],[]⟩)] [] [] []) (Wp:=λxs Q=>Br.wp xs.1 xs.2.1 xs.2.2.1 xs.2.2.2.1 Q) AJ Pl (AL Tryz.func17 (by kernel_rfl) (by kernel_rfl)) λxs Q=>by kernel_rfl λ⟨x0,x1,x2,x3,_⟩hl hp=>by first|exact Br.spec x0 x1 x2 x3|exact Br.spec x0 x1 x2 x3 hp|exact Br.spec x0 x1 x2 x3 hl.1|exact Br.spec x0 x1 x2 x3 hl.1 hp|exact Br.spec x0 x1 x2 x3 hl.1.1|exact Br.spec x0 x1 x2 x3 hl.1.1 hp|exact Br.spec x0 x1 x2 x3 hl.1.1.1|exact Br.spec x0 x1 x2 x3 hl.1.1.1 hp|exact Br.spec x0 x1 x2 x3 hl.1.2.1|exact Br.spec x0 x1 x2 x3 hl.1.2.1 hp|exact Br.spec x0 x1 x2 x3 hl.2.1|exact Br.spec x0 x1 x2 x3 hl.2.1 hp|exact Br.spec x0 x1 x2 x3 hl.2.1.1|exact Br.spec x0 x1 x2 x3 hl.2.1.1 hp|exact Br.spec x0 x1 x2 x3 hl.2.1.1.1|exact Br.spec x0 x1 x2 x3 hl.2.1.1.1 hp|exact Br.spec x0 x1 x2 x3 hl.2.2.1.1 λs hs=>(hl.2.2.1.2 s hs).2.1|exact Br.spec x0 x1 x2 x3 hl.2.2.2.1.1 λs hs=>⟨(hl.2.2.2.1.2 s hs).2.1,λp hp=>⟨((hl.2.2.2.1.2 s hs).2.2 p hp).1,λc hc=>(((hl.2.2.2.1.2 s hs).2.2 p hp).2 c hc).2.2.1.1⟩⟩
noncomputable def Hb.con:AP:=⟨[.d tS,.d tS],none,λx=>AO [tI] (Hb.fn x)⟩
theorem Hb.ok:AQ prog 97 Hb.con:=AT (A:=.mk [] [] [] [] []) (Wp:=λxs Q=>Hb.wp xs.1 xs.2.1 Q) AJ Pl (AL Tryz.func97 (by kernel_rfl) (by kernel_rfl)) λxs Q=>by kernel_rfl λ⟨x0,x1,_⟩hl hp=>Hb.spec x0 x1
noncomputable def cW:List (Nat×CX):=(39,.con Cu.con)::(131,.con NB.con)::(114,.con Ec.con)::(91,.con Dm.con)::(16,.con F0.con)::(17,.con Br.con)::(97,.con Hb.con)::cV
theorem fT:BK prog λn=>B5 n cW:=AS Cu.ok (AS NB.ok (AS Ec.ok (AS Dm.ok (AS F0.ok (AS Br.ok (AS Hb.ok fS))))))
noncomputable def κ5:A2:=λn=>B5 n cW
theorem yP:BK prog κ5:=fT
theorem VE:Cy prog (walk τ0 κ5 φA):=Cw AJ yP De mixed
noncomputable def Bv.con:AP:=⟨[.d tC],some λx=>Bv.pre x,λx=>AO [tC,tI] (Bv.fn x)⟩
theorem Bv.ok:AQ prog 106 Bv.con:=AT (A:=.mk [(1,[.cases 1 0 3])] [] [] [] []) (Wp:=λxs Q=>Bv.wp xs.1 Q) AJ VE (AL Tryz.func106 (by kernel_rfl) (by kernel_rfl)) λxs Q=>by kernel_rfl λ⟨x0,_⟩hl hp=>Bv.spec x0 hp
noncomputable def EN.con:AP:=⟨[.d (.sl (.sl tC))],some λx=>EN.pre x,λx=>AO [.sl (.sl tC),tI] (EN.fn x)⟩
theorem EN.ok:AQ prog 84 EN.con:=AT (A:=.mk [(1000,[.own 4 (.sl tC)])] [(0,⟨[.t 12 tI,.row 0 (.sl tC)],[4],[37,36,33,28,35,34,32,31,30,29,27,26,25,23,22,9,8,7,21,20,19,16,18,17,6,15,14,13],[]⟩)] [] [] []) (Wp:=λxs Q=>EN.wp xs.1 Q) AJ VE (AL Tryz.func84 (by kernel_rfl) (by kernel_rfl)) λxs Q=>by kernel_rfl λ⟨x0,_⟩hl hp=>EN.spec x0 hp
noncomputable def H3.con:AP:=⟨[.d (.sl tC),.d tI],none,λx=>AO [.sl tC,.bool,tI] (H3.fn x)⟩
theorem H3.ok:AQ prog 59 H3.con:=AT (A:=.mk [] [(0,⟨[.t 21 tI,.t 7 tI],[],[34,33,32,31,30,29,28,27,26,25,9,24,23,22],[]⟩)] [] [] []) (Wp:=λxs Q=>H3.wp xs.1 xs.2.1 Q) AJ VE (AL Tryz.func59 (by kernel_rfl) (by kernel_rfl)) λxs Q=>by kernel_rfl λ⟨x0,x1,_⟩hl hp=>H3.spec x0 x1
noncomputable def Hj.con:AP:=⟨[.d tS,.d tS],none,λx=>AO [tI] (Hj.fn x)⟩
theorem Hj.ok:AQ prog 94 Hj.con:=AT (A:=.mk [] [] [] [] []) (Wp:=λxs Q=>Hj.wp xs.1 xs.2.1 Q) AJ VE (AL Tryz.func94 (by kernel_rfl) (by kernel_rfl)) λxs Q=>by kernel_rfl λ⟨x0,x1,_⟩hl hp=>Hj.spec x0 x1
noncomputable def cX:List (Nat×CX):=(106,.con Bv.con)::(84,.con EN.con)::(59,.con H3.con)::(94,.con Hj.con)::cW
theorem fU:BK prog λn=>B5 n cX:=AS Bv.ok (AS EN.ok (AS H3.ok (AS Hj.ok fT)))
noncomputable def κ6:A2:=λn=>B5 n cX
theorem yQ:BK prog κ6:=fU
theorem SA:Cy prog (walk τ0 κ6 φA):=Cw AJ yQ De mixed
noncomputable def Ev.con:AP:=⟨[.d (.sl tC)],some λx=>Ev.pre x,λx=>AO [.sl tC,.bool] (Ev.fn x)⟩
theorem Ev.ok:AQ prog 108 Ev.con:=AT (A:=.mk [(1002,[.own 7 tC])] [(0,⟨[.t 19 tI,.smap 0 tI],[],[33,32,31,30,29,28,27,26,25,24,5,6,23,22,21,20],[]⟩),(2,⟨[.t 37 tI,.row 2 tC,.imap 1 .bool],[7],[98,64,61,63,62,60,59,58,57,56,55,54,12,11,53,52,45,51,50,49,48,47,46,44,43,42,9,10,41,40,39,38,97,94,96,95,93,92,15,14,91,90,85,89,88,87,86,82,84,83,79,81,80,13,74,73,72,71,70,69,68,67,66,65,78,75,77,76],[]⟩)] [] [] []) (Wp:=λxs Q=>Ev.wp xs.1 Q) AJ SA (AL Tryz.func108 (by kernel_rfl) (by kernel_rfl)) λxs Q=>by kernel_rfl λ⟨x0,_⟩hl hp=>Ev.spec x0 hp
noncomputable def EF.con:AP:=⟨[.d tI,.d (.sl (.sl tC))],some λx=>EF.pre x,λx=>AO [tS,tI] (EF.fn x)⟩
theorem EF.ok:AQ prog 46 EF.con:=AT (A:=.mk [] [] [] [] []) (Wp:=λxs Q=>EF.wp xs.1 xs.2.1 Q) AJ SA (AL Tryz.func46 (by kernel_rfl) (by kernel_rfl)) λxs Q=>by kernel_rfl λ⟨x0,x1,_⟩hl hp=>EF.spec x0 x1 hp
noncomputable def Ct.con:AP:=⟨[.d (.sl (.sl tC))],some λx=>Ct.pre x,λx=>AO [.sl (.sl tC),tI] (Ct.fn x)⟩
theorem Ct.ok:AQ prog 80 Ct.con:=AT (A:=.mk [] [] [] [] []) (Wp:=λxs Q=>Ct.wp xs.1 Q) AJ SA (AL Tryz.func80 (by kernel_rfl) (by kernel_rfl)) λxs Q=>by kernel_rfl λ⟨x0,_⟩hl hp=>Ct.spec x0 hp
noncomputable def Ib.con:AP:=⟨[.d (.sl tC),.d tI],none,λx=>AO [tI,tI] (Ib.fn x)⟩
theorem Ib.ok:AQ prog 27 Ib.con:=AT (A:=.mk [] [] [] [] []) (Wp:=λxs Q=>Ib.wp xs.1 xs.2.1 Q) AJ SA (AL Tryz.func27 (by kernel_rfl) (by kernel_rfl)) λxs Q=>by kernel_rfl λ⟨x0,x1,_⟩hl hp=>Ib.spec x0 x1
noncomputable def Ds.con:AP:=⟨[.d tC],some λx=>Ds.pre x,λx=>AO [tC,tI,tI] (Ds.fn x)⟩
theorem Ds.ok:AQ prog 145 Ds.con:=AT (A:=.mk [] [] [] [] []) (Wp:=λxs Q=>Ds.wp xs.1 Q) AJ SA (AL Tryz.func145 (by kernel_rfl) (by kernel_rfl)) λxs Q=>by kernel_rfl λ⟨x0,_⟩hl hp=>Ds.spec x0 hp
noncomputable def Vr:List (Nat×CX):=(108,.con Ev.con)::(46,.con EF.con)::(80,.con Ct.con)::(27,.con Ib.con)::(145,.con Ds.con)::cX
theorem WY:BK prog λn=>B5 n Vr:=AS Ev.ok (AS EF.ok (AS Ct.ok (AS Ib.ok (AS Ds.ok fU))))
noncomputable def κ7:A2:=λn=>B5 n Vr
theorem fJ:BK prog κ7:=WY
theorem ZEH:Sp.Ok prog 111 (.sort tC 112 (λa b=>D1.pre (a,b,())) λa b=>D1.fn (a,b,())):=dN ZER ZEQ λh=>ZEM (T:=tC) ZCL rfl ZEP ZES h D1.ok Mn.1 Mn.2
noncomputable def φB:Nat→Option FX:=λn=>C0 n ((111,.sp (.sort tC 112 (λa b=>D1.pre (a,b,())) λa b=>D1.fn (a,b,())))::P5)
theorem ZFK:∀g fx,φB g=some fx→fx.Ok prog g:=Fw ZEH Sf
theorem ZDW:Cy prog (walk τ0 κ7 φB):=Cw AJ fJ ZFK mixed
theorem rI:Cy prog (walk τ0 κ7 φA):=Cw AJ fJ De mixed
noncomputable def AD.con:AP:=⟨[.d (.sl tC)],some λx=>AD.pre x,λx=>AO [.sl tC,.bool,tI] (AD.fn x)⟩
theorem AD.ok:AQ prog 75 AD.con:=AT (A:=.mk [(20,[.part 5]),(1000,[.own 5 tC])] [(0,⟨[.t 14 tI,.row 0 tC],[5],[31,30,27,29,28,26,25,24,23,9,8,22,21,18,20,19,7,17,16,15],[]⟩)] [] [] [(50,.mk [] [(2,⟨[.t 7 tI,.t 5 tI,.row 2 tC],[],[37,36,58,57,56,55,54,53,52,51,50,49,48,47,46,45,44,43,42,41,40,39,38,35,34,33,32],[]⟩),(0,⟨[.t 5 tI],[],[17,16,28,27,26,25,24,23,22,21,20,19,18,15,14,13,12],[]⟩)] [] [] []),(43,.mk [(1002,[.own 10 tC])] [(0,⟨[.t 20 tI,.smap 1 tI],[],[50,26,25,24,6,23,22,21,49,48,47,46,45,44,43,42,41,40,39,38,37,9,8,36,35,31,34,33,32,7,30,29,28,27],[]⟩),(2,⟨[.t 53 tI,.row 2 tC],[10],[95,74,73,72,71,70,69,14,13,68,67,60,66,65,64,63,62,61,59,58,57,12,56,55,54,90,89,88,87,86,85,84,16,15,83,82,75,81,80,79,78,77,76,94,91,93,92],[]⟩)] [] [] [])]) (Wp:=λxs Q=>AD.wp xs.1 Q) AJ ZDW (AL Tryz.func75 (by kernel_rfl) (by kernel_rfl)) λxs Q=>by kernel_rfl λ⟨x0,_⟩hl hp=>AD.spec x0 hp
noncomputable def FK.con:AP:=⟨[.d tS],none,λx=>AO [tS,tI] (FK.fn x)⟩
theorem FK.ok:AQ prog 44 FK.con:=AT (A:=.mk [] [] [] [] []) (Wp:=λxs Q=>FK.wp xs.1 Q) AJ rI (AL Tryz.func44 (by kernel_rfl) (by kernel_rfl)) λxs Q=>by kernel_rfl λ⟨x0,_⟩hl hp=>FK.spec x0
theorem ZDl(x0:PS.den (.d tI))(x1:PS.den (.d tL))(x2:PS.den (.d tI))(x3:PS.den (.d tL))(Q:List Int×Int→Prop):BY.wp x0 x1 x2 x3 Q=XQ τ0 (walk τ0 κ0 φA) BY.A (C5 Tryz.f82) [.d tI,.d tL,.d tI,.d tL] (x0,x1,x2,x3,()) Q:=by kernel_rfl
theorem ZDk:P7 prog 82 ⟨[.d tI,.d tL,.d tI,.d tL],BY.pre,BY.fn⟩:=ZCX (A:=BY.A) AJ (Cw AJ QK De mixed) (AL Tryz.func82 (by kernel_rfl) (by kernel_rfl)) λ⟨x0,x1,x2,x3,_⟩hl hp=>Eq.mp (ZDl x0 x1 x2 x3 _) (BY.spec x0 x1 x2 x3 hp)
noncomputable def D0.κL:List (Nat×CX):=(82,.lin ⟨[.d tI,.d tL,.d tI,.d tL],BY.pre,BY.fn⟩)::Vr
noncomputable def D0.κ:A2:=λn=>B5 n D0.κL
theorem D0.κok:BK prog D0.κ:=TE (c:=.lin ⟨[.d tI,.d tL,.d tI,.d tL],BY.pre,BY.fn⟩) ZDk WY
noncomputable def D0.con:AP:=⟨[.d (.sl tC),.d (.sl tC),.d tI],some λx=>D0.pre x,λx=>AO [.sl (.sl tC),tI] (D0.fn x)⟩
theorem D0.ok:AQ prog 83 D0.con:=AT (A:=.mk [(1000,[.own 8 tI]),(1002,[.own 13 tC]),(1005,[.own 25 (.sl tC)]),(1009,[.own 25 (.sl tC)])] [(0,⟨[.t 41 tI,.row 0 tI],[8],[62,61,52,60,59,58,57,56,55,54,53,51,50,49,48,47,46,45,10,44,43,42],[]⟩),(2,⟨[.t 74 tI,.t 17 tI,.t 15 tI,.t 16 tI,.row 1 tI,.row 2 tC],[14,13],[136,85,84,20,83,82,81,80,79,78,19,77,76,75,130,126,71,129,128,127,122,125,124,123,119,116,118,117,114,111,105,102,101,115,113,112,110,109,108,107,106,104,103,22,100,99,98,97,96,95,94,93,92,91,90,21,89,88,87,86,135,134,131,133,132,121,120],[]⟩),(7,⟨[.t 174 tI,.row 7 tC],[27],[191,190,181,171,189,188,187,186,185,184,183,182,180,179,178,29,177,176,175],[]⟩),(5,⟨[.t 26 tI,.row 6 (.sl tC)],[25],[168,167,195,192,194,193,27,171,175,191,190,181,189,188,187,186,185,184,183,182,180,179,178,29,177,176,174,173,172,169,170,166,165,164],[]⟩),(13,⟨[.t 245 tI,.t 239 tL,.row 20 tC,.cell 18 0 (.sl tI),.cell 18 1 tI],[36],[256,255,249,242,254,253,252,251,250,38,248,247,246],[17]⟩),(11,⟨[.t 34 tI,.row 6 (.sl tC)],[25],[230,229,260,257,259,258,36,242,246,256,255,249,254,253,252,251,250,38,248,247,245,239,244,243,240,241,35,238,237,236,235,234,233,232,231,228,227,226],[]⟩),(9,⟨[.t 205 tI,.row 6 (.sl tC)],[],[261,221,220,219,218,217,216,215,214,213,212,211,210,209,32,208,207,206,228,227,226,230,229,260,257,259,258,36,242,246,256,255,249,254,253,252,251,250,38,248,247,245,239,244,243,240,241,35,238,237,236,235,234,233,232,231,34,33,225,224,223,222],[]⟩)] [] [] []) (Wp:=λxs Q=>D0.wp xs.1 xs.2.1 xs.2.2.1 Q) AJ (Cw AJ D0.κok De mixed) (AL Tryz.func83 (by kernel_rfl) (by kernel_rfl)) λxs Q=>by kernel_rfl λ⟨x0,x1,x2,_⟩hl hp=>D0.spec x0 x1 x2 hp
noncomputable def G7.con:AP:=⟨[.d tC],none,λx=>AO [.sl tC,tI] (G7.fn x)⟩
theorem G7.ok:AQ prog 129 G7.con:=AT (A:=.mk [(1000,[.own 4 tC])] [(0,⟨[.t 16 tI,.row 1 tC],[4],[47,46,43,45,44,39,38,37,36,35,34,33,30,32,31,26,28,27,9,8,7,25,24,23,20,22,21,6,19,18,17,40,42,41],[]⟩)] [] [] []) (Wp:=λxs Q=>G7.wp xs.1 Q) AJ rI (AL Tryz.func129 (by kernel_rfl) (by kernel_rfl)) λxs Q=>by kernel_rfl λ⟨x0,_⟩hl hp=>G7.spec x0
noncomputable def cY:List (Nat×CX):=(75,.con AD.con)::(44,.con FK.con)::(83,.con D0.con)::(129,.con G7.con)::Vr
theorem fV:BK prog λn=>B5 n cY:=AS AD.ok (AS FK.ok (AS D0.ok (AS G7.ok WY)))
noncomputable def κ8:A2:=λn=>B5 n cY
theorem yR:BK prog κ8:=fV
theorem Pm:Cy prog (walk τ0 κ8 φA):=Cw AJ yR De mixed
noncomputable def Ca.con:AP:=⟨[.d tS],none,λx=>AO [tS,tI] (Ca.fn x)⟩
theorem Ca.ok:AQ prog 40 Ca.con:=AT (A:=.mk [] [] [] [] [(13,.mk [] [] [] [] [(10,.mk [] [] [] [] [(5000,.mk [(1000,[.ownc 15 0 (.sl tC)])] [(0,⟨[.t 7 tI,.row 20 (.sl tC),.smap 16 .bool],[],[15,14,13,12,11,4,10,9,8],[]⟩)] [] [] [])])])]) (Wp:=λxs Q=>Ca.wp xs.1 Q) AJ Pm (AL Tryz.func40 (by kernel_rfl) (by kernel_rfl)) λxs Q=>by kernel_rfl λ⟨x0,_⟩hl hp=>Ca.spec x0
noncomputable def Dt.con:AP:=⟨[.d (.sl tC),.d tI,.d tI],some λx=>Dt.pre x,λx=>AO [.sl (.sl tC),tI] (Dt.fn x)⟩
theorem Dt.ok:AQ prog 41 Dt.con:=AT (A:=.mk [(10,[.nxt 60]),(2,[.frzl 2,.frzl 4,.frzl 5,.frzl 6])] [] [] [] [(41,.mk [] [] [] [] [(5000,.mk [(1000,[.ownc 62 0 (.sl tC)])] [(0,⟨[.t 8 tI,.row 67 (.sl tC),.smap 63 .bool],[],[16,15,14,13,12,4,11,10,9],[]⟩)] [] [] [(6,.mk [(4,[.frzl 3]),(1000,[.ownc 62 0 (.sl tC)]),(1002,[.ownc 62 0 (.sl tC)])] [(0,⟨[.t 40 tI,.row 70 (.sl tC),.smap 63 .bool],[],[54,53,52,51,50,49,48,47,46,45,44,43,9,42,41],[]⟩),(4,⟨[.t 74 tI,.row 70 (.sl tC),.smap 63 .bool],[],[98,97,96,95,94,93,92,91,90,89,88,87,86,85,84,13,83,82,81,80,79,78,77,12,76,75],[]⟩),(2,⟨[.t 58 tI,.row 70 (.sl tC),.smap 63 .bool],[],[99,72,71,70,69,68,67,66,65,64,63,62,11,61,60,59,75,98,97,96,95,94,93,92,91,90,89,88,87,86,85,84,13,83,82,81,80,79,78,77,12,76,74,73],[]⟩)] [] [] [(15,.mk [(1000,[.own 5 tI])] [(0,⟨[.t 17 tI,.row 68 tI],[5],[30,29,21,28,27,26,25,24,23,22,7,20,19,18],[]⟩),(2,⟨[.t 45 tI,.row 69 tI,.row 3 (.pair tC (.pair tI tL))],[8],[96,95,88,39,94,93,92,91,90,89,87,86,85,84,83,82,81,80,79,78,77,76,75,74,73,72,71,70,69,68,67,66,65,64,63,62,61,60,59,58,11,57,56,55,54,53,52,51,50,9,10,49,48,47,46],[]⟩)] [] [] [])])])]),(18,.mk [(1000,[.ownc 1 1 tC,.ownc 1 2 (.pair tC (.pair tI tL)),.ownc 1 4 (.pair tC (.pair tI tL)),.ownc 1 5 (.pair tC (.pair tI tL)),.ownc 1 6 (.pair tC (.pair tI tL))])] [(0,⟨[.t 18 tI,.cell 1 0 tI,.cell 1 3 tI,.row 2 tC,.row 3 (.pair tC (.pair tI tL)),.row 6 (.pair tC (.pair tI tL)),.row 4 (.pair tC (.pair tI tL)),.row 5 (.pair tC (.pair tI tL))],[],[122,52,51,43,50,49,48,33,29,47,46,45,44,42,41,40,11,39,38,37,36,35,34,10,32,31,30,28,27,26,25,24,23,22,9,21,20,19,121,120,117,94,87,86,83,80,79,76,119,118,56,55,116,96,95,93,92,91,90,89,88,85,84,82,81,78,77,75,74,73,72,71,70,69,68,67,63,66,65,64,12,54,53,106,105,102,104,103,101,97,100,99,98,115,114,111,113,112,110,107,109,108,62,61,58,60,59,57],[]⟩)] [] [] []),(35,.mk [] [(2,⟨[.t 21 tI],[],[33,32,31,30,29,28,27,26,25,6,24,23,22],[]⟩),(0,⟨[.t 14 tI],[],[34,22,33,32,31,30,29,28,27,26,25,6,24,23,21,20,19,18,4,17,16,15],[]⟩)] [] [] [])]) (Wp:=λxs Q=>Dt.wp xs.1 xs.2.1 xs.2.2.1 Q) AJ Pm (AL Tryz.func41 (by kernel_rfl) (by kernel_rfl)) λxs Q=>by kernel_rfl λ⟨x0,x1,x2,_⟩hl hp=>Dt.spec x0 x1 x2 hp
noncomputable def EO.con:AP:=⟨[.d (.sl tC),.d tI,.d tI],some λx=>EO.pre x,λx=>AO [.sl (.sl tC),tI] (EO.fn x)⟩
theorem EO.ok:AQ prog 45 EO.con:=AT (A:=.mk [(1000,[.own 8 tC,.own 11 tC,.own 9 tC,.own 10 tC])] [(0,⟨[.t 28 tI,.t 12 tI,.row 0 tC,.row 1 tC,.row 2 tC,.row 3 tC],[8,11,9,10],[95,57,46,56,55,54,53,52,51,50,49,48,47,43,45,44,15,38,37,36,35,34,33,13,14,32,31,30,29,79,78,77,76,75,74,73,72,71,70,69,68,67,66,65,64,63,62,58,61,60,59,87,84,86,85,80,83,82,81,94,91,93,92,88,90,89,42,39,41,40],[]⟩),(5,⟨[.t 135 tI,.t 16 .bool],[],[158,157,156,155,154,153,152,151,150,149,148,147,146,145,144,143,142,141,140,139,20,138,137,136],[]⟩),(3,⟨[.t 129 tI,.t 16 .bool],[],[159,136,158,157,156,155,154,153,152,151,150,149,148,147,146,145,144,143,142,141,140,139,20,138,137,135,134,133,18,132,131,130],[]⟩),(9,⟨[.t 170 tI,.row 0 tC],[21],[200,199,174,161,8,198,197,196,195,194,193,192,191,190,189,188,187,186,185,184,183,182,181,180,179,178,177,176,175,25,173,172,171],[]⟩),(7,⟨[.t 164 tI,.row 0 tC],[],[201,171,200,199,174,161,8,198,197,196,195,194,193,192,191,190,189,188,187,186,185,184,183,182,181,180,179,178,177,176,175,25,173,172,170,169,168,23,167,166,165],[]⟩)] [] [] []) (Wp:=λxs Q=>EO.wp xs.1 xs.2.1 xs.2.2.1 Q) AJ Pm (AL Tryz.func45 (by kernel_rfl) (by kernel_rfl)) λxs Q=>by kernel_rfl λ⟨x0,x1,x2,_⟩hl hp=>EO.spec x0 x1 x2 hp
noncomputable def Hh.con:AP:=⟨[.d (.sl tC),.d tI],none,λx=>AO [.sl tC,.bool,tI] (Hh.fn x)⟩
theorem Hh.ok:AQ prog 57 Hh.con:=AT (A:=.mk [] [] [] [] []) (Wp:=λxs Q=>Hh.wp xs.1 xs.2.1 Q) AJ Pm (AL Tryz.func57 (by kernel_rfl) (by kernel_rfl)) λxs Q=>by kernel_rfl λ⟨x0,x1,_⟩hl hp=>Hh.spec x0 x1
noncomputable def Fq.con:AP:=⟨[.d (.sl tC),.d (.sl tC)],some λx=>Fq.pre x,λx=>AO [.sl (.sl tC),tI] (Fq.fn x)⟩
theorem Fq.ok:AQ prog 96 Fq.con:=AT (A:=.mk [(1000,[.own 9 (.sl tC)])] [(2,⟨[.t 48 tI,.row 1 (.sl tC)],[9],[63,62,52,61,60,59,58,57,56,55,54,53,15,51,50,49],[]⟩),(0,⟨[.t 33 tI,.row 1 (.sl tC)],[],[64,49,63,62,52,61,60,59,58,57,56,55,54,53,15,51,50,48,47,46,44,43,13,12,42,41,38,40,39,10,11,37,36,35,34],[]⟩)] [] [] []) (Wp:=λxs Q=>Fq.wp xs.1 xs.2.1 Q) AJ Pm (AL Tryz.func96 (by kernel_rfl) (by kernel_rfl)) λxs Q=>by kernel_rfl λ⟨x0,x1,_⟩hl hp=>Fq.spec x0 x1 hp
noncomputable def H2.con:AP:=⟨[.d tS,.d tS],none,λx=>AO [tS,tI] (H2.fn x)⟩
theorem H2.ok:AQ prog 64 H2.con:=AT (A:=.mk [(1002,[.own 14 (.sl tC)])] [(6,⟨[.t 102 tI,.row 5 (.sl tC)],[14],[117,116,106,115,114,113,112,111,110,109,108,107,25,105,104,103],[]⟩),(4,⟨[.t 86 tI,.row 5 (.sl tC)],[],[118,103,117,116,106,115,114,113,112,111,110,109,108,107,25,105,104,102,101,100,97,96,23,22,95,94,91,93,92,20,21,90,89,88,87],[]⟩),(2,⟨[.t 63 tI,.row 5 (.sl tC)],[14],[119,83,80,82,81,79,76,75,19,18,17,74,73,72,67,71,70,69,68,16,66,65,64,87,118,103,117,116,106,115,114,113,112,111,110,109,108,107,25,105,104,102,101,100,97,96,23,22,95,94,91,93,92,20,21,90,89,88,86,85,84],[]⟩),(0,⟨[.t 57 tI,.t 11 (.sl (.sl tC))],[],[133,132,131,128,127,27,26,126,125,120,124,123,14,122,121,64,119,83,80,82,81,79,76,75,19,18,17,74,73,72,67,71,70,69,68,16,66,65,87,118,103,117,116,106,115,114,113,112,111,110,109,108,107,25,105,104,102,101,100,97,96,23,22,95,94,91,93,92,20,21,90,89,88,86,85,84,63,62,61,13,60,59,58],[]⟩)] [] [] []) (Wp:=λxs Q=>H2.wp xs.1 xs.2.1 Q) AJ Pm (AL Tryz.func64 (by kernel_rfl) (by kernel_rfl)) λxs Q=>by kernel_rfl λ⟨x0,x1,_⟩hl hp=>H2.spec x0 x1
noncomputable def Vs:List (Nat×CX):=(40,.con Ca.con)::(41,.con Dt.con)::(45,.con EO.con)::(57,.con Hh.con)::(96,.con Fq.con)::(64,.con H2.con)::cY
theorem WZ:BK prog λn=>B5 n Vs:=AS Ca.ok (AS Dt.ok (AS EO.ok (AS Hh.ok (AS Fq.ok (AS H2.ok fV)))))
noncomputable def κ9:A2:=λn=>B5 n Vs
theorem fK:BK prog κ9:=WZ
theorem VF:Cy prog (walk τ0 κ9 φA):=Cw AJ fK De mixed
noncomputable def DU.con:AP:=⟨[.d tS,.d tI],none,λx=>AO [tS,tI] (DU.fn x)⟩
theorem DU.ok:AQ prog 14 DU.con:=AT (A:=.mk [(1000,[.own 8 (.sl tC)])] [(0,⟨[.t 39 tI,.row 3 (.sl tC)],[8],[58,57,55,56,52,51,12,11,50,49,43,48,47,46,45,44,10,42,41,40],[]⟩)] [] [] [(62,.mk [] [] [] [] [(5000,.mk [(1000,[.ownc 6 0 (.sl tC)])] [(0,⟨[.t 7 tI,.row 11 (.sl tC),.smap 7 .bool],[],[15,14,13,12,11,4,10,9,8],[]⟩)] [] [] [])])]) (Wp:=λxs Q=>DU.wp xs.1 xs.2.1 Q) AJ VF (AL Tryz.func14 (by kernel_rfl) (by kernel_rfl)) λxs Q=>by kernel_rfl λ⟨x0,x1,_⟩hl hp=>DU.spec x0 x1
noncomputable def GZ.con:AP:=⟨[.d tS,.d tI],none,λx=>AO [tS,tI] (GZ.fn x)⟩
theorem GZ.ok:AQ prog 15 GZ.con:=AT (A:=.mk [(1000,[.own 8 (.sl tC)])] [(0,⟨[.t 38 tI,.row 3 (.sl tC)],[8],[57,56,54,55,51,50,12,11,49,48,42,47,46,45,44,43,10,41,40,39],[]⟩)] [] [] []) (Wp:=λxs Q=>GZ.wp xs.1 xs.2.1 Q) AJ VF (AL Tryz.func15 (by kernel_rfl) (by kernel_rfl)) λxs Q=>by kernel_rfl λ⟨x0,x1,_⟩hl hp=>GZ.spec x0 x1
def Bj.A:An:=.mk [] [(0,⟨[.t 28 tI],[],[46,43,42,41,40,39,11,10,38,37,32,36,35,34,33,9,31,30,29],[]⟩)] [] [] []
noncomputable def Bj.conN(N:Nat):AP:=⟨[.d (.sl tC),.d tI],some λx=>Bj.preN N x,λx=>AO [.bool,tI] (Bj.fn x)⟩
noncomputable def Bj.κs(N:Nat):A2:=λn=>B5 n ((48,.con (Bj.conN N))::Vs)
theorem Bj.walk(N:Nat)(x0:PS.den (.d (.sl tC)))(x1:PS.den (.d tI))(Q:Bq [.bool,tI]→Prop):Bj.wp N x0 x1 Q=Hq τ0 (walk τ0 (Bj.κs N) φA) Bj.A (C5 Tryz.f48) [.d (.sl tC),.d tI] [.bool,tI] (x0,x1,()) Q:=by kernel_rfl
theorem Bj.okN:∀N,AQ prog 48 (Bj.conN N)|0=>⟨(AL Tryz.func48 (by kernel_rfl) (by kernel_rfl)).call,λw S xs hS hp=>absurd (show Bj.preN 0 xs from hp) (Bj.none xs)⟩|N+1=>AT (Wp:=λxs Q=>Bj.wp N xs.1 xs.2.1 Q) AJ (Cw AJ (AS (Bj.okN N) WZ) De mixed) (AL Tryz.func48 (by kernel_rfl) (by kernel_rfl)) (λxs Q=>Bj.walk N xs.1 xs.2.1 Q) λ⟨x0,x1,_⟩hl hp=>Bj.spec N x0 x1 hp
noncomputable def Bj.con:AP:=⟨[.d (.sl tC),.d tI],some λx=>Bj.pre x,λx=>AO [.bool,tI] (Bj.fn x)⟩
theorem Bj.ok:AQ prog 48 Bj.con:=⟨(Bj.okN 0).1,λw S xs hS hp=>let⟨N,h⟩:=Bj.some_ xs hp;(Bj.okN N).2 w S xs hS h⟩
noncomputable def Gj.con:AP:=⟨[.d (.sl tC),.d tI],none,λx=>AO [tI,tI] (Gj.fn x)⟩
theorem Gj.ok:AQ prog 26 Gj.con:=AT (A:=.mk [] [] [] [] []) (Wp:=λxs Q=>Gj.wp xs.1 xs.2.1 Q) AJ VF (AL Tryz.func26 (by kernel_rfl) (by kernel_rfl)) λxs Q=>by kernel_rfl λ⟨x0,x1,_⟩hl hp=>Gj.spec x0 x1
noncomputable def Hg.con:AP:=⟨[.d tS,.d tS],none,λx=>AO [tS,tI] (Hg.fn x)⟩
theorem Hg.ok:AQ prog 63 Hg.con:=AT (A:=.mk [] [(0,⟨[.t 42 tI,.t 8 tI,.cell 3 0 tI,.cell 3 1 (.sl (.sl tC)),.cell 5 0 tI],[],[62,60,59,58,57,56,55,54,53,48,52,51,50,49,14,47,46,13,45,44,43],[]⟩)] [] [] [(52,.mk [] [] [] [] [(10,.mk [] [] [] [] [(5000,.mk [(1000,[.ownc 11 0 (.sl tC)])] [(2,⟨[.t 28 tI,.row 16 (.sl tC),.smap 12 .bool],[],[36,35,34,33,32,10,31,30,29],[]⟩),(0,⟨[.t 13 tI,.row 16 (.sl tC),.smap 12 .bool],[],[37,29,36,35,34,33,32,10,31,30,28,27,26,24,23,8,7,22,21,17,20,19,18,6,16,15,14],[]⟩)] [] [] [])])])]) (Wp:=λxs Q=>Hg.wp xs.1 xs.2.1 Q) AJ VF (AL Tryz.func63 (by kernel_rfl) (by kernel_rfl)) λxs Q=>by kernel_rfl λ⟨x0,x1,_⟩hl hp=>Hg.spec x0 x1
noncomputable def φR(N:Nat):Nat→Option FX:=λn=>C0 n ((85,.sp (.self (Jm 85 (LD N) Jn)))::P5)
def Hp.A:An:=.mk [] [(0,⟨[.t 44 tI,.smap 2 .bool],[],[62,60,61,56,58,57,17,16,55,54,48,53,23,52,51,50,49,15,47,46,45],[]⟩)] [] [] []
theorem Hp.walk(N:Nat)(x0:List O)(x1:Int)(x2:ByteArray→Option Bool)(Q:Bool×Int→(ByteArray→Option Bool)→Prop):Hp.wp N x0 x1 x2 Q=aM τ0 (walk τ0 κ9 (φR N)) Hp.A (C5 Tryz.f85) (Jm 85 (LD (N+1)) Jn) (x0,x1) x2 λr b=>Q r b:=by kernel_rfl
theorem Hp.okN:∀N,Sp.Ok prog 85 (.self (Jm 85 (LD N) Jn))|0=>⟨WE _ _ _,(AL Tryz.func85 (by kernel_rfl) (by kernel_rfl)).call,λE objs vs ks a b g hg hp=>absurd (show LD 0 a b from hp) (xA a b)⟩|N+1=>ZDi AJ (Cw AJ fK (Fw (f:=85) (x:=.sp (.self (Jm 85 (LD N) Jn))) (Hp.okN N) Sf) mixed) (AL Tryz.func85 (by kernel_rfl) (by kernel_rfl)) (WE _ _ _) λa b hp=>Eq.mp (Hp.walk N a.1 a.2 b _) (Hp.spec N a.1 a.2 b hp)
theorem Hp.ok:Sp.Ok prog 85 (.self (Jm 85 OZ Jn)):=⟨WE _ _ _,(Hp.okN 0).2.1,λE objs vs ks a b g hg hp cs rv=>let⟨N,h⟩:=xB a b hp;(Hp.okN N).2.2 E objs vs ks a b g hg h cs rv⟩
noncomputable def φE:Nat→Option FX:=λn=>C0 n ((85,.sp (.self (Jm 85 OZ Jn)))::P5)
theorem ZFL:∀g fx,φE g=some fx→fx.Ok prog g:=Fw (f:=85) (x:=.sp (.self (Jm 85 OZ Jn))) Hp.ok Sf
noncomputable def cQ:List (Nat×CX):=(14,.con DU.con)::(15,.con GZ.con)::(48,.con Bj.con)::(26,.con Gj.con)::(63,.con Hg.con)::Vs
theorem fN:BK prog λn=>B5 n cQ:=AS DU.ok (AS GZ.ok (AS Bj.ok (AS Gj.ok (AS Hg.ok WZ))))
noncomputable def cN:A2:=λn=>B5 n cQ
theorem fH:BK prog cN:=fN
theorem ZDU:Cy prog (walk τ0 cN φE):=Cw AJ fH ZFL mixed
theorem aB:Cy prog (walk τ0 cN φA):=Cw AJ fH De mixed
noncomputable def Aw.con:AP:=⟨[.d tS],none,λx=>AO [.bool,tI] (Aw.fn x)⟩
theorem Aw.ok:AQ prog 18 Aw.con:=AT (A:=.mk [] [(0,⟨[.t 26 tI,.smap 2 .bool],[],[44,42,41,40,39,38,10,9,37,36,30,35,34,33,32,31,8,29,28,27],[]⟩)] [] [] []) (Wp:=λxs Q=>Aw.wp xs.1 Q) AJ ZDU (AL Tryz.func18 (by kernel_rfl) (by kernel_rfl)) λxs Q=>by kernel_rfl λ⟨x0,_⟩hl hp=>Aw.spec x0
noncomputable def Do.con:AP:=⟨[.d tS],none,λx=>AO [.bool,tI] (Do.fn x)⟩
theorem Do.ok:AQ prog 19 Do.con:=AT (A:=.mk [] [(0,⟨[.t 24 tI],[],[41,39,38,37,36,35,9,8,34,33,28,32,31,30,29,7,27,26,25],[]⟩)] [] [] []) (Wp:=λxs Q=>Do.wp xs.1 Q) AJ aB (AL Tryz.func19 (by kernel_rfl) (by kernel_rfl)) λxs Q=>by kernel_rfl λ⟨x0,_⟩hl hp=>Do.spec x0
noncomputable def Ft.con:AP:=⟨[.d tS,.d (.sl tI)],none,λx=>AO [tS,tI] (Ft.fn x)⟩
theorem Ft.ok:AQ prog 28 Ft.con:=AT (A:=.mk [(1002,[.ownc 3 1 (.sl tC)])] [(0,⟨[.t 20 tI,.row 2 .bool],[],[40,39,38,36,35,34,33,32,31,30,29,28,27,26,25,24,8,23,22,21],[]⟩),(2,⟨[.t 47 tI,.cell 3 0 tI,.row 4 (.sl tC)],[],[58,57,56,52,55,54,53,51,11,50,49,48],[]⟩),(4,⟨[.t 12 tI,.cell 3 0 tI,.cell 3 1 (.sl (.sl tC))],[],[65,64,76,75,13,74,73,69,72,70,71,68,67,66,63,62],[4]⟩)] [] [] []) (Wp:=λxs Q=>Ft.wp xs.1 xs.2.1 Q) AJ aB (AL Tryz.func28 (by kernel_rfl) (by kernel_rfl)) λxs Q=>by kernel_rfl λ⟨x0,x1,_⟩hl hp=>Ft.spec x0 x1 hl.2.1.1
noncomputable def G5.con:AP:=⟨[.d tS,.d (.sl tI)],none,λx=>AO [tS,tI] (G5.fn x)⟩
theorem G5.ok:AQ prog 30 G5.con:=AT (A:=.mk [] [(0,⟨[.t 20 tI,.row 2 .bool],[],[42,41,40,39,37,36,35,34,33,32,31,30,29,28,27,26,25,24,8,23,22,21],[]⟩),(2,⟨[.t 10 tI,.t 9 tI,.cell 0 0 tI,.cell 0 1 (.sl (.sl tC))],[],[49,48,63,62,58,61,60,59,57,56,55,54,53,52,51,50,47,46],[]⟩)] [] [] []) (Wp:=λxs Q=>G5.wp xs.1 xs.2.1 Q) AJ aB (AL Tryz.func30 (by kernel_rfl) (by kernel_rfl)) λxs Q=>by kernel_rfl λ⟨x0,x1,_⟩hl hp=>G5.spec x0 x1 hl.2.1.1
noncomputable def cR:List (Nat×CX):=(18,.con Aw.con)::(19,.con Do.con)::(28,.con Ft.con)::(30,.con G5.con)::cQ
theorem fO:BK prog λn=>B5 n cR:=AS Aw.ok (AS Do.ok (AS Ft.ok (AS G5.ok fN)))
noncomputable def vB:A2:=λn=>B5 n cR
theorem yL:BK prog vB:=fO
theorem Rz:Cy prog (walk τ0 vB φA):=Cw AJ yL De mixed
noncomputable def BF.con:AP:=⟨[],none,λx=>AO [.bool] (BF.fn x)⟩
theorem BF.ok:AQ prog 13 BF.con:=AT (A:=.mk [] [] [] [] []) (Wp:=λxs Q=>BF.wp Q) AJ Rz (AL Tryz.func13 (by kernel_rfl) (by kernel_rfl)) λxs Q=>by kernel_rfl λ()hl hp=>by first|exact BF.spec|exact BF.spec hp|exact BF.spec hl.1|exact BF.spec hl.1 hp|exact BF.spec hl.1.1|exact BF.spec hl.1.1 hp|exact BF.spec hl.1.1.1|exact BF.spec hl.1.1.1 hp|exact BF.spec hl.1.2.1|exact BF.spec hl.1.2.1 hp|exact BF.spec hl.2.1|exact BF.spec hl.2.1 hp|exact BF.spec hl.2.1.1|exact BF.spec hl.2.1.1 hp|exact BF.spec hl.2.1.1.1|exact BF.spec hl.2.1.1.1 hp|exact BF.spec hl.2.2.1.1 λs hs=>(hl.2.2.1.2 s hs).2.1|exact BF.spec hl.2.2.2.1.1 λs hs=>⟨(hl.2.2.2.1.2 s hs).2.1,λp hp=>⟨((hl.2.2.2.1.2 s hs).2.2 p hp).1,λc hc=>(((hl.2.2.2.1.2 s hs).2.2 p hp).2 c hc).2.2.1.1⟩⟩
noncomputable def Gi.con:AP:=⟨[.d tS,.d tI],none,λx=>AO [tS,tI] (Gi.fn x)⟩
theorem Gi.ok:AQ prog 31 Gi.con:=AT (A:=.mk [(1000,[.own 6 tI])] [(0,⟨[.t 7 tI,.row 2 tI],[6],[27,26,31,28,30,29,25,24,23,22],[]⟩)] [] [] []) (Wp:=λxs Q=>Gi.wp xs.1 xs.2.1 Q) AJ Rz (AL Tryz.func31 (by kernel_rfl) (by kernel_rfl)) λxs Q=>by kernel_rfl λ⟨x0,x1,_⟩hl hp=>Gi.spec x0 x1
noncomputable def Ia.con:AP:=⟨[.d tS,.d tI],none,λx=>AO [tS,tI] (Ia.fn x)⟩
theorem Ia.ok:AQ prog 32 Ia.con:=AT (A:=.mk [(1000,[.own 6 tI])] [(0,⟨[.t 7 tI,.row 2 tI],[6],[27,26,31,28,30,29,25,24,23,22],[]⟩)] [] [] []) (Wp:=λxs Q=>Ia.wp xs.1 xs.2.1 Q) AJ Rz (AL Tryz.func32 (by kernel_rfl) (by kernel_rfl)) λxs Q=>by kernel_rfl λ⟨x0,x1,_⟩hl hp=>Ia.spec x0 x1
noncomputable def EQ.con:AP:=⟨[.d tS,.d tS],none,λx=>AO [.bool,tI] (EQ.fn x)⟩
theorem EQ.ok:AQ prog 33 EQ.con:=AT (A:=.mk [] [] [] [] []) (Wp:=λxs Q=>EQ.wp xs.1 xs.2.1 Q) AJ Rz (AL Tryz.func33 (by kernel_rfl) (by kernel_rfl)) λxs Q=>by kernel_rfl λ⟨x0,x1,_⟩hl hp=>EQ.spec x0 x1
noncomputable def Ga.con:AP:=⟨[.d tS,.d tS],none,λx=>AO [.bool,tI] (Ga.fn x)⟩
theorem Ga.ok:AQ prog 34 Ga.con:=AT (A:=.mk [] [] [] [] []) (Wp:=λxs Q=>Ga.wp xs.1 xs.2.1 Q) AJ Rz (AL Tryz.func34 (by kernel_rfl) (by kernel_rfl)) λxs Q=>by kernel_rfl λ⟨x0,x1,_⟩hl hp=>Ga.spec x0 x1
noncomputable def cS:List (Nat×CX):=(13,.con BF.con)::(31,.con Gi.con)::(32,.con Ia.con)::(33,.con EQ.con)::(34,.con Ga.con)::cR
theorem fP:BK prog λn=>B5 n cS:=AS BF.ok (AS Gi.ok (AS Ia.ok (AS EQ.ok (AS Ga.ok fO))))
noncomputable def vC:A2:=λn=>B5 n cS
theorem yM:BK prog vC:=fP
theorem rH:Cy prog (walk τ0 vC φA):=Cw AJ yM De mixed
noncomputable def F9.con:AP:=⟨[.d tS,.d tS],none,λx=>AO [.bool,tI] (F9.fn x)⟩
theorem F9.ok:AQ prog 35 F9.con:=AT (A:=.mk [] [] [] [] []) (Wp:=λxs Q=>F9.wp xs.1 xs.2.1 Q) AJ rH (AL Tryz.func35 (by kernel_rfl) (by kernel_rfl)) λxs Q=>by kernel_rfl λ⟨x0,x1,_⟩hl hp=>F9.spec x0 x1
noncomputable def He.con:AP:=⟨[.d tS,.d tS],none,λx=>AO [.bool,tI] (He.fn x)⟩
theorem He.ok:AQ prog 36 He.con:=AT (A:=.mk [] [] [] [] []) (Wp:=λxs Q=>He.wp xs.1 xs.2.1 Q) AJ rH (AL Tryz.func36 (by kernel_rfl) (by kernel_rfl)) λxs Q=>by kernel_rfl λ⟨x0,x1,_⟩hl hp=>He.spec x0 x1
noncomputable def vD:List (Nat×CX):=(35,.con F9.con)::(36,.con He.con)::cS
theorem yS:BK prog λn=>B5 n vD:=AS F9.ok (AS He.ok fP)
noncomputable def K8:A2:=λn=>B5 n vD
theorem LI:BK prog K8:=yS
def law05_ElimShadows.A:An:=.mk [] [] [] [] []
theorem law05_ElimShadows.walk(x0:PS.den (.d tS))(x1:PS.den (.d tI))(Q:Bq [.bool]→Prop):law05_ElimShadows.wp x0 x1 Q=Hq τ0 (walk τ0 K8 φA) law05_ElimShadows.A (C5 Tryz.f3) [.d tS,.d tI] [.bool] (x0,x1,()) Q:=by kernel_rfl
theorem law05_ElimShadows.calls(x0:PS.den (.d tS))(x1:PS.den (.d tI)){W:World}(hS:FN prog W (Hl W)){args:Array Value}(hr:AZ prog (Ip W) (DR [.d tS,.d tI] (x0,x1,())) args.toList):Calls prog 3 args W λe w'=>e=.returned (.bool true)∧RowKit.Below W.heap.size W w':=Lk AJ (Cw AJ LI De mixed) (AL Tryz.func3 (by kernel_rfl) (by kernel_rfl)) (law05_ElimShadows.walk x0 x1 _) (law05_ElimShadows.spec x0 x1) hS hr
def law05_ElimEmpty.A:An:=.mk [] [] [] [] []
theorem law05_ElimEmpty.walk(x0:PS.den (.d tS))(Q:Bq [.bool]→Prop):law05_ElimEmpty.wp x0 Q=Hq τ0 (walk τ0 K8 φA) law05_ElimEmpty.A (C5 Tryz.f4) [.d tS] [.bool] (x0,()) Q:=by kernel_rfl
theorem law05_ElimEmpty.calls(x0:PS.den (.d tS)){W:World}(hS:FN prog W (Hl W)){args:Array Value}(hr:AZ prog (Ip W) (DR [.d tS] (x0,())) args.toList):Calls prog 4 args W λe w'=>e=.returned (.bool true)∧RowKit.Below W.heap.size W w':=Lk AJ (Cw AJ LI De mixed) (AL Tryz.func4 (by kernel_rfl) (by kernel_rfl)) (law05_ElimEmpty.walk x0 _) (law05_ElimEmpty.spec x0) hS hr
def law05_ElimPicks.A:An:=.mk [] [] [] [] []
theorem law05_ElimPicks.walk(x0:PS.den (.d (.sl tC)))(x1:PS.den (.d tI))(Q:Bq [.bool]→Prop):law05_ElimPicks.wp x0 x1 Q=Hq τ0 (walk τ0 K8 φA) law05_ElimPicks.A (C5 Tryz.f7) [.d (.sl tC),.d tI] [.bool] (x0,x1,()) Q:=by kernel_rfl
theorem law05_ElimPicks.calls(x0:PS.den (.d (.sl tC)))(x1:PS.den (.d tI)){W:World}(hS:FN prog W (Hl W)){args:Array Value}(hr:AZ prog (Ip W) (DR [.d (.sl tC),.d tI] (x0,x1,())) args.toList):Calls prog 7 args W λe w'=>e=.returned (.bool true)∧RowKit.Below W.heap.size W w':=Lk AJ (Cw AJ LI De mixed) (AL Tryz.func7 (by kernel_rfl) (by kernel_rfl)) (law05_ElimPicks.walk x0 x1 _) (law05_ElimPicks.spec x0 x1) hS hr
def law05_ElimMany.A:An:=.mk [] [] [] [] []
theorem law05_ElimMany.walk(x0:PS.den (.d tS))(x1:PS.den (.d (.sl tI)))(x2:PS.den (.d tI))(Q:Bq [.bool]→Prop):law05_ElimMany.wp x0 x1 x2 Q=Hq τ0 (walk τ0 K8 φA) law05_ElimMany.A (C5 Tryz.f9) [.d tS,.d (.sl tI),.d tI] [.bool] (x0,x1,x2,()) Q:=by kernel_rfl
theorem law05_ElimMany.calls(x0:PS.den (.d tS))(x1:PS.den (.d (.sl tI)))(x2:PS.den (.d tI)){W:World}(hS:FN prog W (Hl W)){args:Array Value}(hr:AZ prog (Ip W) (DR [.d tS,.d (.sl tI),.d tI] (x0,x1,x2,())) args.toList):Calls prog 9 args W λe w'=>e=.returned (.bool true)∧RowKit.Below W.heap.size W w':=Lk AJ (Cw AJ LI De mixed) (AL Tryz.func9 (by kernel_rfl) (by kernel_rfl)) (law05_ElimMany.walk x0 x1 x2 _) (law05_ElimMany.spec x0 x1 x2) hS hr
def law05_ElimWithin.A:An:=.mk [] [] [] [] []
theorem law05_ElimWithin.walk(x0:PS.den (.d tS))(x1:PS.den (.d tS))(Q:Bq [.bool]→Prop):law05_ElimWithin.wp x0 x1 Q=Hq τ0 (walk τ0 K8 φA) law05_ElimWithin.A (C5 Tryz.f10) [.d tS,.d tS] [.bool] (x0,x1,()) Q:=by kernel_rfl
theorem law05_ElimWithin.calls(x0:PS.den (.d tS))(x1:PS.den (.d tS)){W:World}(hS:FN prog W (Hl W)){args:Array Value}(hr:AZ prog (Ip W) (DR [.d tS,.d tS] (x0,x1,())) args.toList):Calls prog 10 args W λe w'=>e=.returned (.bool true)∧RowKit.Below W.heap.size W w':=Lk AJ (Cw AJ LI De mixed) (AL Tryz.func10 (by kernel_rfl) (by kernel_rfl)) (law05_ElimWithin.walk x0 x1 _) (law05_ElimWithin.spec x0 x1) hS hr
def law05_ElimOrder.A:An:=.mk [] [] [] [] []
theorem law05_ElimOrder.walk(x0:PS.den (.d tS))(x1:PS.den (.d tI))(x2:PS.den (.d tI))(x3:PS.den (.d (.sl tI)))(Q:Bq [.bool]→Prop):law05_ElimOrder.wp x0 x1 x2 x3 Q=Hq τ0 (walk τ0 K8 φA) law05_ElimOrder.A (C5 Tryz.f8) [.d tS,.d tI,.d tI,.d (.sl tI)] [.bool] (x0,x1,x2,x3,()) Q:=by kernel_rfl
theorem law05_ElimOrder.calls(x0:PS.den (.d tS))(x1:PS.den (.d tI))(x2:PS.den (.d tI))(x3:PS.den (.d (.sl tI))){W:World}(hS:FN prog W (Hl W)){args:Array Value}(hr:AZ prog (Ip W) (DR [.d tS,.d tI,.d tI,.d (.sl tI)] (x0,x1,x2,x3,())) args.toList):Calls prog 8 args W λe w'=>e=.returned (.bool true)∧RowKit.Below W.heap.size W w':=Lk AJ (Cw AJ LI De mixed) (AL Tryz.func8 (by kernel_rfl) (by kernel_rfl)) (law05_ElimOrder.walk x0 x1 x2 x3 _) (law05_ElimOrder.spec x0 x1 x2 x3) hS hr
def law05_ElimInside.A:An:=.mk [] [] [] [] []
theorem law05_ElimInside.walk(x0:PS.den (.d tS))(x1:PS.den (.d tS))(x2:PS.den (.d (.sl tI)))(Q:Bq [.bool]→Prop):law05_ElimInside.wp x0 x1 x2 Q=Hq τ0 (walk τ0 K8 φA) law05_ElimInside.A (C5 Tryz.f11) [.d tS,.d tS,.d (.sl tI)] [.bool] (x0,x1,x2,()) Q:=by kernel_rfl
theorem law05_ElimInside.calls(x0:PS.den (.d tS))(x1:PS.den (.d tS))(x2:PS.den (.d (.sl tI))){W:World}(hS:FN prog W (Hl W)){args:Array Value}(hr:AZ prog (Ip W) (DR [.d tS,.d tS,.d (.sl tI)] (x0,x1,x2,())) args.toList):Calls prog 11 args W λe w'=>e=.returned (.bool true)∧RowKit.Below W.heap.size W w':=Lk AJ (Cw AJ LI De mixed) (AL Tryz.func11 (by kernel_rfl) (by kernel_rfl)) (law05_ElimInside.walk x0 x1 x2 _) (law05_ElimInside.spec x0 x1 x2) hS hr
def law05_ElimPoints.A:An:=.mk [] [(0,⟨[.t 44 tI,.t 9 .bool],[],[63,62,61,60,59,57,56,13,12,55,54,48,53,52,51,50,49,11,47,46,45],[]⟩)] [] [] []
theorem law05_ElimPoints.walk(x0:PS.den (.d tS))(x1:PS.den (.d tI))(x2:PS.den (.d (.sl tI)))(Q:Bq [.bool]→Prop):law05_ElimPoints.wp x0 x1 x2 Q=Hq τ0 (walk τ0 K8 φA) law05_ElimPoints.A (C5 Tryz.f5) [.d tS,.d tI,.d (.sl tI)] [.bool] (x0,x1,x2,()) Q:=by kernel_rfl
theorem law05_ElimPoints.calls(x0:PS.den (.d tS))(x1:PS.den (.d tI))(x2:PS.den (.d (.sl tI))){W:World}(hS:FN prog W (Hl W)){args:Array Value}(hr:AZ prog (Ip W) (DR [.d tS,.d tI,.d (.sl tI)] (x0,x1,x2,())) args.toList):Calls prog 5 args W λe w'=>e=.returned (.bool true)∧RowKit.Below W.heap.size W w':=Lk AJ (Cw AJ LI De mixed) (AL Tryz.func5 (by kernel_rfl) (by kernel_rfl)) (law05_ElimPoints.walk x0 x1 x2 _) (law05_ElimPoints.spec x0 x1 x2) hS hr
def law05_ElimNone.A:An:=.mk [] [(0,⟨[.t 23 tI,.t 3 .bool],[],[42,41,40,39,38,37,35,34,7,6,33,32,27,31,30,29,28,5,26,25,24],[]⟩)] [] [] []
theorem law05_ElimNone.walk(x0:PS.den (.d tS))(Q:Bq [.bool]→Prop):law05_ElimNone.wp x0 Q=Hq τ0 (walk τ0 K8 φA) law05_ElimNone.A (C5 Tryz.f6) [.d tS] [.bool] (x0,()) Q:=by kernel_rfl
theorem law05_ElimNone.calls(x0:PS.den (.d tS)){W:World}(hS:FN prog W (Hl W)){args:Array Value}(hr:AZ prog (Ip W) (DR [.d tS] (x0,())) args.toList):Calls prog 6 args W λe w'=>e=.returned (.bool true)∧RowKit.Below W.heap.size W w':=Lk AJ (Cw AJ LI De mixed) (AL Tryz.func6 (by kernel_rfl) (by kernel_rfl)) (law05_ElimNone.walk x0 _) (law05_ElimNone.spec x0) hS hr
end Go.Proofs.YtgpdnmfpgkkgcaaGreatDoor
