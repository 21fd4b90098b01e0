/- Part of a proof that a law of the program holds for every input: printed by a program of this work: how the functions are walked. No conditions. -/
import Derived.Test.YtldikbpclaeajaaGreatDoorP12
namespace Go.Proofs.YtldikbpclaeajaaGreatDoor
open Go
set_option linter.unusedSimpArgs false
set_option linter.unusedVariables false
set_option maxRecDepth 8000
set_option maxHeartbeats 4000000
abbrev tI:Ty:=.int .i64
abbrev tC:Ty:=.pair (.int .i64) (.pair (.int .i64) (.pair (.sl (.int .i64)) (.int .i64)))
abbrev tS:Ty:=.pair (.int .i64) (.sl (.sl tC))
abbrev tL:Ty:=.pair (.sl (.int .i64)) (.int .i64)
noncomputable def fD:List (Nat×FX):=[]
theorem wN:∀g fx,(λn=>CO n fD) g=some fx→fx.Ok prog g:=lC
noncomputable def fE:List (Nat×FX):=(97,.fi (Ck Tryz.f97))::fD
theorem wO:∀g fx,(λn=>CO n fE) g=some fx→fx.Ok prog g:=GM (AK Tryz.func97 (by kernel_rfl) (by kernel_rfl)) wN
noncomputable def fH:List (Nat×FX):=(100,.fi (Ck Tryz.f100))::fE
theorem wR:∀g fx,(λn=>CO n fH) g=some fx→fx.Ok prog g:=GM (AK Tryz.func100 (by kernel_rfl) (by kernel_rfl)) wO
noncomputable def fI:List (Nat×FX):=(83,.fi (Ck Tryz.f83))::fH
theorem wS:∀g fx,(λn=>CO n fI) g=some fx→fx.Ok prog g:=GM (AK Tryz.func83 (by kernel_rfl) (by kernel_rfl)) wR
noncomputable def fJ:List (Nat×FX):=(45,.fi (Ck Tryz.f45))::fI
theorem wT:∀g fx,(λn=>CO n fJ) g=some fx→fx.Ok prog g:=GM (AK Tryz.func45 (by kernel_rfl) (by kernel_rfl)) wS
noncomputable def fK:List (Nat×FX):=(84,.fi (Ck Tryz.f84))::fJ
theorem wU:∀g fx,(λn=>CO n fK) g=some fx→fx.Ok prog g:=GM (AK Tryz.func84 (by kernel_rfl) (by kernel_rfl)) wT
noncomputable def fL:List (Nat×FX):=(105,.fi (Ck Tryz.f105))::fK
theorem wV:∀g fx,(λn=>CO n fL) g=some fx→fx.Ok prog g:=GM (AK Tryz.func105 (by kernel_rfl) (by kernel_rfl)) wU
noncomputable def fM:List (Nat×FX):=(49,.fi (Ck Tryz.f49))::fL
theorem wW:∀g fx,(λn=>CO n fM) g=some fx→fx.Ok prog g:=GM (AK Tryz.func49 (by kernel_rfl) (by kernel_rfl)) wV
noncomputable def fN:List (Nat×FX):=(104,.fi (Ck Tryz.f104))::fM
theorem wX:∀g fx,(λn=>CO n fN) g=some fx→fx.Ok prog g:=GM (AK Tryz.func104 (by kernel_rfl) (by kernel_rfl)) wW
noncomputable def fO:List (Nat×FX):=(63,.fi (Ck Tryz.f63))::fN
theorem wY:∀g fx,(λn=>CO n fO) g=some fx→fx.Ok prog g:=GM (AK Tryz.func63 (by kernel_rfl) (by kernel_rfl)) wX
noncomputable def fF:List (Nat×FX):=(106,.fi (Ck Tryz.f106))::fO
theorem wP:∀g fx,(λn=>CO n fF) g=some fx→fx.Ok prog g:=GM (AK Tryz.func106 (by kernel_rfl) (by kernel_rfl)) wY
noncomputable def fG:List (Nat×FX):=(67,.fi (Ck Tryz.f67))::fF
theorem wQ:∀g fx,(λn=>CO n fG) g=some fx→fx.Ok prog g:=GM (AK Tryz.func67 (by kernel_rfl) (by kernel_rfl)) wP
noncomputable def RM:List (Nat×FX):=(31,.fi (Ck Tryz.f31))::fG
theorem V5:∀g fx,(λn=>CO n RM) g=some fx→fx.Ok prog g:=GM (AK Tryz.func31 (by kernel_rfl) (by kernel_rfl)) wQ
noncomputable def φA:Nat→Option FX:=λn=>CO n RM
theorem C5:∀g fx,φA g=some fx→fx.Ok prog g:=V5
noncomputable def φC:Nat→Option FX:=λn=>CO n ((133,.sp .appInt)::RM)
theorem fC:∀g fx,φC g=some fx→fx.Ok prog g:=GM gF V5
noncomputable def Vt:List (Nat×CX):=κR
theorem Wv:A3 prog λn=>Bp n Vt:=iO
noncomputable def κ0:Ar:=λn=>Bp n Vt
theorem M3:A3 prog κ0:=Wv
theorem sY:CM prog (walk τw κ0 φA):=CY dA M3 C5 mixed
theorem B5:CM prog (walk τ0 κ0 φA):=CY AI M3 C5 mixed
theorem sX:CM prog (walk τ0 κ0 φC):=CY AI M3 fC mixed
theorem sZ:CM prog (walk τz κ0 φA):=CY dB M3 C5 mixed
noncomputable def BK.con:AM:=⟨[.d tI,.d tI,.d (.sl tS)],none,λx=>AL [.bool] (BK.fn x)⟩
theorem BK.ok:AN prog 13 BK.con:=AQ (A:=.mk [] [(2,⟨[.t 26 tI],[],[34,33,32,31,30,11,29,28,27],[]⟩),(0,⟨[.t 14 tI,.t 7 tI],[],[35,27,34,33,32,31,30,11,29,28,26,25,24,23,22,21,20,19,18,9,17,16,15],[]⟩)] [] [] []) (Wp:=λxs Q=>BK.wp xs.1 xs.2.1 xs.2.2.1 Q) dA sY (AK Tryz.func13 (by kernel_rfl) (by kernel_rfl)) λxs Q=>by kernel_rfl λ⟨x0,x1,x2,_⟩hl hp=>by first|exact BK.spec x0 x1 x2|exact BK.spec x0 x1 x2 hp|exact BK.spec x0 x1 x2 hl.1|exact BK.spec x0 x1 x2 hl.1 hp|exact BK.spec x0 x1 x2 hl.1.1|exact BK.spec x0 x1 x2 hl.1.1 hp|exact BK.spec x0 x1 x2 hl.1.1.1|exact BK.spec x0 x1 x2 hl.1.1.1 hp|exact BK.spec x0 x1 x2 hl.1.2.1|exact BK.spec x0 x1 x2 hl.1.2.1 hp|exact BK.spec x0 x1 x2 hl.2.1|exact BK.spec x0 x1 x2 hl.2.1 hp|exact BK.spec x0 x1 x2 hl.2.1.1|exact BK.spec x0 x1 x2 hl.2.1.1 hp|exact BK.spec x0 x1 x2 hl.2.1.1.1|exact BK.spec x0 x1 x2 hl.2.1.1.1 hp|exact BK.spec x0 x1 x2 hl.2.2.1.1 λs hs=>(hl.2.2.1.2 s hs).2.1|exact BK.spec x0 x1 x2 hl.2.2.2.1.1 λs hs=>⟨(hl.2.2.2.1.2 s hs).2.1,λp hp=>⟨((hl.2.2.2.1.2 s hs).2.2 p hp).1,λc hc=>(((hl.2.2.2.1.2 s hs).2.2 p hp).2 c hc).2.2.1.1⟩⟩
noncomputable def Bk.con:AM:=⟨[.d tI],none,λx=>AL [.bool] (Bk.fn x)⟩
theorem Bk.ok:AN prog 121 Bk.con:=AQ (A:=.mk [] [] [] [] []) (Wp:=λxs Q=>Bk.wp xs.1 Q) AI B5 (AK Tryz.func121 (by kernel_rfl) (by kernel_rfl)) λxs Q=>by kernel_rfl λ⟨x0,_⟩hl hp=>Bk.spec x0
noncomputable def Ep.con:AM:=⟨[.d (.sl tC),.f [tC] [.bool]],some λx=>Ep.pre x,λx=>AL [tI] (Ep.fn x)⟩
theorem Ep.ok:AN prog 91 Ep.con:=AQ (A:=.mk [] [(0,⟨[.t 8 tI],[],[18,16,15,14,13,12,11,5,10,9],[]⟩)] [] [] []) (Wp:=λxs Q=>Ep.wp xs.1 xs.2.1 Q) AI B5 (AK Tryz.func91 (by kernel_rfl) (by kernel_rfl)) λxs Q=>by kernel_rfl λ⟨x0,x1,_⟩hl hp=>Ep.spec x0 x1 hl.1.1 hp
noncomputable def Eh.con:AM:=⟨[.d (.sl tI),.d (.int .u64),.f [.int .u64,tI] [.int .u64]],some λx=>Eh.pre x,λx=>AL [.int .u64] (Eh.fn x)⟩
theorem Eh.ok:AN prog 167 Eh.con:=AQ (A:=.mk [] [(0,⟨[.t 11 tI,.t 1 (.int .u64)],[],[19,18,17,16,15,8,14,13,12],[]⟩)] [] [] []) (Wp:=λxs Q=>Eh.wp xs.1 xs.2.1 xs.2.2.1 Q) AI B5 (AK Tryz.func167 (by kernel_rfl) (by kernel_rfl)) λxs Q=>by kernel_rfl λ⟨x0,x1,x2,_⟩hl hp=>Eh.spec x0 x1 x2 hl.1.1 hp
noncomputable def Dy.con:AM:=⟨[.d (.int .u64),.d (.int .u64)],none,λx=>AL [.int .u64] (Dy.fn x)⟩
theorem Dy.ok:AN prog 169 Dy.con:=AQ (A:=.mk [] [(0,⟨[.t 1 (.int .u64),.t 0 (.int .u64)],[],[10,9,8,7,6,5],[]⟩)] [] [] []) (Wp:=λxs Q=>Dy.wp xs.1 xs.2.1 Q) AI B5 (AK Tryz.func169 (by kernel_rfl) (by kernel_rfl)) λxs Q=>by kernel_rfl λ⟨x0,x1,_⟩hl hp=>Dy.spec x0 x1
noncomputable def Dg.con:AM:=⟨[.d tI],none,λx=>AL [.int .u64] (Dg.fn x)⟩
theorem Dg.ok:AN prog 170 Dg.con:=AQ (A:=.mk [] [] [] [] []) (Wp:=λxs Q=>Dg.wp xs.1 Q) AI B5 (AK Tryz.func170 (by kernel_rfl) (by kernel_rfl)) λxs Q=>by kernel_rfl λ⟨x0,_⟩hl hp=>Dg.spec x0
noncomputable def DY.con:AM:=⟨[.d .bool],none,λx=>AL [tC,tI] (DY.fn x)⟩
theorem DY.ok:AN prog 156 DY.con:=AQ (A:=.mk [] [] [] [] []) (Wp:=λxs Q=>DY.wp xs.1 Q) AI B5 (AK Tryz.func156 (by kernel_rfl) (by kernel_rfl)) λxs Q=>by kernel_rfl λ⟨x0,_⟩hl hp=>DY.spec x0
noncomputable def C0.con:AM:=⟨[.d tI,.d tI],some λx=>C0.pre x,λx=>AL [tI,tI] (C0.fn x)⟩
theorem C0.ok:AN prog 157 C0.con:=AQ (A:=.mk [] [] [] [] []) (Wp:=λxs Q=>C0.wp xs.1 xs.2.1 Q) AI B5 (AK Tryz.func157 (by kernel_rfl) (by kernel_rfl)) λxs Q=>by kernel_rfl λ⟨x0,x1,_⟩hl hp=>C0.spec x0 x1 hp
noncomputable def CN.con:AM:=⟨[.d tC,.d tI],some λx=>CN.pre x,λx=>AL [.sl tI] (CN.fn x)⟩
theorem CN.ok:AN prog 158 CN.con:=AQ (A:=.mk [] [(0,⟨[.t 19 tI,.row 1 tI],[],[30,29,28,27,26,25,24,7,6,23,22,21,20],[]⟩)] [] [] []) (Wp:=λxs Q=>CN.wp xs.1 xs.2.1 Q) AI B5 (AK Tryz.func158 (by kernel_rfl) (by kernel_rfl)) λxs Q=>by kernel_rfl λ⟨x0,x1,_⟩hl hp=>CN.spec x0 x1 hp
noncomputable def CV.con:AM:=⟨[.d tI,.d tI],some λx=>CV.pre x,λx=>AL [tI,tI] (CV.fn x)⟩
theorem CV.ok:AN prog 159 CV.con:=AQ (A:=.mk [] [] [] [] []) (Wp:=λxs Q=>CV.wp xs.1 xs.2.1 Q) AI B5 (AK Tryz.func159 (by kernel_rfl) (by kernel_rfl)) λxs Q=>by kernel_rfl λ⟨x0,x1,_⟩hl hp=>CV.spec x0 x1 hp
noncomputable def Br.con:AM:=⟨[.d (.sl tI),.d tI],some λx=>Br.pre x,λx=>AL [.str] (Br.fn x)⟩
theorem Br.ok:AN prog 123 Br.con:=AQ (A:=.mk [(1000,[.own 5 (.int .u8)])] [(0,⟨[.t 10 tI,.row 0 (.int .u8)],[5],[22,21,19,18,20,14,17,16,15,7,13,12,11],[]⟩)] [] [] []) (Wp:=λxs Q=>Br.wp xs.1 xs.2.1 Q) AI sX (AK Tryz.func123 (by kernel_rfl) (by kernel_rfl)) λxs Q=>by kernel_rfl λ⟨x0,x1,_⟩hl hp=>Br.spec x0 x1 hp
noncomputable def GI.con:AM:=⟨[.d (.sl tI)],none,λx=>AL [tI] (GI.fn x)⟩
theorem GI.ok:AN prog 126 GI.con:=AQ (A:=.mk [] [(0,⟨[.t 8 tI],[],[16,14,13,12,5,11,10,9],[]⟩)] [] [] []) (Wp:=λxs Q=>GI.wp xs.1 Q) AI B5 (AK Tryz.func126 (by kernel_rfl) (by kernel_rfl)) λxs Q=>by kernel_rfl λ⟨x0,_⟩hl hp=>GI.spec x0 hl.1.1
noncomputable def Et.con:AM:=⟨[.d tI],none,λx=>AL [.bool] (Et.fn x)⟩
theorem Et.ok:AN prog 152 Et.con:=AQ (A:=.mk [] [] [] [] []) (Wp:=λxs Q=>Et.wp xs.1 Q) AI B5 (AK Tryz.func152 (by kernel_rfl) (by kernel_rfl)) λxs Q=>by kernel_rfl λ⟨x0,_⟩hl hp=>Et.spec x0
noncomputable def LD.con:AM:=⟨[.d (.sl (.sl tC))],none,λx=>.fn (.func 84) [] [.er [.d (.sl (.sl tC)) x.1]]⟩
theorem LD.val(xs:B9 [.d (.sl (.sl tC))])(Q:V→Prop):Q (LD.con.res xs)=NI τ0 (walk τ0 κ0 φA) An.none (Ck Tryz.f46) [.d (.sl (.sl tC))] xs Q:=by kernel_rfl
theorem LD.ok:AN prog 46 LD.con:=Wr AI (CY AI M3 C5 mixed) (AK Tryz.func46 (by kernel_rfl) (by kernel_rfl)) λxs _ _=>Eq.mp (LD.val xs _) rfl
noncomputable def CE.con:AM:=⟨[.d (.sl (.sl tC))],some λx=>CE.pre x,λx=>AL [.sl tC] (CE.fn x)⟩
theorem CE.ok:AN prog 64 CE.con:=AQ (A:=.mk [(1002,[.own 6 tC,.zero 6])] [(0,⟨[.t 11 tI,.t 3 tI],[],[22,20,19,18,17,16,15,5,14,13,12],[]⟩),(2,⟨[.t 27 tI,.row 0 tC],[6],[34,33,31,32,8,30,29,28],[]⟩)] [] [] []) (Wp:=λxs Q=>CE.wp xs.1 Q) AI B5 (AK Tryz.func64 (by kernel_rfl) (by kernel_rfl)) λxs Q=>by kernel_rfl λ⟨x0,_⟩hl hp=>CE.spec x0 hp
noncomputable def EI.con:AM:=⟨[.d tL,.d tI],some λx=>EI.pre x,λx=>AL [tL] (EI.fn x)⟩
theorem EI.ok:AN prog 134 EI.con:=AQ (A:=.mk [] [(0,⟨[.t 20 tI,.row 5 tI],[],[31,30,29,28,27,26,25,7,6,24,23,22,21],[]⟩)] [] [] []) (Wp:=λxs Q=>EI.wp xs.1 xs.2.1 Q) AI B5 (AK Tryz.func134 (by kernel_rfl) (by kernel_rfl)) λxs Q=>by kernel_rfl λ⟨x0,x1,_⟩hl hp=>EI.spec x0 x1 hp
noncomputable def Fg.con:AM:=⟨[.d tL,.d tL],none,λx=>AL [.bool] (Fg.fn x)⟩
theorem Fg.ok:AN prog 103 Fg.con:=AQ (A:=.mk [] [(0,⟨[.t 23 tI],[],[37,36,35,34,33,32,31,30,29,28,27,26,5,25,24],[]⟩)] [] [] []) (Wp:=λxs Q=>Fg.wp xs.1 xs.2.1 Q) AI B5 (AK Tryz.func103 (by kernel_rfl) (by kernel_rfl)) λxs Q=>by kernel_rfl λ⟨x0,x1,_⟩hl hp=>Fg.spec x0 x1 hl.1.1.1
noncomputable def Dx.con:AM:=⟨[.d tI,.d tI],none,λx=>AL [tC] (Dx.fn x)⟩
theorem Dx.ok:AN prog 43 Dx.con:=AQ (A:=.mk [] [] [] [] []) (Wp:=λxs Q=>Dx.wp xs.1 xs.2.1 Q) AI B5 (AK Tryz.func43 (by kernel_rfl) (by kernel_rfl)) λxs Q=>by kernel_rfl λ⟨x0,x1,_⟩hl hp=>Dx.spec x0 x1
noncomputable def FA.con:AM:=⟨[.d tI],none,λx=>AL [.bool] (FA.fn x)⟩
theorem FA.ok:AN prog 129 FA.con:=AQ (A:=.mk [] [] [] [] []) (Wp:=λxs Q=>FA.wp xs.1 Q) AI B5 (AK Tryz.func129 (by kernel_rfl) (by kernel_rfl)) λxs Q=>by kernel_rfl λ⟨x0,_⟩hl hp=>FA.spec x0
noncomputable def F6.con:AM:=⟨[.d tI],none,λx=>AL [.int .u64] (F6.fn x)⟩
theorem F6.ok:AN prog 135 F6.con:=AQ (A:=.mk [] [] [] [] []) (Wp:=λxs Q=>F6.wp xs.1 Q) AI B5 (AK Tryz.func135 (by kernel_rfl) (by kernel_rfl)) λxs Q=>by kernel_rfl λ⟨x0,_⟩hl hp=>F6.spec x0
noncomputable def FC.con:AM:=⟨[.d .bool],none,λx=>AL [tC,tI] (FC.fn x)⟩
theorem FC.ok:AN prog 116 FC.con:=AQ (A:=.mk [] [] [] [] []) (Wp:=λxs Q=>FC.wp xs.1 Q) AI B5 (AK Tryz.func116 (by kernel_rfl) (by kernel_rfl)) λxs Q=>by kernel_rfl λ⟨x0,_⟩hl hp=>FC.spec x0
noncomputable def Dz.con:AM:=⟨[.d tI,.d tI],some λx=>Dz.pre x,λx=>AL [tI,tI] (Dz.fn x)⟩
theorem Dz.ok:AN prog 117 Dz.con:=AQ (A:=.mk [] [] [] [] []) (Wp:=λxs Q=>Dz.wp xs.1 xs.2.1 Q) AI B5 (AK Tryz.func117 (by kernel_rfl) (by kernel_rfl)) λxs Q=>by kernel_rfl λ⟨x0,x1,_⟩hl hp=>Dz.spec x0 x1 hp
noncomputable def Cq.con:AM:=⟨[.d tL,.d tI,.d tI],some λx=>Cq.pre x,λx=>AL [tL] (Cq.fn x)⟩
theorem Cq.ok:AN prog 118 Cq.con:=AQ (A:=.mk [] [(0,⟨[.t 19 tI,.row 2 tI],[],[31,30,29,28,27,26,25,24,9,8,23,22,21,20],[]⟩)] [] [] []) (Wp:=λxs Q=>Cq.wp xs.1 xs.2.1 xs.2.2.1 Q) AI B5 (AK Tryz.func118 (by kernel_rfl) (by kernel_rfl)) λxs Q=>by kernel_rfl λ⟨x0,x1,x2,_⟩hl hp=>Cq.spec x0 x1 x2 hp
noncomputable def DH.con:AM:=⟨[.d tI,.d tI],some λx=>DH.pre x,λx=>AL [tI,tI] (DH.fn x)⟩
theorem DH.ok:AN prog 119 DH.con:=AQ (A:=.mk [] [] [] [] []) (Wp:=λxs Q=>DH.wp xs.1 xs.2.1 Q) AI B5 (AK Tryz.func119 (by kernel_rfl) (by kernel_rfl)) λxs Q=>by kernel_rfl λ⟨x0,x1,_⟩hl hp=>DH.spec x0 x1 hp
noncomputable def Cf.con:AM:=⟨[.d tC,.d tC],some λx=>Cf.pre x,λx=>AL [tI] (Cf.fn x)⟩
theorem Cf.ok:AN prog 88 Cf.con:=AQ (A:=.mk [] [(0,⟨[.t 12 tI,.t 6 .bool,.t 5 .bool],[],[48,47,46,45,44,43,42,41,40,39,38,37,36,35,34,33,32,31,30,29,28,27,26,25,24,23,22,21,20,19,18,17,16,15,7,14,13],[]⟩)] [] [] []) (Wp:=λxs Q=>Cf.wp xs.1 xs.2.1 Q) AI B5 (AK Tryz.func88 (by kernel_rfl) (by kernel_rfl)) λxs Q=>by kernel_rfl λ⟨x0,x1,_⟩hl hp=>Cf.spec x0 x1 hp
noncomputable def DO.con:AM:=⟨[.d (.sl tI),.d (.sl tI)],some λx=>DO.pre x,λx=>AL [tI] (DO.fn x)⟩
theorem DO.ok:AN prog 136 DO.con:=AQ (A:=.mk [] [(0,⟨[.t 8 tI],[],[31,21,30,29,28,27,26,25,24,23,22,11,20,19,18,17,16,15,14,13,12,5,10,9],[]⟩)] [] [] []) (Wp:=λxs Q=>DO.wp xs.1 xs.2.1 Q) AI B5 (AK Tryz.func136 (by kernel_rfl) (by kernel_rfl)) λxs Q=>by kernel_rfl λ⟨x0,x1,_⟩hl hp=>DO.spec x0 x1 hl.1.1 hp
noncomputable def FB.con:AM:=⟨[.d tI],none,λx=>AL [tI] (FB.fn x)⟩
theorem FB.ok:AN prog 137 FB.con:=AQ (A:=.mk [] [] [] [] []) (Wp:=λxs Q=>FB.wp xs.1 Q) AI B5 (AK Tryz.func137 (by kernel_rfl) (by kernel_rfl)) λxs Q=>by kernel_rfl λ⟨x0,_⟩hl hp=>FB.spec x0
noncomputable def CK.con:AM:=⟨[.d (.sl tC),.d (.sl tC)],some λx=>CK.pre x,λx=>AL [.sl tC] (CK.fn x)⟩
theorem CK.ok:AN prog 53 CK.con:=AQ (A:=.mk [] [] [] [] []) (Wp:=λxs Q=>CK.wp xs.1 xs.2.1 Q) AI B5 (AK Tryz.func53 (by kernel_rfl) (by kernel_rfl)) λxs Q=>by kernel_rfl λ⟨x0,x1,_⟩hl hp=>CK.spec x0 x1 hp
noncomputable def Cp.con:AM:=⟨[.d tI,.d tL,.d tI,.d tL],some λx=>Cp.pre x,λx=>AL [tL] (Cp.fn x)⟩
theorem Cp.ok:AN prog 90 Cp.con:=AQ (A:=.mk [] [(0,⟨[.t 28 tI,.row 6 tI],[],[50,49,48,47,46,45,44,43,42,41,40,39,38,37,36,35,34,33,32,31,10,30,29],[]⟩)] [] [] []) (Wp:=λxs Q=>Cp.wp xs.1 xs.2.1 xs.2.2.1 xs.2.2.2.1 Q) AI B5 (AK Tryz.func90 (by kernel_rfl) (by kernel_rfl)) λxs Q=>by kernel_rfl λ⟨x0,x1,x2,x3,_⟩hl hp=>Cp.spec x0 x1 x2 x3 hp
noncomputable def Dl.con:AM:=⟨[.d (.sl (.sl (.sl tC)))],some λx=>Dl.pre x,λx=>AL [.sl (.sl tC)] (Dl.fn x)⟩
theorem Dl.ok:AN prog 62 Dl.con:=AQ (A:=.mk [(1002,[.own 6 (.sl tC),.zero 6])] [(0,⟨[.t 11 tI,.t 3 tI],[],[22,20,19,18,17,16,15,5,14,13,12],[]⟩),(2,⟨[.t 27 tI,.row 0 (.sl tC)],[6],[34,33,31,32,8,30,29,28],[]⟩)] [] [] []) (Wp:=λxs Q=>Dl.wp xs.1 Q) AI B5 (AK Tryz.func62 (by kernel_rfl) (by kernel_rfl)) λxs Q=>by kernel_rfl λ⟨x0,_⟩hl hp=>Dl.spec x0 hp
noncomputable def Fe.con:AM:=⟨[.d tI],none,λx=>AL [.bool] (Fe.fn x)⟩
theorem Fe.ok:AN prog 70 Fe.con:=AQ (A:=.mk [] [] [] [] []) (Wp:=λxs Q=>Fe.wp xs.1 Q) AI B5 (AK Tryz.func70 (by kernel_rfl) (by kernel_rfl)) λxs Q=>by kernel_rfl λ⟨x0,_⟩hl hp=>Fe.spec x0
noncomputable def D2.con:AM:=⟨[.d tL,.d tI],some λx=>D2.pre x,λx=>AL [tL] (D2.fn x)⟩
theorem D2.ok:AN prog 71 D2.con:=AQ (A:=.mk [(1000,[.ownc 2 0 tI])] [(0,⟨[.t 14 tI,.cell 2 1 tI,.row 3 tI],[],[28,27,26,23,25,24,22,21,20,19,7,6,18,17,16,15],[]⟩)] [] [] []) (Wp:=λxs Q=>D2.wp xs.1 xs.2.1 Q) AI B5 (AK Tryz.func71 (by kernel_rfl) (by kernel_rfl)) λxs Q=>by kernel_rfl λ⟨x0,x1,_⟩hl hp=>D2.spec x0 x1 hp
noncomputable def Eo.con:AM:=⟨[.d (.sl (.sl tC)),.f [.sl tC] [.bool]],some λx=>Eo.pre x,λx=>AL [tI] (Eo.fn x)⟩
theorem Eo.ok:AN prog 107 Eo.con:=AQ (A:=.mk [] [(0,⟨[.t 8 tI],[],[18,16,15,14,13,12,11,5,10,9],[]⟩)] [] [] []) (Wp:=λxs Q=>Eo.wp xs.1 xs.2.1 Q) AI B5 (AK Tryz.func107 (by kernel_rfl) (by kernel_rfl)) λxs Q=>by kernel_rfl λ⟨x0,x1,_⟩hl hp=>Eo.spec x0 x1 hl.1.1 hp
noncomputable def D1.con:AM:=⟨[.d tL,.d (.sl tI)],some λx=>D1.pre x,λx=>AL [tI] (D1.fn x)⟩
theorem D1.ok:AN prog 109 D1.con:=AQ (A:=.mk [] [(0,⟨[.t 12 tI,.t 5 tI],[],[27,26,25,24,23,22,21,20,19,18,17,16,15,6,14,13],[]⟩)] [] [] []) (Wp:=λxs Q=>D1.wp xs.1 xs.2.1 Q) AI B5 (AK Tryz.func109 (by kernel_rfl) (by kernel_rfl)) λxs Q=>by kernel_rfl λ⟨x0,x1,_⟩hl hp=>D1.spec x0 x1 hp
noncomputable def Cg.con:AM:=⟨[.d tI],none,λx=>AL [tS,tI] (Cg.fn x)⟩
theorem Cg.ok:AN prog 36 Cg.con:=AQ (A:=.mk [] [] [] [] []) (Wp:=λxs Q=>Cg.wp xs.1 Q) AI B5 (AK Tryz.func36 (by kernel_rfl) (by kernel_rfl)) λxs Q=>by kernel_rfl λ⟨x0,_⟩hl hp=>Cg.spec x0
noncomputable def Dj.con:AM:=⟨[.d tS,.d tI,.f [tL] [tL]],some λx=>Dj.pre x,λx=>AL [tS] (Dj.fn x)⟩
theorem Dj.ok:AN prog 78 Dj.con:=AQ (A:=.mk [(5,[.opn 2]),(9,[.ren 24 4]),(10,[.frzl 4,.cls 2]),(11,[.dne 2])] [(2,⟨[.t 28 tI,.vrow 2 tC (some 4),.row 4 tC],[],[52,50,39,51,49,48,47,46,45,44,43,42,41,40,38,37,36,35,34,33,32,11,31,30,29],[]⟩),(0,⟨[.t 21 tI,.vrow 2 tC none],[],[53,29,52,50,39,51,49,48,47,46,45,44,43,42,41,40,38,37,36,35,34,33,32,11,31,30,28,27,26,9,8,25,24,23,22],[]⟩)] [] [] []) (Wp:=λxs Q=>Dj.wp xs.1 xs.2.1 xs.2.2.1 Q) dB sZ (AK Tryz.func78 (by kernel_rfl) (by kernel_rfl)) λxs Q=>by kernel_rfl λ⟨x0,x1,x2,_⟩hl hp=>Dj.spec x0 x1 x2 hp
noncomputable def Di.con:AM:=⟨[.d tL,.e (.sl tI)],some λx=>Di.pre x,λx=>AL [tL] (Di.fn x)⟩
theorem Di.ok:AN prog 82 Di.con:=AQ (A:=.mk [] [(0,⟨[.t 16 tI,.row 5 tI],[],[30,29,28,27,26,25,24,23,22,21,6,5,20,19,18,17],[]⟩)] [] [] []) (Wp:=λxs Q=>Di.wp xs.1 xs.2.1 Q) AI B5 (AK Tryz.func82 (by kernel_rfl) (by kernel_rfl)) λxs Q=>by kernel_rfl λ⟨x0,x1,_⟩hl hp=>Di.spec x0 x1 hp
noncomputable def Vu:List (Nat×CX):=(13,.con BK.con)::(121,.con Bk.con)::(91,.con Ep.con)::(167,.con Eh.con)::(169,.con Dy.con)::(170,.con Dg.con)::(156,.con DY.con)::(157,.con C0.con)::(158,.con CN.con)::(159,.con CV.con)::(123,.con Br.con)::(126,.con GI.con)::(152,.con Et.con)::(46,.con LD.con)::(64,.con CE.con)::(134,.con EI.con)::(103,.con Fg.con)::(43,.con Dx.con)::(129,.con FA.con)::(135,.con F6.con)::(116,.con FC.con)::(117,.con Dz.con)::(118,.con Cq.con)::(119,.con DH.con)::(88,.con Cf.con)::(136,.con DO.con)::(137,.con FB.con)::(53,.con CK.con)::(90,.con Cp.con)::(62,.con Dl.con)::(70,.con Fe.con)::(71,.con D2.con)::(107,.con Eo.con)::(109,.con D1.con)::(36,.con Cg.con)::(78,.con Dj.con)::(82,.con Di.con)::Vt
theorem Ww:A3 prog λn=>Bp n Vu:=AP BK.ok (AP Bk.ok (AP Ep.ok (AP Eh.ok (AP Dy.ok (AP Dg.ok (AP DY.ok (AP C0.ok (AP CN.ok (AP CV.ok (AP Br.ok (AP GI.ok (AP Et.ok (AP LD.ok (AP CE.ok (AP EI.ok (AP Fg.ok (AP Dx.ok (AP FA.ok (AP F6.ok (AP FC.ok (AP Dz.ok (AP Cq.ok (AP DH.ok (AP Cf.ok (AP DO.ok (AP FB.ok (AP CK.ok (AP Cp.ok (AP Dl.ok (AP Fe.ok (AP D2.ok (AP Eo.ok (AP D1.ok (AP Cg.ok (AP Dj.ok (AP Di.ok Wv))))))))))))))))))))))))))))))))))))
noncomputable def κ1:Ar:=λn=>Bp n Vu
theorem Ws:A3 prog κ1:=Ww
theorem Gb:CM prog (walk τ0 κ1 φA):=CY AI Ws C5 mixed
theorem tB:CM prog (walk τ0 κ1 φC):=CY AI Ws fC mixed
noncomputable def DF.con:AM:=⟨[.d tL],none,λx=>AL [.bool] (DF.fn x)⟩
theorem DF.ok:AN prog 92 DF.con:=AQ (A:=.mk [] [(0,⟨[.t 8 tI],[],[15,14,13,12,4,11,10,9],[]⟩)] [] [] []) (Wp:=λxs Q=>DF.wp xs.1 Q) AI Gb (AK Tryz.func92 (by kernel_rfl) (by kernel_rfl)) λxs Q=>by kernel_rfl λ⟨x0,_⟩hl hp=>DF.spec x0 hl.1.1.1
noncomputable def Ch.con:AM:=⟨[.d (.sl tC),.f [tC] [.bool]],some λx=>Ch.pre x,λx=>AL [.bool] (Ch.fn x)⟩
theorem Ch.ok:AN prog 55 Ch.con:=AQ (A:=.mk [] [] [] [] []) (Wp:=λxs Q=>Ch.wp xs.1 xs.2.1 Q) AI Gb (AK Tryz.func55 (by kernel_rfl) (by kernel_rfl)) λxs Q=>by kernel_rfl λ⟨x0,x1,_⟩hl hp=>Ch.spec x0 x1 hp
noncomputable def DG.con:AM:=⟨[.d (.int .u64),.d tI],none,λx=>AL [.int .u64] (DG.fn x)⟩
theorem DG.ok:AN prog 168 DG.con:=AQ (A:=.mk [] [] [] [] []) (Wp:=λxs Q=>DG.wp xs.1 xs.2.1 Q) AI Gb (AK Tryz.func168 (by kernel_rfl) (by kernel_rfl)) λxs Q=>by kernel_rfl λ⟨x0,x1,_⟩hl hp=>DG.spec x0 x1
noncomputable def Dk.con:AM:=⟨[.d (.sl tC)],some λx=>Dk.pre x,λx=>AL [.sl tC] (Dk.fn x)⟩
theorem Dk.ok:AN prog 96 Dk.con:=AQ (A:=.mk [(1000,[.own 3 tC])] [(0,⟨[.t 13 tI,.row 1 tC,.smap 0 tI],[3],[58,23,20,22,21,19,18,17,6,16,15,14,57,54,52,56,55,53,51,50,34,9,8,33,32,28,31,30,29,7,27,26,25,24,49,48,47,46,45,44,43,42,41,40,39,38,37,36,35],[]⟩)] [] [] []) (Wp:=λxs Q=>Dk.wp xs.1 Q) AI Gb (AK Tryz.func96 (by kernel_rfl) (by kernel_rfl)) λxs Q=>by kernel_rfl λ⟨x0,_⟩hl hp=>Dk.spec x0 hp
noncomputable def Do.con:AM:=⟨[.d tI,.d tI],none,λx=>AL [tI] (Do.fn x)⟩
theorem Do.ok:AN prog 127 Do.con:=AQ (A:=.mk [] [] [] [] []) (Wp:=λxs Q=>Do.wp xs.1 xs.2.1 Q) AI Gb (AK Tryz.func127 (by kernel_rfl) (by kernel_rfl)) λxs Q=>by kernel_rfl λ⟨x0,x1,_⟩hl hp=>Do.spec x0 x1
noncomputable def BT.con:AM:=⟨[.d (.sl tC)],some λx=>BT.pre x,λx=>AL [.str] (BT.fn x)⟩
theorem BT.ok:AN prog 111 BT.con:=AQ (A:=.mk [(1000,[.own 3 (.int .u8)])] [(0,⟨[.t 8 tI,.row 0 (.int .u8)],[3],[40,39,37,36,38,32,31,35,34,33,26,25,30,29,28,27,23,22,24,19,18,21,20,16,15,17,12,14,13,5,11,10,9],[]⟩)] [] [] []) (Wp:=λxs Q=>BT.wp xs.1 Q) AI tB (AK Tryz.func111 (by kernel_rfl) (by kernel_rfl)) λxs Q=>by kernel_rfl λ⟨x0,_⟩hl hp=>BT.spec x0 hp
noncomputable def DX.con:AM:=⟨[.d tC],some λx=>DX.pre x,λx=>AL [.sl tC] (DX.fn x)⟩
theorem DX.ok:AN prog 113 DX.con:=AQ (A:=.mk [(1001,[.own 4 tC])] [(1,⟨[.t 5 tI,.row 2 tC],[4],[34,33,49,35,48,47,46,45,44,43,42,41,40,39,38,37,36,32,31,30,29],[]⟩)] [] [] []) (Wp:=λxs Q=>DX.wp xs.1 Q) AI Gb (AK Tryz.func113 (by kernel_rfl) (by kernel_rfl)) λxs Q=>by kernel_rfl λ⟨x0,_⟩hl hp=>DX.spec x0 hp
noncomputable def En.con:AM:=⟨[.d tC,.d tC],none,λx=>AL [.bool] (En.fn x)⟩
theorem En.ok:AN prog 61 En.con:=AQ (A:=.mk [] [] [] [] []) (Wp:=λxs Q=>En.wp xs.1 xs.2.1 Q) AI Gb (AK Tryz.func61 (by kernel_rfl) (by kernel_rfl)) λxs Q=>by kernel_rfl λ⟨x0,x1,_⟩hl hp=>En.spec x0 x1
noncomputable def Em.con:AM:=⟨[.d tL],none,λx=>AL [.bool] (Em.fn x)⟩
theorem Em.ok:AN prog 102 Em.con:=AQ (A:=.mk [] [(0,⟨[.t 8 tI],[],[15,14,13,12,4,11,10,9],[]⟩)] [] [] []) (Wp:=λxs Q=>Em.wp xs.1 Q) AI Gb (AK Tryz.func102 (by kernel_rfl) (by kernel_rfl)) λxs Q=>by kernel_rfl λ⟨x0,_⟩hl hp=>Em.spec x0 hl.1.1.1
noncomputable def D0.con:AM:=⟨[.d (.sl tI)],some λx=>D0.pre x,λx=>AL [tI,tI] (D0.fn x)⟩
theorem D0.ok:AN prog 115 D0.con:=AQ (A:=.mk [] [(2,⟨[.t 7 (.int .u64),.t 4 (.int .u64)],[],[21,20,19,18,17,16],[]⟩),(0,⟨[.t 10 tI,.t 4 (.int .u64)],[],[22,17,16,21,20,19,18,7,15,14,6,13,12,11],[]⟩)] [] [] []) (Wp:=λxs Q=>D0.wp xs.1 Q) AI Gb (AK Tryz.func115 (by kernel_rfl) (by kernel_rfl)) λxs Q=>by kernel_rfl λ⟨x0,_⟩hl hp=>D0.spec x0 hl.1.1 hp
noncomputable def EP.con:AM:=⟨[.d tL,.d tL],some λx=>EP.pre x,λx=>AL [tI] (EP.fn x)⟩
theorem EP.ok:AN prog 138 EP.con:=AQ (A:=.mk [] [] [] [] []) (Wp:=λxs Q=>EP.wp xs.1 xs.2.1 Q) AI Gb (AK Tryz.func138 (by kernel_rfl) (by kernel_rfl)) λxs Q=>by kernel_rfl λ⟨x0,x1,_⟩hl hp=>EP.spec x0 x1 hp
noncomputable def FF.con:AM:=⟨[.d (.sl (.sl tC)),.f [.sl tC] [.bool]],some λx=>FF.pre x,λx=>AL [.bool] (FF.fn x)⟩
theorem FF.ok:AN prog 72 FF.con:=AQ (A:=.mk [] [] [] [] []) (Wp:=λxs Q=>FF.wp xs.1 xs.2.1 Q) AI Gb (AK Tryz.func72 (by kernel_rfl) (by kernel_rfl)) λxs Q=>by kernel_rfl λ⟨x0,x1,_⟩hl hp=>FF.spec x0 x1 hp
noncomputable def Fa.con:AM:=⟨[.d (.sl tI),.d (.sl tI)],none,λx=>AL [tI,tI] (Fa.fn x)⟩
theorem Fa.ok:AN prog 130 Fa.con:=AQ (A:=.mk [] [(0,⟨[.t 18 tI,.t 6 tI],[],[52,51,50,49,48,47,46,45,44,43,42,41,40,39,38,37,36,35,34,33,32,31,30,29,28,27,26,25,24,23,22,21,7,20,19],[]⟩)] [] [] []) (Wp:=λxs Q=>Fa.wp xs.1 xs.2.1 Q) AI Gb (AK Tryz.func130 (by kernel_rfl) (by kernel_rfl)) λxs Q=>by kernel_rfl λ⟨x0,x1,_⟩hl hp=>Fa.spec x0 x1
noncomputable def D4.con:AM:=⟨[.d tC,.d (.sl tI)],some λx=>D4.pre x,λx=>AL [.bool] (D4.fn x)⟩
theorem D4.ok:AN prog 77 D4.con:=AQ (A:=.mk [] [] [] [] []) (Wp:=λxs Q=>D4.wp xs.1 xs.2.1 Q) AI Gb (AK Tryz.func77 (by kernel_rfl) (by kernel_rfl)) λxs Q=>by kernel_rfl λ⟨x0,x1,_⟩hl hp=>D4.spec x0 x1 hp
noncomputable def Ff.con:AM:=⟨[.d (.sl tI)],none,λx=>AL [.bool] (Ff.fn x)⟩
theorem Ff.ok:AN prog 76 Ff.con:=AQ (A:=.mk [] [(0,⟨[.t 7 tI],[],[14,13,12,11,4,10,9,8],[]⟩)] [] [] []) (Wp:=λxs Q=>Ff.wp xs.1 Q) AI Gb (AK Tryz.func76 (by kernel_rfl) (by kernel_rfl)) λxs Q=>by kernel_rfl λ⟨x0,_⟩hl hp=>Ff.spec x0 hl.1.1
noncomputable def Vw:List (Nat×CX):=(92,.con DF.con)::(55,.con Ch.con)::(168,.con DG.con)::(96,.con Dk.con)::(127,.con Do.con)::(111,.con BT.con)::(113,.con DX.con)::(61,.con En.con)::(102,.con Em.con)::(115,.con D0.con)::(138,.con EP.con)::(72,.con FF.con)::(130,.con Fa.con)::(77,.con D4.con)::(76,.con Ff.con)::Vu
theorem Wy:A3 prog λn=>Bp n Vw:=AP DF.ok (AP Ch.ok (AP DG.ok (AP Dk.ok (AP Do.ok (AP BT.ok (AP DX.ok (AP En.ok (AP Em.ok (AP D0.ok (AP EP.ok (AP FF.ok (AP Fa.ok (AP D4.ok (AP Ff.ok Ww))))))))))))))
noncomputable def κ2:Ar:=λn=>Bp n Vw
theorem iH:A3 prog κ2:=Wy
theorem IX:CM prog (walk τ0 κ2 φA):=CY AI iH C5 mixed
noncomputable def BW.con:AM:=⟨[.d tC],none,λx=>AL [.bool] (BW.fn x)⟩
theorem BW.ok:AN prog 57 BW.con:=AQ (A:=.mk [] [] [] [] []) (Wp:=λxs Q=>BW.wp xs.1 Q) AI IX (AK Tryz.func57 (by kernel_rfl) (by kernel_rfl)) λxs Q=>by kernel_rfl λ⟨x0,_⟩hl hp=>BW.spec x0
noncomputable def Cc.con:AM:=⟨[.d (.sl tI)],some λx=>Cc.pre x,λx=>AL [tI,tI] (Cc.fn x)⟩
theorem Cc.ok:AN prog 155 Cc.con:=AQ (A:=.mk [] [] [] [] []) (Wp:=λxs Q=>Cc.wp xs.1 Q) AI IX (AK Tryz.func155 (by kernel_rfl) (by kernel_rfl)) λxs Q=>by kernel_rfl λ⟨x0,_⟩hl hp=>Cc.spec x0 hp
noncomputable def GD.con:AM:=⟨[.d (.sl tI),.d (.sl tI)],none,λx=>AL [tI] (GD.fn x)⟩
theorem GD.ok:AN prog 128 GD.con:=AQ (A:=.mk [] [(0,⟨[.t 11 tI],[],[30,28,27,8,26,25,24,7,23,22,21,20,19,18,17,16,6,5,15,14,13,12],[]⟩)] [] [] []) (Wp:=λxs Q=>GD.wp xs.1 xs.2.1 Q) AI IX (AK Tryz.func128 (by kernel_rfl) (by kernel_rfl)) λxs Q=>by kernel_rfl λ⟨x0,x1,_⟩hl hp=>GD.spec x0 x1 hl.1.1
noncomputable def D7.con:AM:=⟨[.d (.sl tC),.d (.sl tC)],none,λx=>AL [.bool] (D7.fn x)⟩
theorem D7.ok:AN prog 22 D7.con:=AQ (A:=.mk [] [(0,⟨[.t 13 tI],[],[26,25,24,23,22,21,20,19,18,17,16,5,15,14],[]⟩)] [] [] []) (Wp:=λxs Q=>D7.wp xs.1 xs.2.1 Q) AI IX (AK Tryz.func22 (by kernel_rfl) (by kernel_rfl)) λxs Q=>by kernel_rfl λ⟨x0,x1,_⟩hl hp=>D7.spec x0 x1 hl.1.1
noncomputable def C2.con:AM:=⟨[.d tC],none,λx=>AL [.bool] (C2.fn x)⟩
theorem C2.ok:AN prog 60 C2.con:=AQ (A:=.mk [] [] [] [] []) (Wp:=λxs Q=>C2.wp xs.1 Q) AI IX (AK Tryz.func60 (by kernel_rfl) (by kernel_rfl)) λxs Q=>by kernel_rfl λ⟨x0,_⟩hl hp=>C2.spec x0
noncomputable def BM.con:AM:=⟨[.d tC],some λx=>BM.pre x,λx=>AL [tC,tI] (BM.fn x)⟩
theorem BM.ok:AN prog 87 BM.con:=AQ (A:=.mk [] [(1,⟨[.t 73 tI],[],[83,78,77,9,76,75,74],[]⟩),(3,⟨[.t 104 tI,.row 2 tI],[],[120,119,118,117,109,116,115,114,113,112,111,110,12,11,108,107,106,105],[]⟩)] [] [] []) (Wp:=λxs Q=>BM.wp xs.1 Q) AI IX (AK Tryz.func87 (by kernel_rfl) (by kernel_rfl)) λxs Q=>by kernel_rfl λ⟨x0,_⟩hl hp=>BM.spec x0 hp
noncomputable def D3.con:AM:=⟨[.d tC,.d tC],some λx=>D3.pre x,λx=>AL [tI] (D3.fn x)⟩
theorem D3.ok:AN prog 120 D3.con:=AQ (A:=.mk [] [] [] [] []) (Wp:=λxs Q=>D3.wp xs.1 xs.2.1 Q) AI IX (AK Tryz.func120 (by kernel_rfl) (by kernel_rfl)) λxs Q=>by kernel_rfl λ⟨x0,x1,_⟩hl hp=>D3.spec x0 x1 hp
noncomputable def FZ.con:AM:=⟨[.d tL,.d (.sl tI)],none,λx=>AL [tI,tI] (FZ.fn x)⟩
theorem FZ.ok:AN prog 108 FZ.con:=AQ (A:=.mk [] [] [] [] []) (Wp:=λxs Q=>FZ.wp xs.1 xs.2.1 Q) AI IX (AK Tryz.func108 (by kernel_rfl) (by kernel_rfl)) λxs Q=>by kernel_rfl λ⟨x0,x1,_⟩hl hp=>FZ.spec x0 x1
noncomputable def DB.con:AM:=⟨[.d (.sl tC),.d (.sl tI)],some λx=>DB.pre x,λx=>AL [.bool] (DB.fn x)⟩
theorem DB.ok:AN prog 38 DB.con:=AQ (A:=.mk [] [(0,⟨[.t 9 tI],[],[17,16,15,14,13,6,12,11,10],[]⟩)] [] [] []) (Wp:=λxs Q=>DB.wp xs.1 xs.2.1 Q) AI IX (AK Tryz.func38 (by kernel_rfl) (by kernel_rfl)) λxs Q=>by kernel_rfl λ⟨x0,x1,_⟩hl hp=>DB.spec x0 x1 hl.1.1 hp
noncomputable def F7.con:AM:=⟨[.d tL,.d tI,.d tI],none,λx=>AL [tL,tI] (F7.fn x)⟩
theorem F7.ok:AN prog 81 F7.con:=AQ (A:=.mk [] [] [] [] []) (Wp:=λxs Q=>F7.wp xs.1 xs.2.1 xs.2.2.1 Q) AI IX (AK Tryz.func81 (by kernel_rfl) (by kernel_rfl)) λxs Q=>by kernel_rfl λ⟨x0,x1,x2,_⟩hl hp=>F7.spec x0 x1 x2 hl.1.1.1
noncomputable def Vx:List (Nat×CX):=(57,.con BW.con)::(155,.con Cc.con)::(128,.con GD.con)::(22,.con D7.con)::(60,.con C2.con)::(87,.con BM.con)::(120,.con D3.con)::(108,.con FZ.con)::(38,.con DB.con)::(81,.con F7.con)::Vw
theorem Wz:A3 prog λn=>Bp n Vx:=AP BW.ok (AP Cc.ok (AP GD.ok (AP D7.ok (AP C2.ok (AP BM.ok (AP D3.ok (AP FZ.ok (AP DB.ok (AP F7.ok Wy)))))))))
noncomputable def κ3:Ar:=λn=>Bp n Vx
theorem iI:A3 prog κ3:=Wz
theorem Fc:CM prog (walk τ0 κ3 φA):=CY AI iI C5 mixed
noncomputable def EE.con:AM:=⟨[.d (.sl tC),.d tI],none,λx=>AL [.bool] (EE.fn x)⟩
theorem EE.ok:AN prog 58 EE.con:=AQ (A:=.mk [] [(0,⟨[.t 9 tI],[],[24,23,22,21,20,19,18,17,16,15,14,13,6,12,11,10],[]⟩)] [] [] []) (Wp:=λxs Q=>EE.wp xs.1 xs.2.1 Q) AI Fc (AK Tryz.func58 (by kernel_rfl) (by kernel_rfl)) λxs Q=>by kernel_rfl λ⟨x0,x1,_⟩hl hp=>EE.spec x0 x1 hl.1.1
noncomputable def Dr.con:AM:=⟨[.d tC],some λx=>Dr.pre x,λx=>AL [tC,tI] (Dr.fn x)⟩
theorem Dr.ok:AN prog 139 Dr.con:=AQ (A:=.mk [] [] [] [] []) (Wp:=λxs Q=>Dr.wp xs.1 Q) AI Fc (AK Tryz.func139 (by kernel_rfl) (by kernel_rfl)) λxs Q=>by kernel_rfl λ⟨x0,_⟩hl hp=>Dr.spec x0 hp
noncomputable def Dq.con:AM:=⟨[.d tC],some λx=>Dq.pre x,λx=>AL [tC,tI] (Dq.fn x)⟩
theorem Dq.ok:AN prog 140 Dq.con:=AQ (A:=.mk [] [(0,⟨[.t 44 tI],[],[54,49,48,7,47,46,45],[]⟩)] [] [] []) (Wp:=λxs Q=>Dq.wp xs.1 Q) AI Fc (AK Tryz.func140 (by kernel_rfl) (by kernel_rfl)) λxs Q=>by kernel_rfl λ⟨x0,_⟩hl hp=>Dq.spec x0 hp
noncomputable def Dp.con:AM:=⟨[.d tC],some λx=>Dp.pre x,λx=>AL [tC,tI] (Dp.fn x)⟩
theorem Dp.ok:AN prog 141 Dp.con:=AQ (A:=.mk [] [(0,⟨[.t 25 tI,.t 6 tI,.row 2 tI],[],[51,50,49,40,48,47,46,45,44,43,42,41,39,38,37,30,36,35,34,33,32,31,8,7,29,28,27,26],[]⟩)] [] [] []) (Wp:=λxs Q=>Dp.wp xs.1 Q) AI Fc (AK Tryz.func141 (by kernel_rfl) (by kernel_rfl)) λxs Q=>by kernel_rfl λ⟨x0,_⟩hl hp=>Dp.spec x0 hp
noncomputable def Fq.con:AM:=⟨[.d tC],none,λx=>AL [.bool] (Fq.fn x)⟩
theorem Fq.ok:AN prog 94 Fq.con:=AQ (A:=.mk [] [] [] [] []) (Wp:=λxs Q=>Fq.wp xs.1 Q) AI Fc (AK Tryz.func94 (by kernel_rfl) (by kernel_rfl)) λxs Q=>by kernel_rfl λ⟨x0,_⟩hl hp=>Fq.spec x0
noncomputable def Cr.con:AM:=⟨[.d tC,.d tC],some λx=>Cr.pre x,λx=>AL [tI] (Cr.fn x)⟩
theorem Cr.ok:AN prog 99 Cr.con:=AQ (A:=.mk [] [] [] [] []) (Wp:=λxs Q=>Cr.wp xs.1 xs.2.1 Q) AI Fc (AK Tryz.func99 (by kernel_rfl) (by kernel_rfl)) λxs Q=>by kernel_rfl λ⟨x0,x1,_⟩hl hp=>Cr.spec x0 x1 hp
noncomputable def DP.con:AM:=⟨[.d tS,.d tS],none,λx=>AL [.bool] (DP.fn x)⟩
theorem DP.ok:AN prog 32 DP.con:=AQ (A:=.mk [] [(0,⟨[.t 23 tI],[],[38,37,36,35,34,33,32,31,30,29,28,27,26,5,25,24],[]⟩)] [] [] []) (Wp:=λxs Q=>DP.wp xs.1 xs.2.1 Q) AI Fc (AK Tryz.func32 (by kernel_rfl) (by kernel_rfl)) λxs Q=>by kernel_rfl λ⟨x0,x1,_⟩hl hp=>DP.spec x0 x1 hl.1.2.1
noncomputable def Bl.con:AM:=⟨[.d tS],none,λx=>AL [.bool] (Bl.fn x)⟩
theorem Bl.ok:AN prog 33 Bl.con:=AQ (A:=.mk [] [(2,⟨[.t 33 tI],[],[49,48,47,46,45,44,43,42,41,40,39,38,37,6,36,35,34],[]⟩),(0,⟨[.t 24 tI],[],[50,34,49,48,47,46,45,44,43,42,41,40,39,38,37,6,36,35,33,32,31,30,29,28,4,27,26,25],[]⟩)] [] [] []) (Wp:=λxs Q=>Bl.wp xs.1 Q) AI Fc (AK Tryz.func33 (by kernel_rfl) (by kernel_rfl)) λxs Q=>by kernel_rfl λ⟨x0,_⟩hl hp=>Bl.spec x0 hl.1.2.1
noncomputable def D8.con:AM:=⟨[.d (.sl tC)],some λx=>D8.pre x,λx=>AL [.sl tC] (D8.fn x)⟩
theorem D8.ok:AN prog 89 D8.con:=AQ (A:=.mk [(1000,[.own 3 tC])] [(2,⟨[.t 6 tI],[],[28,27,26,25,24,23,22,21,20,19,18,17,16,15,14],[]⟩),(0,⟨[.t 10 tI,.t 3 (.sl tC)],[],[55,54,50,7,49,53,52,51,46,45,48,47,41,44,43,42,40,39,38,37,36,35,34,33,32,31,30,29,26,25,24,23,22,21,20,19,18,17,16,15,14,6,5,13,12,11,28,27],[]⟩)] [] [] []) (Wp:=λxs Q=>D8.wp xs.1 Q) AI Fc (AK Tryz.func89 (by kernel_rfl) (by kernel_rfl)) λxs Q=>by kernel_rfl λ⟨x0,_⟩hl hp=>D8.spec x0 hp
noncomputable def Fj.con:AM:=⟨[.d (.sl (.sl tC)),.d (.sl tC)],none,λx=>AL [.bool] (Fj.fn x)⟩
theorem Fj.ok:AN prog 112 Fj.con:=AQ (A:=.mk [] [(0,⟨[.t 9 tI],[],[16,15,14,13,6,12,11,10],[]⟩)] [] [] []) (Wp:=λxs Q=>Fj.wp xs.1 xs.2.1 Q) AI Fc (AK Tryz.func112 (by kernel_rfl) (by kernel_rfl)) λxs Q=>by kernel_rfl λ⟨x0,x1,_⟩hl hp=>Fj.spec x0 x1 hl.1.1
noncomputable def Fh.con:AM:=⟨[.d tC],none,λx=>AL [.sl tC,tI] (Fh.fn x)⟩
theorem Fh.ok:AN prog 54 Fh.con:=AQ (A:=.mk [(5,[.frz 20]),(1001,[.own 6 tC]),(1003,[.own 8 tC])] [(1,⟨[.t 7 tI,.row 4 tC],[6],[32,31,44,33,43,42,41,40,39,38,37,36,35,34,30,29,28,27],[]⟩),(3,⟨[.t 68 tI,.row 4 tC],[8],[100,84,80,83,82,81,77,79,78,12,11,76,75,72,74,73,10,71,70,69,99,96,98,97,93,95,94,85,92,91,90,89,88,87,86],[]⟩)] [(15,⟨[.t 6 (.sl tC),.t 45 .bool,.t 46 .bool,.t 26 tI],[32,31,44,33,43,42,41,40,39,38,37,36,35,34],[52,51,50,49,48,47,25,65,64,63,62,61,60,59,58,57,56,55,53,54,30,29,28,27,7],[]⟩)] [] []) (Wp:=λxs Q=>Fh.wp xs.1 Q) AI Fc (AK Tryz.func54 (by kernel_rfl) (by kernel_rfl)) λxs Q=>by kernel_rfl λ⟨x0,_⟩hl hp=>Fh.spec x0
noncomputable def Gi.con:AM:=⟨[.d tC],none,λx=>AL [.bool] (Gi.fn x)⟩
theorem Gi.ok:AN prog 56 Gi.con:=AQ (A:=.mk [] [] [] [] []) (Wp:=λxs Q=>Gi.wp xs.1 Q) AI Fc (AK Tryz.func56 (by kernel_rfl) (by kernel_rfl)) λxs Q=>by kernel_rfl λ⟨x0,_⟩hl hp=>Gi.spec x0
noncomputable def GC.con:AM:=⟨[.d tC],none,λx=>AL [.bool] (GC.fn x)⟩
theorem GC.ok:AN prog 65 GC.con:=AQ (A:=.mk [] [] [] [] []) (Wp:=λxs Q=>GC.wp xs.1 Q) AI Fc (AK Tryz.func65 (by kernel_rfl) (by kernel_rfl)) λxs Q=>by kernel_rfl λ⟨x0,_⟩hl hp=>GC.spec x0
noncomputable def Ft.con:AM:=⟨[.d tC,.d (.sl tI)],none,λx=>AL [.bool,tI] (Ft.fn x)⟩
theorem Ft.ok:AN prog 75 Ft.con:=AQ (A:=.mk [] [] [] [] []) (Wp:=λxs Q=>Ft.wp xs.1 xs.2.1 Q) AI Fc (AK Tryz.func75 (by kernel_rfl) (by kernel_rfl)) λxs Q=>by kernel_rfl λ⟨x0,x1,_⟩hl hp=>Ft.spec x0 x1
noncomputable def Ax.con:AM:=⟨[.d tS,.d (.sl tI)],some λx=>Ax.pre x,λx=>AL [.bool] (Ax.fn x)⟩
theorem Ax.ok:AN prog 37 Ax.con:=AQ (A:=.mk [] [(0,⟨[.t 10 tI],[],[17,16,15,14,6,13,12,11],[]⟩)] [] [] []) (Wp:=λxs Q=>Ax.wp xs.1 xs.2.1 Q) AI Fc (AK Tryz.func37 (by kernel_rfl) (by kernel_rfl)) λxs Q=>by kernel_rfl λ⟨x0,x1,_⟩hl hp=>Ax.spec x0 x1 hl.1.2.1 hp
noncomputable def F5.con:AM:=⟨[.d tL,.d tI,.d tI],none,λx=>AL [tL,tI] (F5.fn x)⟩
theorem F5.ok:AN prog 80 F5.con:=AQ (A:=.mk [] [] [] [] []) (Wp:=λxs Q=>F5.wp xs.1 xs.2.1 xs.2.2.1 Q) AI Fc (AK Tryz.func80 (by kernel_rfl) (by kernel_rfl)) λxs Q=>by kernel_rfl λ⟨x0,x1,x2,_⟩hl hp=>F5.spec x0 x1 x2 hl.1.1.1
noncomputable def Vz:List (Nat×CX):=(58,.con EE.con)::(139,.con Dr.con)::(140,.con Dq.con)::(141,.con Dp.con)::(94,.con Fq.con)::(99,.con Cr.con)::(32,.con DP.con)::(33,.con Bl.con)::(89,.con D8.con)::(112,.con Fj.con)::(54,.con Fh.con)::(56,.con Gi.con)::(65,.con GC.con)::(75,.con Ft.con)::(37,.con Ax.con)::(80,.con F5.con)::Vx
theorem W0:A3 prog λn=>Bp n Vz:=AP EE.ok (AP Dr.ok (AP Dq.ok (AP Dp.ok (AP Fq.ok (AP Cr.ok (AP DP.ok (AP Bl.ok (AP D8.ok (AP Fj.ok (AP Fh.ok (AP Gi.ok (AP GC.ok (AP Ft.ok (AP Ax.ok (AP F5.ok Wz)))))))))))))))
noncomputable def κ4:Ar:=λn=>Bp n Vz
theorem Wt:A3 prog κ4:=W0
theorem IY:CM prog (walk τ0 κ4 φA):=CY AI Wt C5 mixed
noncomputable def Bf.con:AM:=⟨[.d tS],none,λx=>AL [.bool] (Bf.fn x)⟩
theorem Bf.ok:AN prog 44 Bf.con:=AQ (A:=.mk [] [(0,⟨[.t 22 tI],[],[36,35,34,33,32,31,30,29,28,27,26,4,25,24,23],[]⟩)] [] [] []) (Wp:=λxs Q=>Bf.wp xs.1 Q) AI IY (AK Tryz.func44 (by kernel_rfl) (by kernel_rfl)) λxs Q=>by kernel_rfl λ⟨x0,_⟩hl hp=>Bf.spec x0 hl.1.2.1
noncomputable def KE.con:AM:=⟨[],none,λ_=>.agg [.fn (.func 139) [] [],.fn (.func 140) [] [],.fn (.func 141) [] []]⟩
theorem KE.val(xs:B9 [])(Q:V→Prop):Q (KE.con.res xs)=NI τ0 (walk τ0 κ4 φA) An.none (Ck Tryz.f122) [] xs Q:=by kernel_rfl
theorem KE.ok:AN prog 122 KE.con:=Wr AI (CY AI Wt C5 mixed) (AK Tryz.func122 (by kernel_rfl) (by kernel_rfl)) λxs _ _=>Eq.mp (KE.val xs _) rfl
noncomputable def DI.con:AM:=⟨[.d tC,.d tC],some λx=>DI.pre x,λx=>AL [.bool] (DI.fn x)⟩
theorem DI.ok:AN prog 101 DI.con:=AQ (A:=.mk [] [] [] [] []) (Wp:=λxs Q=>DI.wp xs.1 xs.2.1 Q) AI IY (AK Tryz.func101 (by kernel_rfl) (by kernel_rfl)) λxs Q=>by kernel_rfl λ⟨x0,x1,_⟩hl hp=>DI.spec x0 x1 hp
noncomputable def Ce.con:AM:=⟨[.d (.sl tC)],some λx=>Ce.pre x,λx=>AL [.sl tC,.bool,tI] (Ce.fn x)⟩
theorem Ce.ok:AN prog 52 Ce.con:=AQ (A:=.mk [(1000,[.own 6 tC,.own 7 tC,.own 8 tC]),(1003,[.own 13 tC])] [(0,⟨[.t 36 tI,.t 5 .bool,.row 0 tC,.row 1 tC,.row 2 tC],[6,7,8],[73,48,47,46,45,12,11,44,43,40,42,41,10,39,38,37,66,63,65,64,61,62,56,55,54,53,52,51,50,49,72,69,71,70,67,68,60,57,59,58],[]⟩),(5,⟨[.t 82 tI,.t 16 .bool,.row 3 tC],[],[107,106,105,104,103,102,101,100,99,98,97,96,95,94,93,92,91,90,89,88,87,86,85,17,84,83],[]⟩),(3,⟨[.t 76 tI,.row 3 tC],[13],[114,113,110,80,112,111,109,108,83,82,81,16,15,79,78,77,107,106,105,104,103,102,101,100,99,98,97,96,95,94,93,92,91,90,89,88,87,86,85,17,84],[]⟩),(9,⟨[.t 21 tI,.row 1 tC,.row 4 .bool],[7],[132,131,140,139,138,137,22,136,135,134,133,130,129,128,127,173,170,172,171,24,23,169,168,163,167,166,165,164,162,161,160,159,158,157,156,155,154,153,152,151,150,149,148,147,146,145,144,143,142,141],[]⟩),(7,⟨[.t 120 tI,.row 1 tC,.row 4 .bool],[],[174,130,129,128,127,132,131,140,139,138,137,22,136,135,134,133,173,170,172,171,24,23,169,168,163,167,166,165,164,162,161,160,159,158,157,156,155,154,153,152,151,150,149,148,147,146,145,144,143,142,141,21,126,125,19,20,124,123,122,121],[]⟩),(15,⟨[.t 206 tI,.row 4 .bool],[],[236,220,219,218,217,216,215,214,213,212,211,29,30,210,209,208,207,235,234,233,232,231,230,229,228,227,226,225,224,223,222,221],[]⟩),(13,⟨[.t 186 tI],[],[203,202,201,200,199,198,197,196,195,194,193,192,191,190,28,189,188,187],[]⟩),(11,⟨[.t 177 tI,.row 4 .bool],[],[237,207,236,220,219,218,217,216,215,214,213,212,211,29,30,210,209,208,235,234,233,232,231,230,229,228,227,226,225,224,223,222,221,206,205,204,187,186,185,184,183,182,25,26,181,180,179,178,203,202,201,200,199,198,197,196,195,194,193,192,191,190,28,189,188],[]⟩),(17,⟨[.t 241 tI,.row 1 tC],[31],[255,254,251,238,175,7,253,252,250,249,248,247,246,32,33,245,244,243,242],[]⟩)] [] [] []) (Wp:=λxs Q=>Ce.wp xs.1 Q) AI IY (AK Tryz.func52 (by kernel_rfl) (by kernel_rfl)) λxs Q=>by kernel_rfl λ⟨x0,_⟩hl hp=>Ce.spec x0 hp
noncomputable def Cm.con:AM:=⟨[.d tS,.d tI,.d tS,.d tI],none,λx=>AL [.bool] (Cm.fn x)⟩
theorem Cm.ok:AN prog 17 Cm.con:=AQ (A:=.mk [] [] [] [] []) (Wp:=λxs Q=>Cm.wp xs.1 xs.2.1 xs.2.2.1 xs.2.2.2.1 Q) AI IY (AK Tryz.func17 (by kernel_rfl) (by kernel_rfl)) λxs Q=>by kernel_rfl λ⟨x0,x1,x2,x3,_⟩hl hp=>Cm.spec x0 x1 x2 x3
noncomputable def D5.con:AM:=⟨[.d tS,.d tS],none,λx=>AL [tI] (D5.fn x)⟩
theorem D5.ok:AN prog 51 D5.con:=AQ (A:=.mk [] [] [] [] []) (Wp:=λxs Q=>D5.wp xs.1 xs.2.1 Q) AI IY (AK Tryz.func51 (by kernel_rfl) (by kernel_rfl)) λxs Q=>by kernel_rfl λ⟨x0,x1,_⟩hl hp=>D5.spec x0 x1
noncomputable def Gg.con:AM:=⟨[.d tC,.e (.sl tI)],none,λx=>AL [.bool] (Gg.fn x)⟩
theorem Gg.ok:AN prog 74 Gg.con:=AQ (A:=.mk [] [] [] [] []) (Wp:=λxs Q=>Gg.wp xs.1 xs.2.1 Q) AI IY (AK Tryz.func74 (by kernel_rfl) (by kernel_rfl)) λxs Q=>by kernel_rfl λ⟨x0,x1,_⟩hl hp=>Gg.spec x0 x1
noncomputable def Fi.con:AM:=⟨[.d tS,.d (.sl tI)],none,λx=>AL [.bool,tI] (Fi.fn x)⟩
theorem Fi.ok:AN prog 35 Fi.con:=AQ (A:=.mk [] [] [] [] []) (Wp:=λxs Q=>Fi.wp xs.1 xs.2.1 Q) AI IY (AK Tryz.func35 (by kernel_rfl) (by kernel_rfl)) λxs Q=>by kernel_rfl λ⟨x0,x1,_⟩hl hp=>Fi.spec x0 x1
noncomputable def ET.con:AM:=⟨[.d tL,.e tI,.e tI],some λx=>ET.pre x,λx=>AL [tL] (ET.fn x)⟩
theorem ET.ok:AN prog 79 ET.con:=AQ (A:=.mk [] [] [] [] []) (Wp:=λxs Q=>ET.wp xs.1 xs.2.1 xs.2.2.1 Q) AI IY (AK Tryz.func79 (by kernel_rfl) (by kernel_rfl)) λxs Q=>by kernel_rfl λ⟨x0,x1,x2,_⟩hl hp=>ET.spec x0 x1 x2 hp
noncomputable def F8.con:AM:=⟨[.d tS,.d tI,.d tI],none,λx=>AL [tS,tI] (F8.fn x)⟩
theorem F8.ok:AN prog 40 F8.con:=AQ (A:=.mk [(1001,[.ownc 2 1 (.sl tC)]),(1003,[.own 11 tC])] [(3,⟨[.t 56 tI,.row 4 tC],[11],[77,76,68,75,74,73,72,71,70,69,15,14,67,66,60,65,64,63,62,61,13,59,58,57],[]⟩),(1,⟨[.t 50 tI,.cell 2 0 tI,.row 3 (.sl tC)],[],[84,83,82,79,81,80,11,78,57,77,76,68,75,74,73,72,71,70,69,15,14,67,66,60,65,64,63,62,61,13,59,58,56,55,54,10,53,52,51],[]⟩)] [] [] []) (Wp:=λxs Q=>F8.wp xs.1 xs.2.1 xs.2.2.1 Q) AI IY (AK Tryz.func40 (by kernel_rfl) (by kernel_rfl)) λxs Q=>by kernel_rfl λ⟨x0,x1,x2,_⟩hl hp=>F8.spec x0 x1 x2
noncomputable def F9.con:AM:=⟨[.d tS,.d (.sl tI)],none,λx=>AL [tS,tI] (F9.fn x)⟩
theorem F9.ok:AN prog 42 F9.con:=AQ (A:=.mk [(1004,[.ownc 2 1 (.sl tC)]),(1006,[.own 13 tC])] [(2,⟨[.t 49 tI],[],[57,55,54,53,9,52,51,50],[]⟩),(0,⟨[.t 31 tI],[],[58,50,49,48,47,46,45,43,42,41,40,39,38,37,36,7,6,35,34,33,32,57,55,54,53,9,52,51],[]⟩),(8,⟨[.t 84 tI,.row 11 tI],[],[99,98,97,96,95,94,93,92,91,90,89,18,17,88,87,86,85],[]⟩),(6,⟨[.t 71 tI,.row 4 tC],[13],[109,108,100,107,106,105,81,80,104,103,102,101,85,99,98,97,96,95,94,93,92,91,90,89,18,17,88,87,86,84,83,82,16,79,78,77,76,75,15,74,73,72],[]⟩),(4,⟨[.t 65 tI,.cell 2 0 tI,.row 3 (.sl tC)],[],[116,115,114,111,113,112,13,110,72,109,108,100,107,106,105,81,80,104,103,102,101,85,99,98,97,96,95,94,93,92,91,90,89,18,17,88,87,86,84,83,82,16,79,78,77,76,75,15,74,73,71,70,69,12,68,67,66],[]⟩)] [] [] []) (Wp:=λxs Q=>F9.wp xs.1 xs.2.1 Q) AI IY (AK Tryz.func42 (by kernel_rfl) (by kernel_rfl)) λxs Q=>by kernel_rfl λ⟨x0,x1,_⟩hl hp=>F9.spec x0 x1 hl.2.1.1
noncomputable def V0:List (Nat×CX):=(44,.con Bf.con)::(122,.con KE.con)::(101,.con DI.con)::(52,.con Ce.con)::(17,.con Cm.con)::(51,.con D5.con)::(74,.con Gg.con)::(35,.con Fi.con)::(79,.con ET.con)::(40,.con F8.con)::(42,.con F9.con)::Vz
theorem W1:A3 prog λn=>Bp n V0:=AP Bf.ok (AP KE.ok (AP DI.ok (AP Ce.ok (AP Cm.ok (AP D5.ok (AP Gg.ok (AP Fi.ok (AP ET.ok (AP F8.ok (AP F9.ok W0))))))))))
noncomputable def κ5:Ar:=λn=>Bp n V0
theorem iJ:A3 prog κ5:=W1
theorem K5:CM prog (walk τ0 κ5 φA):=CY AI iJ C5 mixed
noncomputable def BU.con:AM:=⟨[.d tC],some λx=>BU.pre x,λx=>AL [tC,tI] (BU.fn x)⟩
theorem BU.ok:AN prog 93 BU.con:=AQ (A:=.mk [(1,[.cases 1 0 3])] [] [] [] []) (Wp:=λxs Q=>BU.wp xs.1 Q) AI K5 (AK Tryz.func93 (by kernel_rfl) (by kernel_rfl)) λxs Q=>by kernel_rfl λ⟨x0,_⟩hl hp=>BU.spec x0 hp
noncomputable def EF.con:AM:=⟨[.d tS,.d tS],none,λx=>AL [tI] (EF.fn x)⟩
theorem EF.ok:AN prog 48 EF.con:=AQ (A:=.mk [] [] [] [] []) (Wp:=λxs Q=>EF.wp xs.1 xs.2.1 Q) AI K5 (AK Tryz.func48 (by kernel_rfl) (by kernel_rfl)) λxs Q=>by kernel_rfl λ⟨x0,x1,_⟩hl hp=>EF.spec x0 x1
noncomputable def D6.con:AM:=⟨[.d (.sl (.sl tC))],some λx=>D6.pre x,λx=>AL [.sl (.sl tC),tI] (D6.fn x)⟩
theorem D6.ok:AN prog 85 D6.con:=AQ (A:=.mk [(1000,[.own 4 (.sl tC)])] [(0,⟨[.t 12 tI,.row 0 (.sl tC)],[4],[37,36,33,28,35,34,32,31,30,29,27,26,25,23,22,9,8,7,21,20,19,16,18,17,6,15,14,13],[]⟩)] [] [] []) (Wp:=λxs Q=>D6.wp xs.1 Q) AI K5 (AK Tryz.func85 (by kernel_rfl) (by kernel_rfl)) λxs Q=>by kernel_rfl λ⟨x0,_⟩hl hp=>D6.spec x0 hp
noncomputable def Fm.con:AM:=⟨[.d (.sl tC),.d tI],none,λx=>AL [.sl tC,.bool,tI] (Fm.fn x)⟩
theorem Fm.ok:AN prog 21 Fm.con:=AQ (A:=.mk [] [(0,⟨[.t 21 tI,.t 7 tI],[],[34,33,32,31,30,29,28,27,26,25,9,24,23,22],[]⟩)] [] [] []) (Wp:=λxs Q=>Fm.wp xs.1 xs.2.1 Q) AI K5 (AK Tryz.func21 (by kernel_rfl) (by kernel_rfl)) λxs Q=>by kernel_rfl λ⟨x0,x1,_⟩hl hp=>Fm.spec x0 x1
noncomputable def Gf.con:AM:=⟨[.d (.sl tC),.e (.sl tI)],none,λx=>AL [.bool] (Gf.fn x)⟩
theorem Gf.ok:AN prog 73 Gf.con:=AQ (A:=.mk [] [] [] [] []) (Wp:=λxs Q=>Gf.wp xs.1 xs.2.1 Q) AI K5 (AK Tryz.func73 (by kernel_rfl) (by kernel_rfl)) λxs Q=>by kernel_rfl λ⟨x0,x1,_⟩hl hp=>Gf.spec x0 x1
noncomputable def GA.con:AM:=⟨[.d tS,.d tI,.d tI],none,λx=>AL [tS,tI] (GA.fn x)⟩
theorem GA.ok:AN prog 39 GA.con:=AQ (A:=.mk [] [] [] [] []) (Wp:=λxs Q=>GA.wp xs.1 xs.2.1 xs.2.2.1 Q) AI K5 (AK Tryz.func39 (by kernel_rfl) (by kernel_rfl)) λxs Q=>by kernel_rfl λ⟨x0,x1,x2,_⟩hl hp=>GA.spec x0 x1 x2
noncomputable def GB.con:AM:=⟨[.d tS,.d (.sl tI)],none,λx=>AL [tS,tI] (GB.fn x)⟩
theorem GB.ok:AN prog 41 GB.con:=AQ (A:=.mk [] [(0,⟨[.t 21 tI,.row 3 .bool],[],[41,40,39,37,36,35,34,33,32,31,30,29,28,27,26,25,8,24,23,22],[]⟩)] [] [] []) (Wp:=λxs Q=>GB.wp xs.1 xs.2.1 Q) AI K5 (AK Tryz.func41 (by kernel_rfl) (by kernel_rfl)) λxs Q=>by kernel_rfl λ⟨x0,x1,_⟩hl hp=>GB.spec x0 x1 hl.2.1.1
noncomputable def V1:List (Nat×CX):=(93,.con BU.con)::(48,.con EF.con)::(85,.con D6.con)::(21,.con Fm.con)::(73,.con Gf.con)::(39,.con GA.con)::(41,.con GB.con)::V0
theorem W3:A3 prog λn=>Bp n V1:=AP BU.ok (AP EF.ok (AP D6.ok (AP Fm.ok (AP Gf.ok (AP GA.ok (AP GB.ok W1))))))
noncomputable def κ6:Ar:=λn=>Bp n V1
theorem iK:A3 prog κ6:=W3
theorem Qp:CM prog (walk τ0 κ6 φA):=CY AI iK C5 mixed
noncomputable def DS.con:AM:=⟨[.d (.sl tC)],some λx=>DS.pre x,λx=>AL [.sl tC,.bool] (DS.fn x)⟩
theorem DS.ok:AN prog 95 DS.con:=AQ (A:=.mk [(1002,[.own 7 tC])] [(0,⟨[.t 19 tI,.smap 0 tI],[],[33,32,31,30,29,28,27,26,25,24,5,6,23,22,21,20],[]⟩),(2,⟨[.t 37 tI,.row 2 tC,.imap 1 .bool],[7],[98,64,61,63,62,60,59,58,57,56,55,54,12,11,53,52,45,51,50,49,48,47,46,44,43,42,9,10,41,40,39,38,97,94,96,95,93,92,15,14,91,90,85,89,88,87,86,82,84,83,79,81,80,13,74,73,72,71,70,69,68,67,66,65,78,75,77,76],[]⟩)] [] [] []) (Wp:=λxs Q=>DS.wp xs.1 Q) AI Qp (AK Tryz.func95 (by kernel_rfl) (by kernel_rfl)) λxs Q=>by kernel_rfl λ⟨x0,_⟩hl hp=>DS.spec x0 hp
noncomputable def Cj.con:AM:=⟨[.d tC],some λx=>Cj.pre x,λx=>AL [tC,tI,tI] (Cj.fn x)⟩
theorem Cj.ok:AN prog 114 Cj.con:=AQ (A:=.mk [] [] [] [] []) (Wp:=λxs Q=>Cj.wp xs.1 Q) AI Qp (AK Tryz.func114 (by kernel_rfl) (by kernel_rfl)) λxs Q=>by kernel_rfl λ⟨x0,_⟩hl hp=>Cj.spec x0 hp
noncomputable def Bu.con:AM:=⟨[.d tI,.d (.sl (.sl tC))],some λx=>Bu.pre x,λx=>AL [tS,tI] (Bu.fn x)⟩
theorem Bu.ok:AN prog 47 Bu.con:=AQ (A:=.mk [] [] [] [] []) (Wp:=λxs Q=>Bu.wp xs.1 xs.2.1 Q) AI Qp (AK Tryz.func47 (by kernel_rfl) (by kernel_rfl)) λxs Q=>by kernel_rfl λ⟨x0,x1,_⟩hl hp=>Bu.spec x0 x1 hp
noncomputable def D9.con:AM:=⟨[.d tS,.d (.sl tI)],none,λx=>AL [.bool,tI] (D9.fn x)⟩
theorem D9.ok:AN prog 34 D9.con:=AQ (A:=.mk [] [(0,⟨[.t 18 tI],[],[28,27,26,25,24,23,22,7,21,20,19],[]⟩)] [] [] []) (Wp:=λxs Q=>D9.wp xs.1 xs.2.1 Q) AI Qp (AK Tryz.func34 (by kernel_rfl) (by kernel_rfl)) λxs Q=>by kernel_rfl λ⟨x0,x1,_⟩hl hp=>D9.spec x0 x1 hl.2.1.1
noncomputable def V2:List (Nat×CX):=(95,.con DS.con)::(114,.con Cj.con)::(47,.con Bu.con)::(34,.con D9.con)::V1
theorem W4:A3 prog λn=>Bp n V2:=AP DS.ok (AP Cj.ok (AP Bu.ok (AP D9.ok W3)))
noncomputable def κ7:Ar:=λn=>Bp n V2
theorem Wu:A3 prog κ7:=W4
theorem uP:Sp.Ok prog 98 (.sort tC 99 (λa b=>Cr.pre (a,b,())) λa b=>Cr.fn (a,b,())):=WI uZ uY λh=>uU (T:=tC) rA rfl uX vA h Cr.ok Jn.1 Jn.2
noncomputable def φB:Nat→Option FX:=λn=>CO n ((98,.sp (.sort tC 99 (λa b=>Cr.pre (a,b,())) λa b=>Cr.fn (a,b,())))::RM)
theorem wM:∀g fx,φB g=some fx→fx.Ok prog g:=GM uP V5
theorem tD:CM prog (walk τ0 κ7 φB):=CY AI Wu wM mixed
theorem MW:CM prog (walk τ0 κ7 φA):=CY AI Wu C5 mixed
noncomputable def AE.con:AM:=⟨[.d (.sl tC)],some λx=>AE.pre x,λx=>AL [.sl tC,.bool,tI] (AE.fn x)⟩
theorem AE.ok:AN prog 59 AE.con:=AQ (A:=.mk [(20,[.part 5]),(1000,[.own 5 tC])] [(0,⟨[.t 14 tI,.row 0 tC],[5],[31,30,27,29,28,26,25,24,23,9,8,22,21,18,20,19,7,17,16,15],[]⟩)] [] [] [(50,.mk [] [(2,⟨[.t 7 tI,.t 5 tI,.row 2 tC],[],[37,36,58,57,56,55,54,53,52,51,50,49,48,47,46,45,44,43,42,41,40,39,38,35,34,33,32],[]⟩),(0,⟨[.t 5 tI],[],[17,16,28,27,26,25,24,23,22,21,20,19,18,15,14,13,12],[]⟩)] [] [] []),(43,.mk [(1002,[.own 10 tC])] [(0,⟨[.t 20 tI,.smap 1 tI],[],[50,26,25,24,6,23,22,21,49,48,47,46,45,44,43,42,41,40,39,38,37,9,8,36,35,31,34,33,32,7,30,29,28,27],[]⟩),(2,⟨[.t 53 tI,.row 2 tC],[10],[95,74,73,72,71,70,69,14,13,68,67,60,66,65,64,63,62,61,59,58,57,12,56,55,54,90,89,88,87,86,85,84,16,15,83,82,75,81,80,79,78,77,76,94,91,93,92],[]⟩)] [] [] [])]) (Wp:=λxs Q=>AE.wp xs.1 Q) AI tD (AK Tryz.func59 (by kernel_rfl) (by kernel_rfl)) λxs Q=>by kernel_rfl λ⟨x0,_⟩hl hp=>AE.spec x0 hp
noncomputable def FK.con:AM:=⟨[.d tC],none,λx=>AL [.sl tC,tI] (FK.fn x)⟩
theorem FK.ok:AN prog 86 FK.con:=AQ (A:=.mk [(1000,[.own 4 tC])] [(0,⟨[.t 16 tI,.row 1 tC],[4],[47,46,43,45,44,39,38,37,36,35,34,33,30,32,31,26,28,27,9,8,7,25,24,23,20,22,21,6,19,18,17,40,42,41],[]⟩)] [] [] []) (Wp:=λxs Q=>FK.wp xs.1 Q) AI MW (AK Tryz.func86 (by kernel_rfl) (by kernel_rfl)) λxs Q=>by kernel_rfl λ⟨x0,_⟩hl hp=>FK.spec x0
noncomputable def EQ.con:AM:=⟨[.d tS],none,λx=>AL [tS,tI] (EQ.fn x)⟩
theorem EQ.ok:AN prog 16 EQ.con:=AQ (A:=.mk [] [] [] [] []) (Wp:=λxs Q=>EQ.wp xs.1 Q) AI MW (AK Tryz.func16 (by kernel_rfl) (by kernel_rfl)) λxs Q=>by kernel_rfl λ⟨x0,_⟩hl hp=>EQ.spec x0
noncomputable def Fo.con:AM:=⟨[.d tS,.d tS],none,λx=>AL [tS,tI] (Fo.fn x)⟩
theorem Fo.ok:AN prog 24 Fo.con:=AQ (A:=.mk [] [] [] [] []) (Wp:=λxs Q=>Fo.wp xs.1 xs.2.1 Q) AI MW (AK Tryz.func24 (by kernel_rfl) (by kernel_rfl)) λxs Q=>by kernel_rfl λ⟨x0,x1,_⟩hl hp=>Fo.spec x0 x1
noncomputable def Fk.con:AM:=⟨[.d tS,.d tS],none,λx=>AL [tS,tI] (Fk.fn x)⟩
theorem Fk.ok:AN prog 26 Fk.con:=AQ (A:=.mk [(1000,[.own 7 (.sl tC)])] [(2,⟨[.t 29 tI,.row 3 (.sl tC)],[7],[39,38,33,37,36,35,34,11,32,31,30],[]⟩),(0,⟨[.t 22 tI,.row 3 (.sl tC)],[],[40,30,39,38,33,37,36,35,34,11,32,31,29,28,27,26,9,25,24,23],[]⟩)] [] [] []) (Wp:=λxs Q=>Fk.wp xs.1 xs.2.1 Q) AI MW (AK Tryz.func26 (by kernel_rfl) (by kernel_rfl)) λxs Q=>by kernel_rfl λ⟨x0,x1,_⟩hl hp=>Fk.spec x0 x1
noncomputable def DQ.con:AM:=⟨[.d tS,.d (.sl tC)],some λx=>DQ.pre x,λx=>AL [tS,tI] (DQ.fn x)⟩
theorem DQ.ok:AN prog 28 DQ.con:=AQ (A:=.mk [(1002,[.own 9 (.sl tC)])] [(0,⟨[.t 14 tI,.t 6 tI],[],[29,28,27,26,25,24,23,22,20,19,18,8,17,16,15],[]⟩),(2,⟨[.t 41 tI,.row 2 (.sl tC)],[9],[51,50,45,49,48,47,46,11,44,43,42],[]⟩)] [] [] []) (Wp:=λxs Q=>DQ.wp xs.1 xs.2.1 Q) AI MW (AK Tryz.func28 (by kernel_rfl) (by kernel_rfl)) λxs Q=>by kernel_rfl λ⟨x0,x1,_⟩hl hp=>DQ.spec x0 x1 hp
noncomputable def FD.con:AM:=⟨[.d tS,.d tI,.d tI],none,λx=>AL [tS,tI] (FD.fn x)⟩
theorem FD.ok:AN prog 30 FD.con:=AQ (A:=.mk [(1000,[.own 8 (.sl tC)]),(1002,[.own 11 tC])] [(2,⟨[.t 42 tI,.row 3 tC],[11],[71,70,62,69,68,67,66,65,64,63,61,60,59,58,57,56,55,54,53,52,51,50,14,49,48,47,46,13,45,44,43],[]⟩),(0,⟨[.t 36 tI,.row 2 (.sl tC)],[8],[76,75,72,74,73,11,43,71,70,62,69,68,67,66,65,64,63,61,60,59,58,57,56,55,54,53,52,51,50,14,49,48,47,46,13,45,44,42,41,40,10,39,38,37],[]⟩)] [] [] []) (Wp:=λxs Q=>FD.wp xs.1 xs.2.1 xs.2.2.1 Q) AI MW (AK Tryz.func30 (by kernel_rfl) (by kernel_rfl)) λxs Q=>by kernel_rfl λ⟨x0,x1,x2,_⟩hl hp=>FD.spec x0 x1 x2
noncomputable def V3:List (Nat×CX):=(59,.con AE.con)::(86,.con FK.con)::(16,.con EQ.con)::(24,.con Fo.con)::(26,.con Fk.con)::(28,.con DQ.con)::(30,.con FD.con)::V2
theorem W5:A3 prog λn=>Bp n V3:=AP AE.ok (AP FK.ok (AP EQ.ok (AP Fo.ok (AP Fk.ok (AP DQ.ok (AP FD.ok W4))))))
noncomputable def κ8:Ar:=λn=>Bp n V3
theorem iL:A3 prog κ8:=W5
theorem Jo:CM prog (walk τ0 κ8 φA):=CY AI iL C5 mixed
noncomputable def Ap.con:AM:=⟨[.d tS],none,λx=>AL [tS,tI] (Ap.fn x)⟩
theorem Ap.ok:AN prog 15 Ap.con:=AQ (A:=.mk [] [] [] [] [(13,.mk [] [] [] [] [(10,.mk [] [] [] [] [(5000,.mk [(1000,[.ownc 15 0 (.sl tC)])] [(0,⟨[.t 7 tI,.row 20 (.sl tC),.smap 16 .bool],[],[15,14,13,12,11,4,10,9,8],[]⟩)] [] [] [])])])]) (Wp:=λxs Q=>Ap.wp xs.1 Q) AI Jo (AK Tryz.func15 (by kernel_rfl) (by kernel_rfl)) λxs Q=>by kernel_rfl λ⟨x0,_⟩hl hp=>Ap.spec x0
noncomputable def ED.con:AM:=⟨[.d (.sl tC),.d (.sl tC)],some λx=>ED.pre x,λx=>AL [.sl (.sl tC),tI] (ED.fn x)⟩
theorem ED.ok:AN prog 50 ED.con:=AQ (A:=.mk [(1000,[.own 9 (.sl tC)])] [(2,⟨[.t 48 tI,.row 1 (.sl tC)],[9],[63,62,52,61,60,59,58,57,56,55,54,53,15,51,50,49],[]⟩),(0,⟨[.t 33 tI,.row 1 (.sl tC)],[],[64,49,63,62,52,61,60,59,58,57,56,55,54,53,15,51,50,48,47,46,44,43,13,12,42,41,38,40,39,10,11,37,36,35,34],[]⟩)] [] [] []) (Wp:=λxs Q=>ED.wp xs.1 xs.2.1 Q) AI Jo (AK Tryz.func50 (by kernel_rfl) (by kernel_rfl)) λxs Q=>by kernel_rfl λ⟨x0,x1,_⟩hl hp=>ED.spec x0 x1 hp
noncomputable def Fl.con:AM:=⟨[.d tS,.d tS],none,λx=>AL [tS,tI] (Fl.fn x)⟩
theorem Fl.ok:AN prog 19 Fl.con:=AQ (A:=.mk [(1002,[.own 14 (.sl tC)])] [(6,⟨[.t 102 tI,.row 5 (.sl tC)],[14],[117,116,106,115,114,113,112,111,110,109,108,107,25,105,104,103],[]⟩),(4,⟨[.t 86 tI,.row 5 (.sl tC)],[],[118,103,117,116,106,115,114,113,112,111,110,109,108,107,25,105,104,102,101,100,97,96,23,22,95,94,91,93,92,20,21,90,89,88,87],[]⟩),(2,⟨[.t 63 tI,.row 5 (.sl tC)],[14],[119,83,80,82,81,79,76,75,19,18,17,74,73,72,67,71,70,69,68,16,66,65,64,87,118,103,117,116,106,115,114,113,112,111,110,109,108,107,25,105,104,102,101,100,97,96,23,22,95,94,91,93,92,20,21,90,89,88,86,85,84],[]⟩),(0,⟨[.t 57 tI,.t 11 (.sl (.sl tC))],[],[133,132,131,128,127,27,26,126,125,120,124,123,14,122,121,64,119,83,80,82,81,79,76,75,19,18,17,74,73,72,67,71,70,69,68,16,66,65,87,118,103,117,116,106,115,114,113,112,111,110,109,108,107,25,105,104,102,101,100,97,96,23,22,95,94,91,93,92,20,21,90,89,88,86,85,84,63,62,61,13,60,59,58],[]⟩)] [] [] []) (Wp:=λxs Q=>Fl.wp xs.1 xs.2.1 Q) AI Jo (AK Tryz.func19 (by kernel_rfl) (by kernel_rfl)) λxs Q=>by kernel_rfl λ⟨x0,x1,_⟩hl hp=>Fl.spec x0 x1
noncomputable def Fp.con:AM:=⟨[.d (.sl tC),.d tI],none,λx=>AL [.sl tC,.bool,tI] (Fp.fn x)⟩
theorem Fp.ok:AN prog 20 Fp.con:=AQ (A:=.mk [] [] [] [] []) (Wp:=λxs Q=>Fp.wp xs.1 xs.2.1 Q) AI Jo (AK Tryz.func20 (by kernel_rfl) (by kernel_rfl)) λxs Q=>by kernel_rfl λ⟨x0,x1,_⟩hl hp=>Fp.spec x0 x1
noncomputable def EU.con:AM:=⟨[.d tS,.d tS],none,λx=>AL [tS,tI] (EU.fn x)⟩
theorem EU.ok:AN prog 23 EU.con:=AQ (A:=.mk [] [] [] [] [(23,.mk [] [] [] [] [(10,.mk [] [] [] [] [(5000,.mk [(1000,[.ownc 20 0 (.sl tC)])] [(0,⟨[.t 7 tI,.row 25 (.sl tC),.smap 21 .bool],[],[15,14,13,12,11,4,10,9,8],[]⟩)] [] [] [])])])]) (Wp:=λxs Q=>EU.wp xs.1 xs.2.1 Q) AI Jo (AK Tryz.func23 (by kernel_rfl) (by kernel_rfl)) λxs Q=>by kernel_rfl λ⟨x0,x1,_⟩hl hp=>EU.spec x0 x1
noncomputable def ER.con:AM:=⟨[.d tS,.d tS],none,λx=>AL [tS,tI] (ER.fn x)⟩
theorem ER.ok:AN prog 25 ER.con:=AQ (A:=.mk [] [] [] [] [(17,.mk [] [] [] [] [(10,.mk [] [] [] [] [(5000,.mk [(1000,[.ownc 6 0 (.sl tC)])] [(2,⟨[.t 18 tI,.row 11 (.sl tC),.smap 7 .bool],[],[29,28,27,26,25,24,23,22,7,21,20,19],[]⟩),(0,⟨[.t 11 tI,.row 11 (.sl tC),.smap 7 .bool],[],[30,19,29,28,27,26,25,24,23,22,7,21,20,18,17,16,15,5,14,13,12],[]⟩)] [] [] [])])])]) (Wp:=λxs Q=>ER.wp xs.1 xs.2.1 Q) AI Jo (AK Tryz.func25 (by kernel_rfl) (by kernel_rfl)) λxs Q=>by kernel_rfl λ⟨x0,x1,_⟩hl hp=>ER.spec x0 x1
noncomputable def EC.con:AM:=⟨[.d tS,.d (.sl tC)],some λx=>EC.pre x,λx=>AL [tS,tI] (EC.fn x)⟩
theorem EC.ok:AN prog 66 EC.con:=AQ (A:=.mk [] [] [] [] [(9,.mk [] [] [] [] [(10,.mk [] [] [] [] [(5000,.mk [(1000,[.ownc 6 0 (.sl tC)])] [(0,⟨[.t 9 tI,.row 11 (.sl tC),.smap 7 .bool],[],[20,19,18,17,16,15,14,13,5,12,11,10],[]⟩)] [] [] [])])])]) (Wp:=λxs Q=>EC.wp xs.1 xs.2.1 Q) AI Jo (AK Tryz.func66 (by kernel_rfl) (by kernel_rfl)) λxs Q=>by kernel_rfl λ⟨x0,x1,_⟩hl hp=>EC.spec x0 x1 hp
noncomputable def Dh.con:AM:=⟨[.d tS,.d tI,.d tI],none,λx=>AL [tS,tI] (Dh.fn x)⟩
theorem Dh.ok:AN prog 29 Dh.con:=AQ (A:=.mk [] [] [] [] [(33,.mk [] [] [] [] [(10,.mk [] [] [] [] [(5000,.mk [(1000,[.ownc 7 0 (.sl tC)]),(1002,[.own 7 tC])] [(2,⟨[.t 19 tI,.row 13 tC],[7],[52,51,23,50,49,48,47,46,45,44,43,42,41,40,39,38,37,36,35,34,33,32,31,30,29,28,27,26,25,24,9,22,21,20],[]⟩),(0,⟨[.t 13 tI,.row 12 (.sl tC),.smap 8 .bool],[],[57,56,55,54,53,20,52,51,23,50,49,48,47,46,45,44,43,42,41,40,39,38,37,36,35,34,33,32,31,30,29,28,27,26,25,24,9,22,21,19,7,18,17,6,16,15,14],[]⟩)] [] [] [])])])]) (Wp:=λxs Q=>Dh.wp xs.1 xs.2.1 xs.2.2.1 Q) AI Jo (AK Tryz.func29 (by kernel_rfl) (by kernel_rfl)) λxs Q=>by kernel_rfl λ⟨x0,x1,x2,_⟩hl hp=>Dh.spec x0 x1 x2
noncomputable def V4:List (Nat×CX):=(15,.con Ap.con)::(50,.con ED.con)::(19,.con Fl.con)::(20,.con Fp.con)::(23,.con EU.con)::(25,.con ER.con)::(66,.con EC.con)::(29,.con Dh.con)::V3
theorem W6:A3 prog λn=>Bp n V4:=AP Ap.ok (AP ED.ok (AP Fl.ok (AP Fp.ok (AP EU.ok (AP ER.ok (AP EC.ok (AP Dh.ok W5)))))))
noncomputable def κ9:Ar:=λn=>Bp n V4
theorem iM:A3 prog κ9:=W6
theorem bJ:CM prog (walk τ0 κ9 φA):=CY AI iM C5 mixed
noncomputable def C3.con:AM:=⟨[.d tS,.d tS],none,λx=>AL [tS,tI] (C3.fn x)⟩
theorem C3.ok:AN prog 18 C3.con:=AQ (A:=.mk [] [(0,⟨[.t 42 tI,.t 8 tI,.cell 3 0 tI,.cell 3 1 (.sl (.sl tC)),.cell 5 0 tI],[],[62,60,59,58,57,56,55,54,53,48,52,51,50,49,14,47,46,13,45,44,43],[]⟩)] [] [] [(52,.mk [] [] [] [] [(10,.mk [] [] [] [] [(5000,.mk [(1000,[.ownc 11 0 (.sl tC)])] [(2,⟨[.t 28 tI,.row 16 (.sl tC),.smap 12 .bool],[],[36,35,34,33,32,10,31,30,29],[]⟩),(0,⟨[.t 13 tI,.row 16 (.sl tC),.smap 12 .bool],[],[37,29,36,35,34,33,32,10,31,30,28,27,26,24,23,8,7,22,21,17,20,19,18,6,16,15,14],[]⟩)] [] [] [])])])]) (Wp:=λxs Q=>C3.wp xs.1 xs.2.1 Q) AI bJ (AK Tryz.func18 (by kernel_rfl) (by kernel_rfl)) λxs Q=>by kernel_rfl λ⟨x0,x1,_⟩hl hp=>C3.spec x0 x1
noncomputable def DR.con:AM:=⟨[.d tS,.d (.sl tC)],some λx=>DR.pre x,λx=>AL [tS,tI] (DR.fn x)⟩
theorem DR.ok:AN prog 27 DR.con:=AQ (A:=.mk [] [] [] [] []) (Wp:=λxs Q=>DR.wp xs.1 xs.2.1 Q) AI bJ (AK Tryz.func27 (by kernel_rfl) (by kernel_rfl)) λxs Q=>by kernel_rfl λ⟨x0,x1,_⟩hl hp=>DR.spec x0 x1 hp
noncomputable def Vv:List (Nat×CX):=(18,.con C3.con)::(27,.con DR.con)::V4
theorem Wx:A3 prog λn=>Bp n Vv:=AP C3.ok (AP DR.ok W6)
noncomputable def fA:Ar:=λn=>Bp n Vv
theorem iG:A3 prog fA:=Wx
theorem tA:CM prog (walk τ0 fA φA):=CY AI iG C5 mixed
noncomputable def Ak.con:AM:=⟨[],none,λx=>AL [.bool] (Ak.fn x)⟩
theorem Ak.ok:AN prog 14 Ak.con:=AQ (A:=.mk [(6,[.frz 33])] [] [] [] []) (Wp:=λxs Q=>Ak.wp Q) AI tA (AK Tryz.func14 (by kernel_rfl) (by kernel_rfl)) λxs Q=>by kernel_rfl λ()hl hp=>by first|exact Ak.spec|exact Ak.spec hp|exact Ak.spec hl.1|exact Ak.spec hl.1 hp|exact Ak.spec hl.1.1|exact Ak.spec hl.1.1 hp|exact Ak.spec hl.1.1.1|exact Ak.spec hl.1.1.1 hp|exact Ak.spec hl.1.2.1|exact Ak.spec hl.1.2.1 hp|exact Ak.spec hl.2.1|exact Ak.spec hl.2.1 hp|exact Ak.spec hl.2.1.1|exact Ak.spec hl.2.1.1 hp|exact Ak.spec hl.2.1.1.1|exact Ak.spec hl.2.1.1.1 hp|exact Ak.spec hl.2.2.1.1 λs hs=>(hl.2.2.1.2 s hs).2.1|exact Ak.spec hl.2.2.2.1.1 λs hs=>⟨(hl.2.2.2.1.2 s hs).2.1,λp hp=>⟨((hl.2.2.2.1.2 s hs).2.2 p hp).1,λc hc=>(((hl.2.2.2.1.2 s hs).2.2 p hp).2 c hc).2.2.1.1⟩⟩
noncomputable def fB:List (Nat×CX):=(14,.con Ak.con)::Vv
theorem iN:A3 prog λn=>Bp n fB:=AP Ak.ok Wx
noncomputable def H0:Ar:=λn=>Bp n fB
theorem H6:A3 prog H0:=iN
def law04_SetNormal.A:An:=.mk [] [] [] [] []
theorem law04_SetNormal.walk(x0:PS.den (.d tS))(Q:BR [.bool]→Prop):law04_SetNormal.wp x0 Q=Fu τ0 (walk τ0 H0 φA) law04_SetNormal.A (Ck Tryz.f3) [.d tS] [.bool] (x0,()) Q:=by kernel_rfl
theorem law04_SetNormal.calls(x0:PS.den (.d tS)){W:World}(hS:DW prog W (FG W)){args:Array Value}(hr:AS prog (GJ W) (CL [.d tS] (x0,())) args.toList):Calls prog 3 args W λe w'=>e=.returned (.bool true)∧RowKit.Below W.heap.size W w':=IW AI (CY AI H6 C5 mixed) (AK Tryz.func3 (by kernel_rfl) (by kernel_rfl)) (law04_SetNormal.walk x0 _) (law04_SetNormal.spec x0) hS hr
def law04_SetMinus.A:An:=.mk [] [] [] [] []
theorem law04_SetMinus.walk(x0:PS.den (.d tS))(x1:PS.den (.d tS))(Q:BR [.bool]→Prop):law04_SetMinus.wp x0 x1 Q=Fu τ0 (walk τ0 H0 φA) law04_SetMinus.A (Ck Tryz.f4) [.d tS,.d tS] [.bool] (x0,x1,()) Q:=by kernel_rfl
theorem law04_SetMinus.calls(x0:PS.den (.d tS))(x1:PS.den (.d tS)){W:World}(hS:DW prog W (FG W)){args:Array Value}(hr:AS prog (GJ W) (CL [.d tS,.d tS] (x0,x1,())) args.toList):Calls prog 4 args W λe w'=>e=.returned (.bool true)∧RowKit.Below W.heap.size W w':=IW AI (CY AI H6 C5 mixed) (AK Tryz.func4 (by kernel_rfl) (by kernel_rfl)) (law04_SetMinus.walk x0 x1 _) (law04_SetMinus.spec x0 x1) hS hr
def law04_SetSimple.A:An:=.mk [] [] [] [] []
theorem law04_SetSimple.walk(x0:PS.den (.d (.sl tC)))(x1:PS.den (.d tI))(Q:BR [.bool]→Prop):law04_SetSimple.wp x0 x1 Q=Fu τ0 (walk τ0 H0 φA) law04_SetSimple.A (Ck Tryz.f5) [.d (.sl tC),.d tI] [.bool] (x0,x1,()) Q:=by kernel_rfl
theorem law04_SetSimple.calls(x0:PS.den (.d (.sl tC)))(x1:PS.den (.d tI)){W:World}(hS:DW prog W (FG W)){args:Array Value}(hr:AS prog (GJ W) (CL [.d (.sl tC),.d tI] (x0,x1,())) args.toList):Calls prog 5 args W λe w'=>e=.returned (.bool true)∧RowKit.Below W.heap.size W w':=IW AI (CY AI H6 C5 mixed) (AK Tryz.func5 (by kernel_rfl) (by kernel_rfl)) (law04_SetSimple.walk x0 x1 _) (law04_SetSimple.spec x0 x1) hS hr
def law04_SetJoins.A:An:=.mk [] [] [] [] []
theorem law04_SetJoins.walk(x0:PS.den (.d tS))(x1:PS.den (.d tS))(Q:BR [.bool]→Prop):law04_SetJoins.wp x0 x1 Q=Fu τ0 (walk τ0 H0 φA) law04_SetJoins.A (Ck Tryz.f6) [.d tS,.d tS] [.bool] (x0,x1,()) Q:=by kernel_rfl
theorem law04_SetJoins.calls(x0:PS.den (.d tS))(x1:PS.den (.d tS)){W:World}(hS:DW prog W (FG W)){args:Array Value}(hr:AS prog (GJ W) (CL [.d tS,.d tS] (x0,x1,())) args.toList):Calls prog 6 args W λe w'=>e=.returned (.bool true)∧RowKit.Below W.heap.size W w':=IW AI (CY AI H6 C5 mixed) (AK Tryz.func6 (by kernel_rfl) (by kernel_rfl)) (law04_SetJoins.walk x0 x1 _) (law04_SetJoins.spec x0 x1) hS hr
def law04_SetWhere.A:An:=.mk [] [] [] [] []
theorem law04_SetWhere.walk(x0:PS.den (.d tS))(x1:PS.den (.d (.sl tC)))(x2:PS.den (.d tI))(x3:PS.den (.d tI))(Q:BR [.bool]→Prop):law04_SetWhere.wp x0 x1 x2 x3 Q=Fu τ0 (walk τ0 H0 φA) law04_SetWhere.A (Ck Tryz.f7) [.d tS,.d (.sl tC),.d tI,.d tI] [.bool] (x0,x1,x2,x3,()) Q:=by kernel_rfl
theorem law04_SetWhere.calls(x0:PS.den (.d tS))(x1:PS.den (.d (.sl tC)))(x2:PS.den (.d tI))(x3:PS.den (.d tI)){W:World}(hS:DW prog W (FG W)){args:Array Value}(hr:AS prog (GJ W) (CL [.d tS,.d (.sl tC),.d tI,.d tI] (x0,x1,x2,x3,())) args.toList):Calls prog 7 args W λe w'=>e=.returned (.bool true)∧RowKit.Below W.heap.size W w':=IW AI (CY AI H6 C5 mixed) (AK Tryz.func7 (by kernel_rfl) (by kernel_rfl)) (law04_SetWhere.walk x0 x1 x2 x3 _) (law04_SetWhere.spec x0 x1 x2 x3) hS hr
def law04_SetStays.A:An:=.mk [(4,[.ownc 3 0 tS])] [(0,⟨[.t 59 tI],[],[81,80,79,78,77,76,75,74,73,72,71,70,69,68,14,13,67,66,63,65,64,12,62,61,60],[]⟩)] [(6,⟨[.t 26 tI,.t 25 tS,.t 23 tS,.row 4 tS],[],[27,24,22],[]⟩),(7,⟨[.t 33 tI,.t 32 tS,.t 30 tS,.t 29 tS,.row 4 tS],[],[34,31,28],[]⟩),(8,⟨[.t 40 tI,.t 39 tS,.t 37 tS,.t 36 tS,.row 4 tS],[],[41,38,35],[]⟩),(9,⟨[.t 47 tI,.t 46 tS,.t 44 tS,.t 43 tS,.row 4 tS],[],[48,45,42],[]⟩),(10,⟨[.t 55 tI,.t 54 tS,.t 52 tI,.t 51 tI,.t 50 tS,.row 4 tS],[],[56,53,49],[]⟩)] [] []
theorem law04_SetStays.walk(x0:PS.den (.d tS))(x1:PS.den (.d tS))(x2:PS.den (.d tI))(x3:PS.den (.d tI))(Q:BR [.bool]→Prop):law04_SetStays.wp x0 x1 x2 x3 Q=Fu τ0 (walk τ0 H0 φA) law04_SetStays.A (Ck Tryz.f8) [.d tS,.d tS,.d tI,.d tI] [.bool] (x0,x1,x2,x3,()) Q:=by kernel_rfl
theorem law04_SetStays.calls(x0:PS.den (.d tS))(x1:PS.den (.d tS))(x2:PS.den (.d tI))(x3:PS.den (.d tI)){W:World}(hS:DW prog W (FG W)){args:Array Value}(hr:AS prog (GJ W) (CL [.d tS,.d tS,.d tI,.d tI] (x0,x1,x2,x3,())) args.toList):Calls prog 8 args W λe w'=>e=.returned (.bool true)∧RowKit.Below W.heap.size W w':=IW AI (CY AI H6 C5 mixed) (AK Tryz.func8 (by kernel_rfl) (by kernel_rfl)) (law04_SetStays.walk x0 x1 x2 x3 _) (law04_SetStays.spec x0 x1 x2 x3) hS hr
def law04_SetHas.A:An:=.mk [] [] [] [] []
theorem law04_SetHas.walk(x0:PS.den (.d tS))(x1:PS.den (.d (.sl tI)))(Q:BR [.bool]→Prop):law04_SetHas.wp x0 x1 Q=Fu τ0 (walk τ0 H0 φA) law04_SetHas.A (Ck Tryz.f9) [.d tS,.d (.sl tI)] [.bool] (x0,x1,()) Q:=by kernel_rfl
theorem law04_SetHas.calls(x0:PS.den (.d tS))(x1:PS.den (.d (.sl tI))){W:World}(hS:DW prog W (FG W)){args:Array Value}(hr:AS prog (GJ W) (CL [.d tS,.d (.sl tI)] (x0,x1,())) args.toList):Calls prog 9 args W λe w'=>e=.returned (.bool true)∧RowKit.Below W.heap.size W w':=IW AI (CY AI H6 C5 mixed) (AK Tryz.func9 (by kernel_rfl) (by kernel_rfl)) (law04_SetHas.walk x0 x1 _) (law04_SetHas.spec x0 x1) hS hr
def law04_SetApart.A:An:=.mk [] [(0,⟨[.t 60 tI,.t 11 tI],[],[69,68,67,66,65,64,13,63,62,61],[]⟩)] [] [] []
theorem law04_SetApart.walk(x0:PS.den (.d tS))(x1:PS.den (.d (.sl tI)))(Q:BR [.bool]→Prop):law04_SetApart.wp x0 x1 Q=Fu τ0 (walk τ0 H0 φA) law04_SetApart.A (Ck Tryz.f10) [.d tS,.d (.sl tI)] [.bool] (x0,x1,()) Q:=by kernel_rfl
theorem law04_SetApart.calls(x0:PS.den (.d tS))(x1:PS.den (.d (.sl tI))){W:World}(hS:DW prog W (FG W)){args:Array Value}(hr:AS prog (GJ W) (CL [.d tS,.d (.sl tI)] (x0,x1,())) args.toList):Calls prog 10 args W λe w'=>e=.returned (.bool true)∧RowKit.Below W.heap.size W w':=IW AI (CY AI H6 C5 mixed) (AK Tryz.func10 (by kernel_rfl) (by kernel_rfl)) (law04_SetApart.walk x0 x1 _) (law04_SetApart.spec x0 x1) hS hr
def law04_SetPoints.A:An:=.mk [] [] [] [] []
theorem law04_SetPoints.walk(x0:PS.den (.d tS))(x1:PS.den (.d tS))(x2:PS.den (.d (.sl tI)))(x3:PS.den (.d tI))(x4:PS.den (.d tI))(Q:BR [.bool]→Prop):law04_SetPoints.wp x0 x1 x2 x3 x4 Q=Fu τ0 (walk τ0 H0 φA) law04_SetPoints.A (Ck Tryz.f11) [.d tS,.d tS,.d (.sl tI),.d tI,.d tI] [.bool] (x0,x1,x2,x3,x4,()) Q:=by kernel_rfl
theorem law04_SetPoints.calls(x0:PS.den (.d tS))(x1:PS.den (.d tS))(x2:PS.den (.d (.sl tI)))(x3:PS.den (.d tI))(x4:PS.den (.d tI)){W:World}(hS:DW prog W (FG W)){args:Array Value}(hr:AS prog (GJ W) (CL [.d tS,.d tS,.d (.sl tI),.d tI,.d tI] (x0,x1,x2,x3,x4,())) args.toList):Calls prog 11 args W λe w'=>e=.returned (.bool true)∧RowKit.Below W.heap.size W w':=IW AI (CY AI H6 C5 mixed) (AK Tryz.func11 (by kernel_rfl) (by kernel_rfl)) (law04_SetPoints.walk x0 x1 x2 x3 x4 _) (law04_SetPoints.spec x0 x1 x2 x3 x4) hS hr
def law04_SetTurns.A:An:=.mk [] [] [] [] []
theorem law04_SetTurns.walk(x0:PS.den (.d tS))(x1:PS.den (.d tI))(x2:PS.den (.d tI))(x3:PS.den (.d (.sl tI)))(Q:BR [.bool]→Prop):law04_SetTurns.wp x0 x1 x2 x3 Q=Fu τ0 (walk τ0 H0 φA) law04_SetTurns.A (Ck Tryz.f12) [.d tS,.d tI,.d tI,.d (.sl tI)] [.bool] (x0,x1,x2,x3,()) Q:=by kernel_rfl
theorem law04_SetTurns.calls(x0:PS.den (.d tS))(x1:PS.den (.d tI))(x2:PS.den (.d tI))(x3:PS.den (.d (.sl tI))){W:World}(hS:DW prog W (FG W)){args:Array Value}(hr:AS prog (GJ W) (CL [.d tS,.d tI,.d tI,.d (.sl tI)] (x0,x1,x2,x3,())) args.toList):Calls prog 12 args W λe w'=>e=.returned (.bool true)∧RowKit.Below W.heap.size W w':=IW AI (CY AI H6 C5 mixed) (AK Tryz.func12 (by kernel_rfl) (by kernel_rfl)) (law04_SetTurns.walk x0 x1 x2 x3 _) (law04_SetTurns.spec x0 x1 x2 x3) hS hr
end Go.Proofs.YtldikbpclaeajaaGreatDoor
