/- Part of a proof that a law of the program holds for every input: printed by a program of this work: how the functions are walked. No conditions. -/
import Derived.Test.YtgpdnmfpgkkgcaaGreatDoorP14
namespace Go.Proofs.YtgpdnmfpgkkgcaaGreatDoor
open Go
set_option linter.unusedVariables false
set_option maxRecDepth 8000
set_option maxHeartbeats 4000000
abbrev tI:Ty:=.int .i64
abbrev tC:Ty:=(.pair (.int .i64) (.pair (.int .i64) (.pair (.sl (.int .i64)) (.int .i64))))
abbrev tS:Ty:=.pair (.int .i64) (.sl (.sl tC))
abbrev tL:Ty:=.pair (.sl (.int .i64)) (.int .i64)
noncomputable def φL0:List (Nat×FX):=[]
theorem Zv7:∀ g fx,(fun n=>Zb9 n φL0) g=some fx→fx.Ok prog g:=ZrZ
noncomputable def φL1:List (Nat×FX):=(77,.fi (Zbj Tryz.f77))::φL0
theorem Zwf:∀ g fx,(fun n=>Zb9 n φL1) g=some fx→fx.Ok prog g:=Za7 (Zbk Tryz.func77 (by kernel_rfl) (by kernel_rfl)) Zv7
noncomputable def φL2:List (Nat×FX):=(110,.fi (Zbj Tryz.f110))::φL1
theorem Zwg:∀ g fx,(fun n=>Zb9 n φL2) g=some fx→fx.Ok prog g:=Za7 (Zbk Tryz.func110 (by kernel_rfl) (by kernel_rfl)) Zwf
noncomputable def φL3:List (Nat×FX):=(113,.fi (Zbj Tryz.f113))::φL2
theorem Zwi:∀ g fx,(fun n=>Zb9 n φL3) g=some fx→fx.Ok prog g:=Za7 (Zbk Tryz.func113 (by kernel_rfl) (by kernel_rfl)) Zwg
noncomputable def φL4:List (Nat×FX):=(42,.fi (Zbj Tryz.f42))::φL3
theorem Zwk:∀ g fx,(fun n=>Zb9 n φL4) g=some fx→fx.Ok prog g:=Za7 (Zbk Tryz.func42 (by kernel_rfl) (by kernel_rfl)) Zwi
noncomputable def φL5:List (Nat×FX):=(66,.fi (Zbj Tryz.f66))::φL4
theorem Zwj:∀ g fx,(fun n=>Zb9 n φL5) g=some fx→fx.Ok prog g:=Za7 (Zbk Tryz.func66 (by kernel_rfl) (by kernel_rfl)) Zwk
noncomputable def φL6:List (Nat×FX):=(67,.fi (Zbj Tryz.f67))::φL5
theorem Zv8:∀ g fx,(fun n=>Zb9 n φL6) g=some fx→fx.Ok prog g:=Za7 (Zbk Tryz.func67 (by kernel_rfl) (by kernel_rfl)) Zwj
noncomputable def φL7:List (Nat×FX):=(69,.fi (Zbj Tryz.f69))::φL6
theorem Zwh:∀ g fx,(fun n=>Zb9 n φL7) g=some fx→fx.Ok prog g:=Za7 (Zbk Tryz.func69 (by kernel_rfl) (by kernel_rfl)) Zv8
noncomputable def φL8:List (Nat×FX):=(101,.fi (Zbj Tryz.f101))::φL7
theorem Zwe:∀ g fx,(fun n=>Zb9 n φL8) g=some fx→fx.Ok prog g:=Za7 (Zbk Tryz.func101 (by kernel_rfl) (by kernel_rfl)) Zwh
noncomputable def φL9:List (Nat×FX):=(103,.fi (Zbj Tryz.f103))::φL8
theorem Zwm:∀ g fx,(fun n=>Zb9 n φL9) g=some fx→fx.Ok prog g:=Za7 (Zbk Tryz.func103 (by kernel_rfl) (by kernel_rfl)) Zwe
noncomputable def ZvY:List (Nat×FX):=(73,.fi (Zbj Tryz.f73))::φL9
theorem ZvO:∀ g fx,(fun n=>Zb9 n ZvY) g=some fx→fx.Ok prog g:=Za7 (Zbk Tryz.func73 (by kernel_rfl) (by kernel_rfl)) Zwm
noncomputable def Zv2:List (Nat×FX):=(72,.fi (Zbj Tryz.f72))::ZvY
theorem ZvQ:∀ g fx,(fun n=>Zb9 n Zv2) g=some fx→fx.Ok prog g:=Za7 (Zbk Tryz.func72 (by kernel_rfl) (by kernel_rfl)) ZvO
noncomputable def ZvW:List (Nat×FX):=(74,.fi (Zbj Tryz.f74))::Zv2
theorem Zvy:∀ g fx,(fun n=>Zb9 n ZvW) g=some fx→fx.Ok prog g:=Za7 (Zbk Tryz.func74 (by kernel_rfl) (by kernel_rfl)) ZvQ
noncomputable def Zuh:List (Nat×FX):=(47,.fi (Zbj Tryz.f47))::ZvW
theorem Zqz:∀ g fx,(fun n=>Zb9 n Zuh) g=some fx→fx.Ok prog g:=Za7 (Zbk Tryz.func47 (by kernel_rfl) (by kernel_rfl)) Zvy
noncomputable def φA:Nat→Option FX:=fun n=>Zb9 n Zuh
theorem ZbC:∀ g fx,φA g=some fx→fx.Ok prog g:=Zqz
noncomputable def φC:Nat→Option FX:=fun n=>Zb9 n ((115,.sp .appInt)::Zuh)
theorem ZvV:∀ g fx,φC g=some fx→fx.Ok prog g:=Za7 ZvL Zqz
noncomputable def κL0:List (Nat×CX):=(68,.clo 69)::κR
theorem Zs4:Zag prog (fun n=>ZbF n κL0):=Zmh (c:=.clo 69) (ZrK (Zbk Tryz.func68 (by kernel_rfl) (by kernel_rfl)) rfl) (ZvD)
noncomputable def κ0:Z0:=fun n=>ZbF n κL0
theorem Zb0:Zag prog κ0:=Zs4
def Za2.A:An:=.mk [] [] [] [] []
theorem Za2.walk (x0:PS.den (.d tI)) (Q:Za4 [.bool]→Prop):Za2.wp x0 Q=fnW τ0 (walk τ0 κ0 φA) Za2.A (Zbj Tryz.f138) [.d tI] [.bool] (x0,()) Q:=by kernel_rfl
noncomputable def Za2.con:Con:=⟨[.d tI],none,fun x=>Zbr [.bool] (Za2.fn x)⟩
theorem Za2.ok:Zak prog 138 Za2.con:=Zg (Wp:=fun xs Q=>Za2.wp xs.1 Q) Zax (Zt Zax Zb0 ZbC mixed) (Zbk Tryz.func138 (by kernel_rfl) (by kernel_rfl)) (fun xs Q=>Za2.walk xs.1 Q) fun ⟨x0,_⟩ hl hp=>Za2.spec x0
noncomputable def ZJ.con:Con:=⟨[.d (.sl (.sl tC))],none,fun x=>.fn (.func 77) [] [.er [.d (.sl (.sl tC)) x.1]]⟩
theorem ZJ.val (xs:ZbR [.d (.sl (.sl tC))]) (Q:V→Prop):Q (ZJ.con.res xs)=fnV τ0 (walk τ0 κ0 φA) An.none (Zbj Tryz.f43) [.d (.sl (.sl tC))] xs Q:=by kernel_rfl
theorem ZJ.ok:Zak prog 43 ZJ.con:=ZlN Zax (Zt Zax Zb0 ZbC mixed) (Zbk Tryz.func43 (by kernel_rfl) (by kernel_rfl)) fun xs _ _=>Eq.mp (ZJ.val xs _) rfl
def Ze.A:An:=.mk [] [(0,⟨[.t 8 tI],[],[18,16,15,14,13,12,11,5,10,9],[]⟩)] [] [] []
theorem Ze.walk (x0:PS.den (.d (.sl tC))) (x1:PS.den (.f [tC] [.bool])) (Q:Za4 [tI]→Prop):Ze.wp x0 x1 Q=fnW τ0 (walk τ0 κ0 φA) Ze.A (Zbj Tryz.f122) [.d (.sl tC),.f [tC] [.bool]] [tI] (x0,x1,()) Q:=by kernel_rfl
noncomputable def Ze.con:Con:=⟨[.d (.sl tC),.f [tC] [.bool]],some fun x=>Ze.pre x,fun x=>Zbr [tI] (Ze.fn x)⟩
theorem Ze.ok:Zak prog 122 Ze.con:=Zg (Wp:=fun xs Q=>Ze.wp xs.1 xs.2.1 Q) Zax (Zt Zax Zb0 ZbC mixed) (Zbk Tryz.func122 (by kernel_rfl) (by kernel_rfl)) (fun xs Q=>Ze.walk xs.1 xs.2.1 Q) fun ⟨x0,x1,_⟩ hl hp=>Ze.spec x0 x1 hl.1.1 hp
def Zr.A:An:=.mk [] [(0,⟨[.t 11 tI,.t 1 (.int .u64)],[],[19,18,17,16,15,8,14,13,12],[]⟩)] [] [] []
theorem Zr.walk (x0:PS.den (.d (.sl tI))) (x1:PS.den (.d (.int .u64))) (x2:PS.den (.f [(.int .u64),tI] [(.int .u64)])) (Q:Za4 [(.int .u64)]→Prop):Zr.wp x0 x1 x2 Q=fnW τ0 (walk τ0 κ0 φA) Zr.A (Zbj Tryz.f146) [.d (.sl tI),.d (.int .u64),.f [(.int .u64),tI] [(.int .u64)]] [(.int .u64)] (x0,x1,x2,()) Q:=by kernel_rfl
noncomputable def Zr.con:Con:=⟨[.d (.sl tI),.d (.int .u64),.f [(.int .u64),tI] [(.int .u64)]],some fun x=>Zr.pre x,fun x=>Zbr [(.int .u64)] (Zr.fn x)⟩
theorem Zr.ok:Zak prog 146 Zr.con:=Zg (Wp:=fun xs Q=>Zr.wp xs.1 xs.2.1 xs.2.2.1 Q) Zax (Zt Zax Zb0 ZbC mixed) (Zbk Tryz.func146 (by kernel_rfl) (by kernel_rfl)) (fun xs Q=>Zr.walk xs.1 xs.2.1 xs.2.2.1 Q) fun ⟨x0,x1,x2,_⟩ hl hp=>Zr.spec x0 x1 x2 hl.1.1 hp
def ZS.A:An:=.mk [] [(0,⟨[.t 1 (.int .u64),.t 0 (.int .u64)],[],[10,9,8,7,6,5],[]⟩)] [] [] []
theorem ZS.walk (x0:PS.den (.d (.int .u64))) (x1:PS.den (.d (.int .u64))) (Q:Za4 [(.int .u64)]→Prop):ZS.wp x0 x1 Q=fnW τ0 (walk τ0 κ0 φA) ZS.A (Zbj Tryz.f148) [.d (.int .u64),.d (.int .u64)] [(.int .u64)] (x0,x1,()) Q:=by kernel_rfl
noncomputable def ZS.con:Con:=⟨[.d (.int .u64),.d (.int .u64)],none,fun x=>Zbr [(.int .u64)] (ZS.fn x)⟩
theorem ZS.ok:Zak prog 148 ZS.con:=Zg (Wp:=fun xs Q=>ZS.wp xs.1 xs.2.1 Q) Zax (Zt Zax Zb0 ZbC mixed) (Zbk Tryz.func148 (by kernel_rfl) (by kernel_rfl)) (fun xs Q=>ZS.walk xs.1 xs.2.1 Q) fun ⟨x0,x1,_⟩ hl hp=>ZS.spec x0 x1
def ZaU.A:An:=.mk [] [] [] [] []
theorem ZaU.walk (x0:PS.den (.d tI)) (Q:Za4 [(.int .u64)]→Prop):ZaU.wp x0 Q=fnW τ0 (walk τ0 κ0 φA) ZaU.A (Zbj Tryz.f184) [.d tI] [(.int .u64)] (x0,()) Q:=by kernel_rfl
noncomputable def ZaU.con:Con:=⟨[.d tI],none,fun x=>Zbr [(.int .u64)] (ZaU.fn x)⟩
theorem ZaU.ok:Zak prog 184 ZaU.con:=Zg (Wp:=fun xs Q=>ZaU.wp xs.1 Q) Zax (Zt Zax Zb0 ZbC mixed) (Zbk Tryz.func184 (by kernel_rfl) (by kernel_rfl)) (fun xs Q=>ZaU.walk xs.1 Q) fun ⟨x0,_⟩ hl hp=>ZaU.spec x0
def Zar.A:An:=.mk [] [] [] [] []
theorem Zar.walk (x0:PS.den (.d .bool)) (Q:Za4 [tC,tI]→Prop):Zar.wp x0 Q=fnW τ0 (walk τ0 κ0 φA) Zar.A (Zbj Tryz.f170) [.d .bool] [tC,tI] (x0,()) Q:=by kernel_rfl
noncomputable def Zar.con:Con:=⟨[.d .bool],none,fun x=>Zbr [tC,tI] (Zar.fn x)⟩
theorem Zar.ok:Zak prog 170 Zar.con:=Zg (Wp:=fun xs Q=>Zar.wp xs.1 Q) Zax (Zt Zax Zb0 ZbC mixed) (Zbk Tryz.func170 (by kernel_rfl) (by kernel_rfl)) (fun xs Q=>Zar.walk xs.1 Q) fun ⟨x0,_⟩ hl hp=>Zar.spec x0
def Zab.A:An:=.mk [] [] [] [] []
theorem Zab.walk (x0:PS.den (.d tI)) (x1:PS.den (.d tI)) (Q:Za4 [tI,tI]→Prop):Zab.wp x0 x1 Q=fnW τ0 (walk τ0 κ0 φA) Zab.A (Zbj Tryz.f171) [.d tI,.d tI] [tI,tI] (x0,x1,()) Q:=by kernel_rfl
noncomputable def Zab.con:Con:=⟨[.d tI,.d tI],some fun x=>Zab.pre x,fun x=>Zbr [tI,tI] (Zab.fn x)⟩
theorem Zab.ok:Zak prog 171 Zab.con:=Zg (Wp:=fun xs Q=>Zab.wp xs.1 xs.2.1 Q) Zax (Zt Zax Zb0 ZbC mixed) (Zbk Tryz.func171 (by kernel_rfl) (by kernel_rfl)) (fun xs Q=>Zab.walk xs.1 xs.2.1 Q) fun ⟨x0,x1,_⟩ hl hp=>Zab.spec x0 x1 hp
def Zq.A:An:=.mk [] [(0,⟨[.t 19 tI,.row 1 tI],[],[30,29,28,27,26,25,24,7,6,23,22,21,20],[]⟩)] [] [] []
theorem Zq.walk (x0:PS.den (.d tC)) (x1:PS.den (.d tI)) (Q:Za4 [(.sl tI)]→Prop):Zq.wp x0 x1 Q=fnW τ0 (walk τ0 κ0 φA) Zq.A (Zbj Tryz.f172) [.d tC,.d tI] [(.sl tI)] (x0,x1,()) Q:=by kernel_rfl
noncomputable def Zq.con:Con:=⟨[.d tC,.d tI],some fun x=>Zq.pre x,fun x=>Zbr [(.sl tI)] (Zq.fn x)⟩
theorem Zq.ok:Zak prog 172 Zq.con:=Zg (Wp:=fun xs Q=>Zq.wp xs.1 xs.2.1 Q) Zax (Zt Zax Zb0 ZbC mixed) (Zbk Tryz.func172 (by kernel_rfl) (by kernel_rfl)) (fun xs Q=>Zq.walk xs.1 xs.2.1 Q) fun ⟨x0,x1,_⟩ hl hp=>Zq.spec x0 x1 hp
def ZaT.A:An:=.mk [] [] [] [] []
theorem ZaT.walk (x0:PS.den (.d tI)) (x1:PS.den (.d tI)) (Q:Za4 [tI,tI]→Prop):ZaT.wp x0 x1 Q=fnW τ0 (walk τ0 κ0 φA) ZaT.A (Zbj Tryz.f173) [.d tI,.d tI] [tI,tI] (x0,x1,()) Q:=by kernel_rfl
noncomputable def ZaT.con:Con:=⟨[.d tI,.d tI],some fun x=>ZaT.pre x,fun x=>Zbr [tI,tI] (ZaT.fn x)⟩
theorem ZaT.ok:Zak prog 173 ZaT.con:=Zg (Wp:=fun xs Q=>ZaT.wp xs.1 xs.2.1 Q) Zax (Zt Zax Zb0 ZbC mixed) (Zbk Tryz.func173 (by kernel_rfl) (by kernel_rfl)) (fun xs Q=>ZaT.walk xs.1 xs.2.1 Q) fun ⟨x0,x1,_⟩ hl hp=>ZaT.spec x0 x1 hp
def Zam.A:An:=.mk [(1000,[.own 5 (.int .u8)])] [(0,⟨[.t 10 tI,.row 0 (.int .u8)],[5],[22,21,19,18,20,14,17,16,15,7,13,12,11],[]⟩)] [] [] []
theorem Zam.walk (x0:PS.den (.d (.sl tI))) (x1:PS.den (.d tI)) (Q:Za4 [.str]→Prop):Zam.wp x0 x1 Q=fnW τ0 (walk τ0 κ0 φC) Zam.A (Zbj Tryz.f116) [.d (.sl tI),.d tI] [.str] (x0,x1,()) Q:=by kernel_rfl
noncomputable def Zam.con:Con:=⟨[.d (.sl tI),.d tI],some fun x=>Zam.pre x,fun x=>Zbr [.str] (Zam.fn x)⟩
theorem Zam.ok:Zak prog 116 Zam.con:=Zg (Wp:=fun xs Q=>Zam.wp xs.1 xs.2.1 Q) Zax (Zt Zax Zb0 ZvV mixed) (Zbk Tryz.func116 (by kernel_rfl) (by kernel_rfl)) (fun xs Q=>Zam.walk xs.1 xs.2.1 Q) fun ⟨x0,x1,_⟩ hl hp=>Zam.spec x0 x1 hp
def ZaP.A:An:=.mk [] [(0,⟨[.t 8 tI],[],[16,14,13,12,5,11,10,9],[]⟩)] [] [] []
theorem ZaP.walk (x0:PS.den (.d (.sl tI))) (Q:Za4 [tI]→Prop):ZaP.wp x0 Q=fnW τ0 (walk τ0 κ0 φA) ZaP.A (Zbj Tryz.f134) [.d (.sl tI)] [tI] (x0,()) Q:=by kernel_rfl
noncomputable def ZaP.con:Con:=⟨[.d (.sl tI)],none,fun x=>Zbr [tI] (ZaP.fn x)⟩
theorem ZaP.ok:Zak prog 134 ZaP.con:=Zg (Wp:=fun xs Q=>ZaP.wp xs.1 Q) Zax (Zt Zax Zb0 ZbC mixed) (Zbk Tryz.func134 (by kernel_rfl) (by kernel_rfl)) (fun xs Q=>ZaP.walk xs.1 Q) fun ⟨x0,_⟩ hl hp=>ZaP.spec x0 hl.1.1
def ZM.A:An:=.mk [] [] [] [] []
theorem ZM.walk (x0:PS.den (.d tI)) (Q:Za4 [.bool]→Prop):ZM.wp x0 Q=fnW τ0 (walk τ0 κ0 φA) ZM.A (Zbj Tryz.f162) [.d tI] [.bool] (x0,()) Q:=by kernel_rfl
noncomputable def ZM.con:Con:=⟨[.d tI],none,fun x=>Zbr [.bool] (ZM.fn x)⟩
theorem ZM.ok:Zak prog 162 ZM.con:=Zg (Wp:=fun xs Q=>ZM.wp xs.1 Q) Zax (Zt Zax Zb0 ZbC mixed) (Zbk Tryz.func162 (by kernel_rfl) (by kernel_rfl)) (fun xs Q=>ZM.walk xs.1 Q) fun ⟨x0,_⟩ hl hp=>ZM.spec x0
def ZE.A:An:=.mk [] [(0,⟨[.t 28 tI,.row 6 tI],[],[50,49,48,47,46,45,44,43,42,41,40,39,38,37,36,35,34,33,32,31,10,30,29],[]⟩)] [] [] []
theorem ZE.walk (x0:PS.den (.d tI)) (x1:PS.den (.d tL)) (x2:PS.den (.d tI)) (x3:PS.den (.d tL)) (Q:Za4 [tL]→Prop):ZE.wp x0 x1 x2 x3 Q=fnW τ0 (walk τ0 κ0 φA) ZE.A (Zbj Tryz.f102) [.d tI,.d tL,.d tI,.d tL] [tL] (x0,x1,x2,x3,()) Q:=by kernel_rfl
noncomputable def ZE.con:Con:=⟨[.d tI,.d tL,.d tI,.d tL],some fun x=>ZE.pre x,fun x=>Zbr [tL] (ZE.fn x)⟩
theorem ZE.ok:Zak prog 102 ZE.con:=Zg (Wp:=fun xs Q=>ZE.wp xs.1 xs.2.1 xs.2.2.1 xs.2.2.2.1 Q) Zax (Zt Zax Zb0 ZbC mixed) (Zbk Tryz.func102 (by kernel_rfl) (by kernel_rfl)) (fun xs Q=>ZE.walk xs.1 xs.2.1 xs.2.2.1 xs.2.2.2.1 Q) fun ⟨x0,x1,x2,x3,_⟩ hl hp=>ZE.spec x0 x1 x2 x3 hp
def ZY.A:An:=.mk [] [] [] [] []
theorem ZY.walk (x0:PS.den (.d tL)) (x1:PS.den (.d tI)) (Q:Za4 [tL]→Prop):ZY.wp x0 x1 Q=fnW τ0 (walk τ0 κ0 φA) ZY.A (Zbj Tryz.f105) [.d tL,.d tI] [tL] (x0,x1,()) Q:=by kernel_rfl
noncomputable def ZY.con:Con:=⟨[.d tL,.d tI],some fun x=>ZY.pre x,fun x=>Zbr [tL] (ZY.fn x)⟩
theorem ZY.ok:Zak prog 105 ZY.con:=Zg (Wp:=fun xs Q=>ZY.wp xs.1 xs.2.1 Q) Zax (Zt Zax Zb0 ZbC mixed) (Zbk Tryz.func105 (by kernel_rfl) (by kernel_rfl)) (fun xs Q=>ZY.walk xs.1 xs.2.1 Q) fun ⟨x0,x1,_⟩ hl hp=>ZY.spec x0 x1 hp
def ZO.A:An:=.mk [] [(2,⟨[.t 29 tI,.t 5 tI,.t 6 tI,.row 1 tI,.row 3 tI],[],[77,34,36,35,12,11,33,32,31,30,52,51,50,49,48,47,46,45,44,43,42,41,37,40,39,38,66,65,64,63,62,61,53,60,59,58,57,56,55,54,76,75,74,73,72,71,67,70,69,68],[]⟩),(0,⟨[.t 21 tI,.t 5 tI,.t 6 tI,.row 1 tI,.row 3 tI],[],[78,30,77,34,36,35,12,11,33,32,31,52,51,50,49,48,47,46,45,44,43,42,41,37,40,39,38,66,65,64,63,62,61,53,60,59,58,57,56,55,54,76,75,74,73,72,71,67,70,69,68,29,28,27,26,25,10,24,23,22],[]⟩),(5,⟨[.t 86 tI,.t 13 tI],[],[109,108,107,106,105,104,103,102,101,100,99,98,97,96,95,94,93,92,91,90,89,14,88,87],[]⟩)] [] [] []
theorem ZO.walk (x0:PS.den (.d (.sl tC))) (x1:PS.den (.d tI)) (Q:Za4 [tI]→Prop):ZO.wp x0 x1 Q=fnW τ0 (walk τ0 κ0 φA) ZO.A (Zbj Tryz.f58) [.d (.sl tC),.d tI] [tI] (x0,x1,()) Q:=by kernel_rfl
noncomputable def ZO.con:Con:=⟨[.d (.sl tC),.d tI],some fun x=>ZO.pre x,fun x=>Zbr [tI] (ZO.fn x)⟩
theorem ZO.ok:Zak prog 58 ZO.con:=Zg (Wp:=fun xs Q=>ZO.wp xs.1 xs.2.1 Q) Zax (Zt Zax Zb0 ZbC mixed) (Zbk Tryz.func58 (by kernel_rfl) (by kernel_rfl)) (fun xs Q=>ZO.walk xs.1 xs.2.1 Q) fun ⟨x0,x1,_⟩ hl hp=>ZO.spec x0 x1 hp
def ZaD.A:An:=.mk [] [(0,⟨[.t 23 tI],[],[37,36,35,34,33,32,31,30,29,28,27,26,5,25,24],[]⟩)] [] [] []
theorem ZaD.walk (x0:PS.den (.d tL)) (x1:PS.den (.d tL)) (Q:Za4 [.bool]→Prop):ZaD.wp x0 x1 Q=fnW τ0 (walk τ0 κ0 φA) ZaD.A (Zbj Tryz.f127) [.d tL,.d tL] [.bool] (x0,x1,()) Q:=by kernel_rfl
noncomputable def ZaD.con:Con:=⟨[.d tL,.d tL],none,fun x=>Zbr [.bool] (ZaD.fn x)⟩
theorem ZaD.ok:Zak prog 127 ZaD.con:=Zg (Wp:=fun xs Q=>ZaD.wp xs.1 xs.2.1 Q) Zax (Zt Zax Zb0 ZbC mixed) (Zbk Tryz.func127 (by kernel_rfl) (by kernel_rfl)) (fun xs Q=>ZaD.walk xs.1 xs.2.1 Q) fun ⟨x0,x1,_⟩ hl hp=>ZaD.spec x0 x1 hl.1.1.1
def Za1.A:An:=.mk [] [] [] [] []
theorem Za1.walk (x0:PS.den (.d tI)) (x1:PS.den (.d (.sl tI))) (Q:Za4 [tC]→Prop):Za1.wp x0 x1 Q=fnW τ0 (walk τ0 κ0 φA) Za1.A (Zbj Tryz.f37) [.d tI,.d (.sl tI)] [tC] (x0,x1,()) Q:=by kernel_rfl
noncomputable def Za1.con:Con:=⟨[.d tI,.d (.sl tI)],none,fun x=>Zbr [tC] (Za1.fn x)⟩
theorem Za1.ok:Zak prog 37 Za1.con:=Zg (Wp:=fun xs Q=>Za1.wp xs.1 xs.2.1 Q) Zax (Zt Zax Zb0 ZbC mixed) (Zbk Tryz.func37 (by kernel_rfl) (by kernel_rfl)) (fun xs Q=>Za1.walk xs.1 xs.2.1 Q) fun ⟨x0,x1,_⟩ hl hp=>Za1.spec x0 x1
def ZR.A:An:=.mk [] [] [] [] []
theorem ZR.walk (x0:PS.den (.d tI)) (x1:PS.den (.d tI)) (Q:Za4 [(.sl tC)]→Prop):ZR.wp x0 x1 Q=fnW τ0 (walk τ0 κ0 φA) ZR.A (Zbj Tryz.f38) [.d tI,.d tI] [(.sl tC)] (x0,x1,()) Q:=by kernel_rfl
noncomputable def ZR.con:Con:=⟨[.d tI,.d tI],none,fun x=>Zbr [(.sl tC)] (ZR.fn x)⟩
theorem ZR.ok:Zak prog 38 ZR.con:=Zg (Wp:=fun xs Q=>ZR.wp xs.1 xs.2.1 Q) Zax (Zt Zax Zb0 ZbC mixed) (Zbk Tryz.func38 (by kernel_rfl) (by kernel_rfl)) (fun xs Q=>ZR.walk xs.1 xs.2.1 Q) fun ⟨x0,x1,_⟩ hl hp=>ZR.spec x0 x1
def Zau.A:An:=.mk [] [] [] [] []
theorem Zau.walk (x0:PS.den (.d tI)) (Q:Za4 [.bool]→Prop):Zau.wp x0 Q=fnW τ0 (walk τ0 κ0 φA) Zau.A (Zbj Tryz.f121) [.d tI] [.bool] (x0,()) Q:=by kernel_rfl
noncomputable def Zau.con:Con:=⟨[.d tI],none,fun x=>Zbr [.bool] (Zau.fn x)⟩
theorem Zau.ok:Zak prog 121 Zau.con:=Zg (Wp:=fun xs Q=>Zau.wp xs.1 Q) Zax (Zt Zax Zb0 ZbC mixed) (Zbk Tryz.func121 (by kernel_rfl) (by kernel_rfl)) (fun xs Q=>Zau.walk xs.1 Q) fun ⟨x0,_⟩ hl hp=>Zau.spec x0
def ZW.A:An:=.mk [] [] [] [] []
theorem ZW.walk (x0:PS.den (.d tI)) (x1:PS.den (.d tI)) (Q:Za4 [tI,tI]→Prop):ZW.wp x0 x1 Q=fnW τ0 (walk τ0 κ0 φA) ZW.A (Zbj Tryz.f51) [.d tI,.d tI] [tI,tI] (x0,x1,()) Q:=by kernel_rfl
noncomputable def ZW.con:Con:=⟨[.d tI,.d tI],some fun x=>ZW.pre x,fun x=>Zbr [tI,tI] (ZW.fn x)⟩
theorem ZW.ok:Zak prog 51 ZW.con:=Zg (Wp:=fun xs Q=>ZW.wp xs.1 xs.2.1 Q) Zax (Zt Zax Zb0 ZbC mixed) (Zbk Tryz.func51 (by kernel_rfl) (by kernel_rfl)) (fun xs Q=>ZW.walk xs.1 xs.2.1 Q) fun ⟨x0,x1,_⟩ hl hp=>ZW.spec x0 x1 hp
def Zai.A:An:=.mk [] [] [] [] []
theorem Zai.walk (x0:PS.den (.d tI)) (x1:PS.den (.d tI)) (Q:Za4 [tI,tI]→Prop):Zai.wp x0 x1 Q=fnW τ0 (walk τ0 κ0 φA) Zai.A (Zbj Tryz.f53) [.d tI,.d tI] [tI,tI] (x0,x1,()) Q:=by kernel_rfl
noncomputable def Zai.con:Con:=⟨[.d tI,.d tI],some fun x=>Zai.pre x,fun x=>Zbr [tI,tI] (Zai.fn x)⟩
theorem Zai.ok:Zak prog 53 Zai.con:=Zg (Wp:=fun xs Q=>Zai.wp xs.1 xs.2.1 Q) Zax (Zt Zax Zb0 ZbC mixed) (Zbk Tryz.func53 (by kernel_rfl) (by kernel_rfl)) (fun xs Q=>Zai.walk xs.1 xs.2.1 Q) fun ⟨x0,x1,_⟩ hl hp=>Zai.spec x0 x1 hp
def ZaN.A:An:=.mk [] [] [] [] []
theorem ZaN.walk (x0:PS.den (.d tI)) (Q:Za4 [(.int .u64)]→Prop):ZaN.wp x0 Q=fnW τ0 (walk τ0 κ0 φA) ZaN.A (Zbj Tryz.f164) [.d tI] [(.int .u64)] (x0,()) Q:=by kernel_rfl
noncomputable def ZaN.con:Con:=⟨[.d tI],none,fun x=>Zbr [(.int .u64)] (ZaN.fn x)⟩
theorem ZaN.ok:Zak prog 164 ZaN.con:=Zg (Wp:=fun xs Q=>ZaN.wp xs.1 Q) Zax (Zt Zax Zb0 ZbC mixed) (Zbk Tryz.func164 (by kernel_rfl) (by kernel_rfl)) (fun xs Q=>ZaN.walk xs.1 Q) fun ⟨x0,_⟩ hl hp=>ZaN.spec x0
def Zac.A:An:=.mk [] [] [] [] []
theorem Zac.walk (x0:PS.den (.d .bool)) (Q:Za4 [tC,tI]→Prop):Zac.wp x0 Q=fnW τ0 (walk τ0 κ0 φA) Zac.A (Zbj Tryz.f140) [.d .bool] [tC,tI] (x0,()) Q:=by kernel_rfl
noncomputable def Zac.con:Con:=⟨[.d .bool],none,fun x=>Zbr [tC,tI] (Zac.fn x)⟩
theorem Zac.ok:Zak prog 140 Zac.con:=Zg (Wp:=fun xs Q=>Zac.wp xs.1 Q) Zax (Zt Zax Zb0 ZbC mixed) (Zbk Tryz.func140 (by kernel_rfl) (by kernel_rfl)) (fun xs Q=>Zac.walk xs.1 Q) fun ⟨x0,_⟩ hl hp=>Zac.spec x0
def ZP.A:An:=.mk [] [(0,⟨[.t 19 tI,.row 2 tI],[],[31,30,29,28,27,26,25,24,9,8,23,22,21,20],[]⟩)] [] [] []
theorem ZP.walk (x0:PS.den (.d tL)) (x1:PS.den (.d tI)) (x2:PS.den (.d tI)) (Q:Za4 [tL]→Prop):ZP.wp x0 x1 x2 Q=fnW τ0 (walk τ0 κ0 φA) ZP.A (Zbj Tryz.f141) [.d tL,.d tI,.d tI] [tL] (x0,x1,x2,()) Q:=by kernel_rfl
noncomputable def ZP.con:Con:=⟨[.d tL,.d tI,.d tI],some fun x=>ZP.pre x,fun x=>Zbr [tL] (ZP.fn x)⟩
theorem ZP.ok:Zak prog 141 ZP.con:=Zg (Wp:=fun xs Q=>ZP.wp xs.1 xs.2.1 xs.2.2.1 Q) Zax (Zt Zax Zb0 ZbC mixed) (Zbk Tryz.func141 (by kernel_rfl) (by kernel_rfl)) (fun xs Q=>ZP.walk xs.1 xs.2.1 xs.2.2.1 Q) fun ⟨x0,x1,x2,_⟩ hl hp=>ZP.spec x0 x1 x2 hp
def ZA.A:An:=.mk [] [(0,⟨[.t 12 tI,.t 6 .bool,.t 5 .bool],[],[48,47,46,45,44,43,42,41,40,39,38,37,36,35,34,33,32,31,30,29,28,27,26,25,24,23,22,21,20,19,18,17,16,15,7,14,13],[]⟩)] [] [] []
theorem ZA.walk (x0:PS.den (.d tC)) (x1:PS.den (.d tC)) (Q:Za4 [tI]→Prop):ZA.wp x0 x1 Q=fnW τ0 (walk τ0 κ0 φA) ZA.A (Zbj Tryz.f125) [.d tC,.d tC] [tI] (x0,x1,()) Q:=by kernel_rfl
noncomputable def ZA.con:Con:=⟨[.d tC,.d tC],some fun x=>ZA.pre x,fun x=>Zbr [tI] (ZA.fn x)⟩
theorem ZA.ok:Zak prog 125 ZA.con:=Zg (Wp:=fun xs Q=>ZA.wp xs.1 xs.2.1 Q) Zax (Zt Zax Zb0 ZbC mixed) (Zbk Tryz.func125 (by kernel_rfl) (by kernel_rfl)) (fun xs Q=>ZA.walk xs.1 xs.2.1 Q) fun ⟨x0,x1,_⟩ hl hp=>ZA.spec x0 x1 hp
def ZQ.A:An:=.mk [] [(0,⟨[.t 8 tI],[],[31,21,30,29,28,27,26,25,24,23,22,11,20,19,18,17,16,15,14,13,12,5,10,9],[]⟩)] [] [] []
theorem ZQ.walk (x0:PS.den (.d (.sl tI))) (x1:PS.den (.d (.sl tI))) (Q:Za4 [tI]→Prop):ZQ.wp x0 x1 Q=fnW τ0 (walk τ0 κ0 φA) ZQ.A (Zbj Tryz.f165) [.d (.sl tI),.d (.sl tI)] [tI] (x0,x1,()) Q:=by kernel_rfl
noncomputable def ZQ.con:Con:=⟨[.d (.sl tI),.d (.sl tI)],some fun x=>ZQ.pre x,fun x=>Zbr [tI] (ZQ.fn x)⟩
theorem ZQ.ok:Zak prog 165 ZQ.con:=Zg (Wp:=fun xs Q=>ZQ.wp xs.1 xs.2.1 Q) Zax (Zt Zax Zb0 ZbC mixed) (Zbk Tryz.func165 (by kernel_rfl) (by kernel_rfl)) (fun xs Q=>ZQ.walk xs.1 xs.2.1 Q) fun ⟨x0,x1,_⟩ hl hp=>ZQ.spec x0 x1 hl.1.1 hp
def Zav.A:An:=.mk [] [] [] [] []
theorem Zav.walk (x0:PS.den (.d tI)) (Q:Za4 [tI]→Prop):Zav.wp x0 Q=fnW τ0 (walk τ0 κ0 φA) Zav.A (Zbj Tryz.f166) [.d tI] [tI] (x0,()) Q:=by kernel_rfl
noncomputable def Zav.con:Con:=⟨[.d tI],none,fun x=>Zbr [tI] (Zav.fn x)⟩
theorem Zav.ok:Zak prog 166 Zav.con:=Zg (Wp:=fun xs Q=>Zav.wp xs.1 Q) Zax (Zt Zax Zb0 ZbC mixed) (Zbk Tryz.func166 (by kernel_rfl) (by kernel_rfl)) (fun xs Q=>Zav.walk xs.1 Q) fun ⟨x0,_⟩ hl hp=>Zav.spec x0
def Z7.A:An:=.mk [] [] [] [] []
theorem Z7.walk (x0:PS.den (.d tI)) (Q:Za4 [tI]→Prop):Z7.wp x0 Q=fnW τ0 (walk τ0 κ0 φA) Z7.A (Zbj Tryz.f79) [.d tI] [tI] (x0,()) Q:=by kernel_rfl
noncomputable def Z7.con:Con:=⟨[.d tI],some fun x=>Z7.pre x,fun x=>Zbr [tI] (Z7.fn x)⟩
theorem Z7.ok:Zak prog 79 Z7.con:=Zg (Wp:=fun xs Q=>Z7.wp xs.1 Q) Zax (Zt Zax Zb0 ZbC mixed) (Zbk Tryz.func79 (by kernel_rfl) (by kernel_rfl)) (fun xs Q=>Z7.walk xs.1 Q) fun ⟨x0,_⟩ hl hp=>Z7.spec x0 hp
noncomputable def κL1:List (Nat×CX):=(138,.con Za2.con)::(43,.con ZJ.con)::(122,.con Ze.con)::(146,.con Zr.con)::(148,.con ZS.con)::(184,.con ZaU.con)::(170,.con Zar.con)::(171,.con Zab.con)::(172,.con Zq.con)::(173,.con ZaT.con)::(116,.con Zam.con)::(134,.con ZaP.con)::(162,.con ZM.con)::(102,.con ZE.con)::(105,.con ZY.con)::(58,.con ZO.con)::(127,.con ZaD.con)::(37,.con Za1.con)::(38,.con ZR.con)::(121,.con Zau.con)::(51,.con ZW.con)::(53,.con Zai.con)::(164,.con ZaN.con)::(140,.con Zac.con)::(141,.con ZP.con)::(125,.con ZA.con)::(165,.con ZQ.con)::(166,.con Zav.con)::(79,.con Z7.con)::κL0
theorem ZsK:Zag prog (fun n=>ZbF n κL1):=Zh Za2.ok (Zh ZJ.ok (Zh Ze.ok (Zh Zr.ok (Zh ZS.ok (Zh ZaU.ok (Zh Zar.ok (Zh Zab.ok (Zh Zq.ok (Zh ZaT.ok (Zh Zam.ok (Zh ZaP.ok (Zh ZM.ok (Zh ZE.ok (Zh ZY.ok (Zh ZO.ok (Zh ZaD.ok (Zh Za1.ok (Zh ZR.ok (Zh Zau.ok (Zh ZW.ok (Zh Zai.ok (Zh ZaN.ok (Zh Zac.ok (Zh ZP.ok (Zh ZA.ok (Zh ZQ.ok (Zh Zav.ok (Zh Z7.ok Zs4))))))))))))))))))))))))))))
noncomputable def κ1:Z0:=fun n=>ZbF n κL1
theorem Zfa:Zag prog κ1:=ZsK
def ZaI.A:An:=.mk [] [(0,⟨[.t 8 tI],[],[15,14,13,12,4,11,10,9],[]⟩)] [] [] []
theorem ZaI.walk (x0:PS.den (.d tL)) (Q:Za4 [.bool]→Prop):ZaI.wp x0 Q=fnW τ0 (walk τ0 κ1 φA) ZaI.A (Zbj Tryz.f123) [.d tL] [.bool] (x0,()) Q:=by kernel_rfl
noncomputable def ZaI.con:Con:=⟨[.d tL],none,fun x=>Zbr [.bool] (ZaI.fn x)⟩
theorem ZaI.ok:Zak prog 123 ZaI.con:=Zg (Wp:=fun xs Q=>ZaI.wp xs.1 Q) Zax (Zt Zax Zfa ZbC mixed) (Zbk Tryz.func123 (by kernel_rfl) (by kernel_rfl)) (fun xs Q=>ZaI.walk xs.1 Q) fun ⟨x0,_⟩ hl hp=>ZaI.spec x0 hl.1.1.1
def Zd.A:An:=.mk [] [] [] [] []
theorem Zd.walk (x0:PS.den (.d (.sl tC))) (x1:PS.den (.f [tC] [.bool])) (Q:Za4 [.bool]→Prop):Zd.wp x0 x1 Q=fnW τ0 (walk τ0 κ1 φA) Zd.A (Zbj Tryz.f88) [.d (.sl tC),.f [tC] [.bool]] [.bool] (x0,x1,()) Q:=by kernel_rfl
noncomputable def Zd.con:Con:=⟨[.d (.sl tC),.f [tC] [.bool]],some fun x=>Zd.pre x,fun x=>Zbr [.bool] (Zd.fn x)⟩
theorem Zd.ok:Zak prog 88 Zd.con:=Zg (Wp:=fun xs Q=>Zd.wp xs.1 xs.2.1 Q) Zax (Zt Zax Zfa ZbC mixed) (Zbk Tryz.func88 (by kernel_rfl) (by kernel_rfl)) (fun xs Q=>Zd.walk xs.1 xs.2.1 Q) fun ⟨x0,x1,_⟩ hl hp=>Zd.spec x0 x1 hp
def Zah.A:An:=.mk [] [] [] [] []
theorem Zah.walk (x0:PS.den (.d (.int .u64))) (x1:PS.den (.d tI)) (Q:Za4 [(.int .u64)]→Prop):Zah.wp x0 x1 Q=fnW τ0 (walk τ0 κ1 φA) Zah.A (Zbj Tryz.f183) [.d (.int .u64),.d tI] [(.int .u64)] (x0,x1,()) Q:=by kernel_rfl
noncomputable def Zah.con:Con:=⟨[.d (.int .u64),.d tI],none,fun x=>Zbr [(.int .u64)] (Zah.fn x)⟩
theorem Zah.ok:Zak prog 183 Zah.con:=Zg (Wp:=fun xs Q=>Zah.wp xs.1 xs.2.1 Q) Zax (Zt Zax Zfa ZbC mixed) (Zbk Tryz.func183 (by kernel_rfl) (by kernel_rfl)) (fun xs Q=>Zah.walk xs.1 xs.2.1 Q) fun ⟨x0,x1,_⟩ hl hp=>Zah.spec x0 x1
def Zas.A:An:=.mk [(1000,[.own 3 tC])] [(0,⟨[.t 13 tI,.row 1 tC,.smap 0 tI],[3],[58,23,20,22,21,19,18,17,6,16,15,14,57,54,52,56,55,53,51,50,34,9,8,33,32,28,31,30,29,7,27,26,25,24,49,48,47,46,45,44,43,42,41,40,39,38,37,36,35],[]⟩)] [] [] []
theorem Zas.walk (x0:PS.den (.d (.sl tC))) (Q:Za4 [(.sl tC)]→Prop):Zas.wp x0 Q=fnW τ0 (walk τ0 κ1 φA) Zas.A (Zbj Tryz.f109) [.d (.sl tC)] [(.sl tC)] (x0,()) Q:=by kernel_rfl
noncomputable def Zas.con:Con:=⟨[.d (.sl tC)],some fun x=>Zas.pre x,fun x=>Zbr [(.sl tC)] (Zas.fn x)⟩
theorem Zas.ok:Zak prog 109 Zas.con:=Zg (Wp:=fun xs Q=>Zas.wp xs.1 Q) Zax (Zt Zax Zfa ZbC mixed) (Zbk Tryz.func109 (by kernel_rfl) (by kernel_rfl)) (fun xs Q=>Zas.walk xs.1 Q) fun ⟨x0,_⟩ hl hp=>Zas.spec x0 hp
def Zu.A:An:=.mk [] [] [] [] []
theorem Zu.walk (x0:PS.den (.d tI)) (x1:PS.den (.d tI)) (Q:Za4 [tI]→Prop):Zu.wp x0 x1 Q=fnW τ0 (walk τ0 κ1 φA) Zu.A (Zbj Tryz.f135) [.d tI,.d tI] [tI] (x0,x1,()) Q:=by kernel_rfl
noncomputable def Zu.con:Con:=⟨[.d tI,.d tI],none,fun x=>Zbr [tI] (Zu.fn x)⟩
theorem Zu.ok:Zak prog 135 Zu.con:=Zg (Wp:=fun xs Q=>Zu.wp xs.1 xs.2.1 Q) Zax (Zt Zax Zfa ZbC mixed) (Zbk Tryz.func135 (by kernel_rfl) (by kernel_rfl)) (fun xs Q=>Zu.walk xs.1 xs.2.1 Q) fun ⟨x0,x1,_⟩ hl hp=>Zu.spec x0 x1
def Zn.A:An:=.mk [(1000,[.own 3 (.int .u8)])] [(0,⟨[.t 8 tI,.row 0 (.int .u8)],[3],[40,39,37,36,38,32,31,35,34,33,26,25,30,29,28,27,23,22,24,19,18,21,20,16,15,17,12,14,13,5,11,10,9],[]⟩)] [] [] []
theorem Zn.walk (x0:PS.den (.d (.sl tC))) (Q:Za4 [.str]→Prop):Zn.wp x0 Q=fnW τ0 (walk τ0 κ1 φC) Zn.A (Zbj Tryz.f76) [.d (.sl tC)] [.str] (x0,()) Q:=by kernel_rfl
noncomputable def Zn.con:Con:=⟨[.d (.sl tC)],some fun x=>Zn.pre x,fun x=>Zbr [.str] (Zn.fn x)⟩
theorem Zn.ok:Zak prog 76 Zn.con:=Zg (Wp:=fun xs Q=>Zn.wp xs.1 Q) Zax (Zt Zax Zfa ZvV mixed) (Zbk Tryz.func76 (by kernel_rfl) (by kernel_rfl)) (fun xs Q=>Zn.walk xs.1 Q) fun ⟨x0,_⟩ hl hp=>Zn.spec x0 hp
def Zp.A:An:=.mk [(1000,[.own 6 tC])] [(0,⟨[.t 29 tI,.row 6 tC],[6],[61,60,38,59,58,57,56,55,54,53,52,51,50,49,48,47,46,45,44,43,42,41,40,39,37,36,35,34,7,8,33,32,31,30,25],[]⟩)] [(5,⟨[.t 5 tI,.t 4 tI,.t 19 .bool,.t 18 tI],[],[22,21,20,17],[]⟩)] [] []
theorem Zp.walk (x0:PS.den (.d (.pair tI (.pair (.sl tC) (.pair (.sl (.pair tC (.pair tI tL))) (.pair tI (.pair (.sl (.pair tC (.pair tI tL))) (.pair (.sl (.pair tC (.pair tI tL))) (.sl (.pair tC (.pair tI tL))))))))))) (Q:Za4 [(.sl (.sl tC))]→Prop):Zp.wp x0 Q=fnW τ0 (walk τ0 κ1 φA) Zp.A (Zbj Tryz.f70) [.d (.pair tI (.pair (.sl tC) (.pair (.sl (.pair tC (.pair tI tL))) (.pair tI (.pair (.sl (.pair tC (.pair tI tL))) (.pair (.sl (.pair tC (.pair tI tL))) (.sl (.pair tC (.pair tI tL)))))))))] [(.sl (.sl tC))] (x0,()) Q:=by kernel_rfl
noncomputable def Zp.con:Con:=⟨[.d (.pair tI (.pair (.sl tC) (.pair (.sl (.pair tC (.pair tI tL))) (.pair tI (.pair (.sl (.pair tC (.pair tI tL))) (.pair (.sl (.pair tC (.pair tI tL))) (.sl (.pair tC (.pair tI tL)))))))))],some fun x=>Zp.pre x,fun x=>Zbr [(.sl (.sl tC))] (Zp.fn x)⟩
theorem Zp.ok:Zak prog 70 Zp.con:=Zg (Wp:=fun xs Q=>Zp.wp xs.1 Q) Zax (Zt Zax Zfa ZbC mixed) (Zbk Tryz.func70 (by kernel_rfl) (by kernel_rfl)) (fun xs Q=>Zp.walk xs.1 Q) fun ⟨x0,_⟩ hl hp=>Zp.spec x0 hp
def Zo.A:An:=.mk [(1000,[.own 3 tC])] [(2,⟨[.t 21 tI,.row 1 tC],[3],[39,38,25,37,36,35,34,33,32,31,30,29,28,27,26,7,24,23,22,10],[]⟩),(0,⟨[.t 14 tI,.row 1 tC],[],[40,22,39,38,25,37,36,35,34,33,32,31,30,29,28,27,26,7,24,23,21,20,19,18,5,17,16,15,10],[]⟩)] [] [] []
theorem Zo.walk (x0:PS.den (.d (.pair tI (.pair (.sl tC) (.pair (.sl (.pair tC (.pair tI tL))) (.pair tI (.pair (.sl (.pair tC (.pair tI tL))) (.pair (.sl (.pair tC (.pair tI tL))) (.sl (.pair tC (.pair tI tL))))))))))) (Q:Za4 [(.sl (.sl tC))]→Prop):Zo.wp x0 Q=fnW τ0 (walk τ0 κ1 φA) Zo.A (Zbj Tryz.f71) [.d (.pair tI (.pair (.sl tC) (.pair (.sl (.pair tC (.pair tI tL))) (.pair tI (.pair (.sl (.pair tC (.pair tI tL))) (.pair (.sl (.pair tC (.pair tI tL))) (.sl (.pair tC (.pair tI tL)))))))))] [(.sl (.sl tC))] (x0,()) Q:=by kernel_rfl
noncomputable def Zo.con:Con:=⟨[.d (.pair tI (.pair (.sl tC) (.pair (.sl (.pair tC (.pair tI tL))) (.pair tI (.pair (.sl (.pair tC (.pair tI tL))) (.pair (.sl (.pair tC (.pair tI tL))) (.sl (.pair tC (.pair tI tL)))))))))],some fun x=>Zo.pre x,fun x=>Zbr [(.sl (.sl tC))] (Zo.fn x)⟩
theorem Zo.ok:Zak prog 71 Zo.con:=Zg (Wp:=fun xs Q=>Zo.wp xs.1 Q) Zax (Zt Zax Zfa ZbC mixed) (Zbk Tryz.func71 (by kernel_rfl) (by kernel_rfl)) (fun xs Q=>Zo.walk xs.1 Q) fun ⟨x0,_⟩ hl hp=>Zo.spec x0 hp
def Zaa.A:An:=.mk [] [] [] [] []
theorem Zaa.walk (x0:PS.den (.d (.int .u64))) (x1:PS.den (.d tI)) (Q:Za4 [(.int .u64)]→Prop):Zaa.wp x0 x1 Q=fnW τ0 (walk τ0 κ1 φA) Zaa.A (Zbj Tryz.f147) [.d (.int .u64),.d tI] [(.int .u64)] (x0,x1,()) Q:=by kernel_rfl
noncomputable def Zaa.con:Con:=⟨[.d (.int .u64),.d tI],some fun x=>Zaa.pre x,fun x=>Zbr [(.int .u64)] (Zaa.fn x)⟩
theorem Zaa.ok:Zak prog 147 Zaa.con:=Zg (Wp:=fun xs Q=>Zaa.wp xs.1 xs.2.1 Q) Zax (Zt Zax Zfa ZbC mixed) (Zbk Tryz.func147 (by kernel_rfl) (by kernel_rfl)) (fun xs Q=>Zaa.walk xs.1 xs.2.1 Q) fun ⟨x0,x1,_⟩ hl hp=>Zaa.spec x0 x1 hp
def Zj.A:An:=.mk [(1000,[.own 9 tC])] [(0,⟨[.t 18 tI,.row 2 tC],[9],[47,46,29,45,44,43,42,41,40,39,38,37,36,35,34,33,32,31,30,28,27,26,25,24,23,22,11,21,20,19,14],[]⟩)] [] [] []
theorem Zj.walk (x0:PS.den (.d (.pair tI (.pair (.sl tC) (.pair (.sl (.pair tC (.pair tI tL))) (.pair tI (.pair (.sl (.pair tC (.pair tI tL))) (.pair (.sl (.pair tC (.pair tI tL))) (.sl (.pair tC (.pair tI tL))))))))))) (x1:PS.den (.d tI)) (x2:PS.den (.d tL)) (x3:PS.den (.d .bool)) (Q:Za4 [(.sl tC)]→Prop):Zj.wp x0 x1 x2 x3 Q=fnW τ0 (walk τ0 κ1 φA) Zj.A (Zbj Tryz.f104) [.d (.pair tI (.pair (.sl tC) (.pair (.sl (.pair tC (.pair tI tL))) (.pair tI (.pair (.sl (.pair tC (.pair tI tL))) (.pair (.sl (.pair tC (.pair tI tL))) (.sl (.pair tC (.pair tI tL))))))))),.d tI,.d tL,.d .bool] [(.sl tC)] (x0,x1,x2,x3,()) Q:=by kernel_rfl
noncomputable def Zj.con:Con:=⟨[.d (.pair tI (.pair (.sl tC) (.pair (.sl (.pair tC (.pair tI tL))) (.pair tI (.pair (.sl (.pair tC (.pair tI tL))) (.pair (.sl (.pair tC (.pair tI tL))) (.sl (.pair tC (.pair tI tL))))))))),.d tI,.d tL,.d .bool],some fun x=>Zj.pre x,fun x=>Zbr [(.sl tC)] (Zj.fn x)⟩
theorem Zj.ok:Zak prog 104 Zj.con:=Zg (Wp:=fun xs Q=>Zj.wp xs.1 xs.2.1 xs.2.2.1 xs.2.2.2.1 Q) Zax (Zt Zax Zfa ZbC mixed) (Zbk Tryz.func104 (by kernel_rfl) (by kernel_rfl)) (fun xs Q=>Zj.walk xs.1 xs.2.1 xs.2.2.1 xs.2.2.2.1 Q) fun ⟨x0,x1,x2,x3,_⟩ hl hp=>Zj.spec x0 x1 x2 x3 hp
def Zal.A:An:=.mk [] [] [] [] []
theorem Zal.walk (x0:PS.den (.d tC)) (x1:PS.den (.d tC)) (Q:Za4 [.bool]→Prop):Zal.wp x0 x1 Q=fnW τ0 (walk τ0 κ1 φA) Zal.A (Zbj Tryz.f93) [.d tC,.d tC] [.bool] (x0,x1,()) Q:=by kernel_rfl
noncomputable def Zal.con:Con:=⟨[.d tC,.d tC],none,fun x=>Zbr [.bool] (Zal.fn x)⟩
theorem Zal.ok:Zak prog 93 Zal.con:=Zg (Wp:=fun xs Q=>Zal.wp xs.1 xs.2.1 Q) Zax (Zt Zax Zfa ZbC mixed) (Zbk Tryz.func93 (by kernel_rfl) (by kernel_rfl)) (fun xs Q=>Zal.walk xs.1 xs.2.1 Q) fun ⟨x0,x1,_⟩ hl hp=>Zal.spec x0 x1
def Zae.A:An:=.mk [] [(0,⟨[.t 8 tI],[],[15,14,13,12,4,11,10,9],[]⟩)] [] [] []
theorem Zae.walk (x0:PS.den (.d tL)) (Q:Za4 [.bool]→Prop):Zae.wp x0 Q=fnW τ0 (walk τ0 κ1 φA) Zae.A (Zbj Tryz.f87) [.d tL] [.bool] (x0,()) Q:=by kernel_rfl
noncomputable def Zae.con:Con:=⟨[.d tL],none,fun x=>Zbr [.bool] (Zae.fn x)⟩
theorem Zae.ok:Zak prog 87 Zae.con:=Zg (Wp:=fun xs Q=>Zae.wp xs.1 Q) Zax (Zt Zax Zfa ZbC mixed) (Zbk Tryz.func87 (by kernel_rfl) (by kernel_rfl)) (fun xs Q=>Zae.walk xs.1 Q) fun ⟨x0,_⟩ hl hp=>Zae.spec x0 hl.1.1.1
def Zay.A:An:=.mk [] [(2,⟨[.t 7 (.int .u64),.t 4 (.int .u64)],[],[21,20,19,18,17,16],[]⟩),(0,⟨[.t 10 tI,.t 4 (.int .u64)],[],[22,17,16,21,20,19,18,7,15,14,6,13,12,11],[]⟩)] [] [] []
theorem Zay.walk (x0:PS.den (.d (.sl tI))) (Q:Za4 [tI,tI]→Prop):Zay.wp x0 Q=fnW τ0 (walk τ0 κ1 φA) Zay.A (Zbj Tryz.f139) [.d (.sl tI)] [tI,tI] (x0,()) Q:=by kernel_rfl
noncomputable def Zay.con:Con:=⟨[.d (.sl tI)],some fun x=>Zay.pre x,fun x=>Zbr [tI,tI] (Zay.fn x)⟩
theorem Zay.ok:Zak prog 139 Zay.con:=Zg (Wp:=fun xs Q=>Zay.wp xs.1 Q) Zax (Zt Zax Zfa ZbC mixed) (Zbk Tryz.func139 (by kernel_rfl) (by kernel_rfl)) (fun xs Q=>Zay.walk xs.1 Q) fun ⟨x0,_⟩ hl hp=>Zay.spec x0 hl.1.1 hp
def ZaK.A:An:=.mk [] [] [] [] []
theorem ZaK.walk (x0:PS.den (.d tL)) (x1:PS.den (.d tL)) (Q:Za4 [tI]→Prop):ZaK.wp x0 x1 Q=fnW τ0 (walk τ0 κ1 φA) ZaK.A (Zbj Tryz.f167) [.d tL,.d tL] [tI] (x0,x1,()) Q:=by kernel_rfl
noncomputable def ZaK.con:Con:=⟨[.d tL,.d tL],some fun x=>ZaK.pre x,fun x=>Zbr [tI] (ZaK.fn x)⟩
theorem ZaK.ok:Zak prog 167 ZaK.con:=Zg (Wp:=fun xs Q=>ZaK.wp xs.1 xs.2.1 Q) Zax (Zt Zax Zfa ZbC mixed) (Zbk Tryz.func167 (by kernel_rfl) (by kernel_rfl)) (fun xs Q=>ZaK.walk xs.1 xs.2.1 Q) fun ⟨x0,x1,_⟩ hl hp=>ZaK.spec x0 x1 hp
def ZN.A:An:=.mk [] [(2,⟨[.t 31 tI,.t 5 tI,.t 6 tI],[],[47,46,45,44,43,42,41,40,39,38,37,36,10,9,35,34,33,32],[]⟩),(0,⟨[.t 20 tI,.t 5 tI,.t 6 tI],[],[48,26,25,24,8,23,22,21,32,47,46,45,44,43,42,41,40,39,38,37,36,10,9,35,34,33,31,30,29,28,27],[]⟩),(6,⟨[.t 62 tI,.t 14 tI,.t 15 tI],[],[91,68,80,79,78,77,76,75,74,73,72,71,70,69,17,65,64,63,90,89,81,88,87,86,85,84,83,82,67,66],[]⟩),(4,⟨[.t 13 tI,.t 12 tI,.t 11 tI],[],[59,58,104,103,102,101,100,99,98,97,96,95,94,93,92,63,91,68,80,79,78,77,76,75,74,73,72,71,70,69,17,65,64,90,89,81,88,87,86,85,84,83,82,67,66,62,14,15,61,60,57,56,55],[]⟩)] [] [] []
theorem ZN.walk (x0:PS.den (.d (.sl tC))) (x1:PS.den (.d tI)) (Q:Za4 [tI]→Prop):ZN.wp x0 x1 Q=fnW τ0 (walk τ0 κ1 φA) ZN.A (Zbj Tryz.f60) [.d (.sl tC),.d tI] [tI] (x0,x1,()) Q:=by kernel_rfl
noncomputable def ZN.con:Con:=⟨[.d (.sl tC),.d tI],some fun x=>ZN.pre x,fun x=>Zbr [tI] (ZN.fn x)⟩
theorem ZN.ok:Zak prog 60 ZN.con:=Zg (Wp:=fun xs Q=>ZN.wp xs.1 xs.2.1 Q) Zax (Zt Zax Zfa ZbC mixed) (Zbk Tryz.func60 (by kernel_rfl) (by kernel_rfl)) (fun xs Q=>ZN.walk xs.1 xs.2.1 Q) fun ⟨x0,x1,_⟩ hl hp=>ZN.spec x0 x1 hp
noncomputable def κL2:List (Nat×CX):=(123,.con ZaI.con)::(88,.con Zd.con)::(183,.con Zah.con)::(109,.con Zas.con)::(135,.con Zu.con)::(76,.con Zn.con)::(70,.con Zp.con)::(71,.con Zo.con)::(147,.con Zaa.con)::(104,.con Zj.con)::(93,.con Zal.con)::(87,.con Zae.con)::(139,.con Zay.con)::(167,.con ZaK.con)::(60,.con ZN.con)::κL1
theorem ZsV:Zag prog (fun n=>ZbF n κL2):=Zh ZaI.ok (Zh Zd.ok (Zh Zah.ok (Zh Zas.ok (Zh Zu.ok (Zh Zn.ok (Zh Zp.ok (Zh Zo.ok (Zh Zaa.ok (Zh Zj.ok (Zh Zal.ok (Zh Zae.ok (Zh Zay.ok (Zh ZaK.ok (Zh ZN.ok ZsK))))))))))))))
noncomputable def κ2:Z0:=fun n=>ZbF n κL2
theorem Zlq:Zag prog κ2:=ZsV
def Zx.A:An:=.mk [] [] [] [] []
theorem Zx.walk (x0:PS.den (.d tC)) (Q:Za4 [.bool]→Prop):Zx.wp x0 Q=fnW τ0 (walk τ0 κ2 φA) Zx.A (Zbj Tryz.f90) [.d tC] [.bool] (x0,()) Q:=by kernel_rfl
noncomputable def Zx.con:Con:=⟨[.d tC],none,fun x=>Zbr [.bool] (Zx.fn x)⟩
theorem Zx.ok:Zak prog 90 Zx.con:=Zg (Wp:=fun xs Q=>Zx.wp xs.1 Q) Zax (Zt Zax Zlq ZbC mixed) (Zbk Tryz.func90 (by kernel_rfl) (by kernel_rfl)) (fun xs Q=>Zx.walk xs.1 Q) fun ⟨x0,_⟩ hl hp=>Zx.spec x0
def ZaV.A:An:=.mk [] [] [] [] []
theorem ZaV.walk (x0:PS.den (.d (.sl tI))) (Q:Za4 [tI,tI]→Prop):ZaV.wp x0 Q=fnW τ0 (walk τ0 κ2 φA) ZaV.A (Zbj Tryz.f169) [.d (.sl tI)] [tI,tI] (x0,()) Q:=by kernel_rfl
noncomputable def ZaV.con:Con:=⟨[.d (.sl tI)],some fun x=>ZaV.pre x,fun x=>Zbr [tI,tI] (ZaV.fn x)⟩
theorem ZaV.ok:Zak prog 169 ZaV.con:=Zg (Wp:=fun xs Q=>ZaV.wp xs.1 Q) Zax (Zt Zax Zlq ZbC mixed) (Zbk Tryz.func169 (by kernel_rfl) (by kernel_rfl)) (fun xs Q=>ZaV.walk xs.1 Q) fun ⟨x0,_⟩ hl hp=>ZaV.spec x0 hp
def Zk.A:An:=.mk [] [(0,⟨[.t 11 tI],[],[30,28,27,8,26,25,24,7,23,22,21,20,19,18,17,16,6,5,15,14,13,12],[]⟩)] [] [] []
theorem Zk.walk (x0:PS.den (.d (.sl tI))) (x1:PS.den (.d (.sl tI))) (Q:Za4 [tI]→Prop):Zk.wp x0 x1 Q=fnW τ0 (walk τ0 κ2 φA) Zk.A (Zbj Tryz.f136) [.d (.sl tI),.d (.sl tI)] [tI] (x0,x1,()) Q:=by kernel_rfl
noncomputable def Zk.con:Con:=⟨[.d (.sl tI),.d (.sl tI)],none,fun x=>Zbr [tI] (Zk.fn x)⟩
theorem Zk.ok:Zak prog 136 Zk.con:=Zg (Wp:=fun xs Q=>Zk.wp xs.1 xs.2.1 Q) Zax (Zt Zax Zlq ZbC mixed) (Zbk Tryz.func136 (by kernel_rfl) (by kernel_rfl)) (fun xs Q=>Zk.walk xs.1 xs.2.1 Q) fun ⟨x0,x1,_⟩ hl hp=>Zk.spec x0 x1 hl.1.1
def ZG.A:An:=.mk [] [(0,⟨[.t 9 tI],[],[15,14,13,5,12,11,10],[]⟩)] [] [] []
theorem ZG.walk (x0:PS.den (.d (.sl tI))) (Q:Za4 [tI,tI]→Prop):ZG.wp x0 Q=fnW τ0 (walk τ0 κ2 φA) ZG.A (Zbj Tryz.f130) [.d (.sl tI)] [tI,tI] (x0,()) Q:=by kernel_rfl
noncomputable def ZG.con:Con:=⟨[.d (.sl tI)],some fun x=>ZG.pre x,fun x=>Zbr [tI,tI] (ZG.fn x)⟩
theorem ZG.ok:Zak prog 130 ZG.con:=Zg (Wp:=fun xs Q=>ZG.wp xs.1 Q) Zax (Zt Zax Zlq ZbC mixed) (Zbk Tryz.func130 (by kernel_rfl) (by kernel_rfl)) (fun xs Q=>ZG.walk xs.1 Q) fun ⟨x0,_⟩ hl hp=>ZG.spec x0 hl.1.1 hp
def ZB.A:An:=.mk [] [(0,⟨[.t 13 tI],[],[26,25,24,23,22,21,20,19,18,17,16,5,15,14],[]⟩)] [] [] []
theorem ZB.walk (x0:PS.den (.d (.sl tC))) (x1:PS.den (.d (.sl tC))) (Q:Za4 [.bool]→Prop):ZB.wp x0 x1 Q=fnW τ0 (walk τ0 κ2 φA) ZB.A (Zbj Tryz.f62) [.d (.sl tC),.d (.sl tC)] [.bool] (x0,x1,()) Q:=by kernel_rfl
noncomputable def ZB.con:Con:=⟨[.d (.sl tC),.d (.sl tC)],none,fun x=>Zbr [.bool] (ZB.fn x)⟩
theorem ZB.ok:Zak prog 62 ZB.con:=Zg (Wp:=fun xs Q=>ZB.wp xs.1 xs.2.1 Q) Zax (Zt Zax Zlq ZbC mixed) (Zbk Tryz.func62 (by kernel_rfl) (by kernel_rfl)) (fun xs Q=>ZB.walk xs.1 xs.2.1 Q) fun ⟨x0,x1,_⟩ hl hp=>ZB.spec x0 x1 hl.1.1
def Z5.A:An:=.mk [] [] [] [] []
theorem Z5.walk (x0:PS.den (.d tC)) (Q:Za4 [.bool]→Prop):Z5.wp x0 Q=fnW τ0 (walk τ0 κ2 φA) Z5.A (Zbj Tryz.f55) [.d tC] [.bool] (x0,()) Q:=by kernel_rfl
noncomputable def Z5.con:Con:=⟨[.d tC],none,fun x=>Zbr [.bool] (Z5.fn x)⟩
theorem Z5.ok:Zak prog 55 Z5.con:=Zg (Wp:=fun xs Q=>Z5.wp xs.1 Q) Zax (Zt Zax Zlq ZbC mixed) (Zbk Tryz.func55 (by kernel_rfl) (by kernel_rfl)) (fun xs Q=>Z5.walk xs.1 Q) fun ⟨x0,_⟩ hl hp=>Z5.spec x0
def ZF.A:An:=.mk [] [(1,⟨[.t 73 tI],[],[83,78,77,9,76,75,74],[]⟩),(3,⟨[.t 104 tI,.row 2 tI],[],[120,119,118,117,109,116,115,114,113,112,111,110,12,11,108,107,106,105],[]⟩)] [] [] []
theorem ZF.walk (x0:PS.den (.d tC)) (Q:Za4 [tC,tI]→Prop):ZF.wp x0 Q=fnW τ0 (walk τ0 κ2 φA) ZF.A (Zbj Tryz.f124) [.d tC] [tC,tI] (x0,()) Q:=by kernel_rfl
noncomputable def ZF.con:Con:=⟨[.d tC],some fun x=>ZF.pre x,fun x=>Zbr [tC,tI] (ZF.fn x)⟩
theorem ZF.ok:Zak prog 124 ZF.con:=Zg (Wp:=fun xs Q=>ZF.wp xs.1 Q) Zax (Zt Zax Zlq ZbC mixed) (Zbk Tryz.func124 (by kernel_rfl) (by kernel_rfl)) (fun xs Q=>ZF.walk xs.1 Q) fun ⟨x0,_⟩ hl hp=>ZF.spec x0 hp
def Zaz.A:An:=.mk [] [] [] [] []
theorem Zaz.walk (x0:PS.den (.d tC)) (x1:PS.den (.d tC)) (Q:Za4 [tI]→Prop):Zaz.wp x0 x1 Q=fnW τ0 (walk τ0 κ2 φA) Zaz.A (Zbj Tryz.f142) [.d tC,.d tC] [tI] (x0,x1,()) Q:=by kernel_rfl
noncomputable def Zaz.con:Con:=⟨[.d tC,.d tC],some fun x=>Zaz.pre x,fun x=>Zbr [tI] (Zaz.fn x)⟩
theorem Zaz.ok:Zak prog 142 Zaz.con:=Zg (Wp:=fun xs Q=>Zaz.wp xs.1 xs.2.1 Q) Zax (Zt Zax Zlq ZbC mixed) (Zbk Tryz.func142 (by kernel_rfl) (by kernel_rfl)) (fun xs Q=>Zaz.walk xs.1 xs.2.1 Q) fun ⟨x0,x1,_⟩ hl hp=>Zaz.spec x0 x1 hp
noncomputable def κL3:List (Nat×CX):=(90,.con Zx.con)::(169,.con ZaV.con)::(136,.con Zk.con)::(130,.con ZG.con)::(62,.con ZB.con)::(55,.con Z5.con)::(124,.con ZF.con)::(142,.con Zaz.con)::κL2
theorem ZsP:Zag prog (fun n=>ZbF n κL3):=Zh Zx.ok (Zh ZaV.ok (Zh Zk.ok (Zh ZG.ok (Zh ZB.ok (Zh Z5.ok (Zh ZF.ok (Zh Zaz.ok ZsV)))))))
noncomputable def κ3:Z0:=fun n=>ZbF n κL3
theorem Zj4:Zag prog κ3:=ZsP
def Za0.A:An:=.mk [] [(0,⟨[.t 9 tI],[],[24,23,22,21,20,19,18,17,16,15,14,13,6,12,11,10],[]⟩)] [] [] []
theorem Za0.walk (x0:PS.den (.d (.sl tC))) (x1:PS.den (.d tI)) (Q:Za4 [.bool]→Prop):Za0.wp x0 x1 Q=fnW τ0 (walk τ0 κ3 φA) Za0.A (Zbj Tryz.f65) [.d (.sl tC),.d tI] [.bool] (x0,x1,()) Q:=by kernel_rfl
noncomputable def Za0.con:Con:=⟨[.d (.sl tC),.d tI],none,fun x=>Zbr [.bool] (Za0.fn x)⟩
theorem Za0.ok:Zak prog 65 Za0.con:=Zg (Wp:=fun xs Q=>Za0.wp xs.1 xs.2.1 Q) Zax (Zt Zax Zj4 ZbC mixed) (Zbk Tryz.func65 (by kernel_rfl) (by kernel_rfl)) (fun xs Q=>Za0.walk xs.1 xs.2.1 Q) fun ⟨x0,x1,_⟩ hl hp=>Za0.spec x0 x1 hl.1.1
def ZC.A:An:=.mk [] [] [] [] []
theorem ZC.walk (x0:PS.den (.d tC)) (Q:Za4 [tC,tI]→Prop):ZC.wp x0 Q=fnW τ0 (walk τ0 κ3 φA) ZC.A (Zbj Tryz.f149) [.d tC] [tC,tI] (x0,()) Q:=by kernel_rfl
noncomputable def ZC.con:Con:=⟨[.d tC],some fun x=>ZC.pre x,fun x=>Zbr [tC,tI] (ZC.fn x)⟩
theorem ZC.ok:Zak prog 149 ZC.con:=Zg (Wp:=fun xs Q=>ZC.wp xs.1 Q) Zax (Zt Zax Zj4 ZbC mixed) (Zbk Tryz.func149 (by kernel_rfl) (by kernel_rfl)) (fun xs Q=>ZC.walk xs.1 Q) fun ⟨x0,_⟩ hl hp=>ZC.spec x0 hp
def ZD.A:An:=.mk [] [(0,⟨[.t 44 tI],[],[54,49,48,7,47,46,45],[]⟩)] [] [] []
theorem ZD.walk (x0:PS.den (.d tC)) (Q:Za4 [tC,tI]→Prop):ZD.wp x0 Q=fnW τ0 (walk τ0 κ3 φA) ZD.A (Zbj Tryz.f150) [.d tC] [tC,tI] (x0,()) Q:=by kernel_rfl
noncomputable def ZD.con:Con:=⟨[.d tC],some fun x=>ZD.pre x,fun x=>Zbr [tC,tI] (ZD.fn x)⟩
theorem ZD.ok:Zak prog 150 ZD.con:=Zg (Wp:=fun xs Q=>ZD.wp xs.1 Q) Zax (Zt Zax Zj4 ZbC mixed) (Zbk Tryz.func150 (by kernel_rfl) (by kernel_rfl)) (fun xs Q=>ZD.walk xs.1 Q) fun ⟨x0,_⟩ hl hp=>ZD.spec x0 hp
def Zy.A:An:=.mk [] [(0,⟨[.t 25 tI,.t 6 tI,.row 2 tI],[],[51,50,49,40,48,47,46,45,44,43,42,41,39,38,37,30,36,35,34,33,32,31,8,7,29,28,27,26],[]⟩)] [] [] []
theorem Zy.walk (x0:PS.den (.d tC)) (Q:Za4 [tC,tI]→Prop):Zy.wp x0 Q=fnW τ0 (walk τ0 κ3 φA) Zy.A (Zbj Tryz.f151) [.d tC] [tC,tI] (x0,()) Q:=by kernel_rfl
noncomputable def Zy.con:Con:=⟨[.d tC],some fun x=>Zy.pre x,fun x=>Zbr [tC,tI] (Zy.fn x)⟩
theorem Zy.ok:Zak prog 151 Zy.con:=Zg (Wp:=fun xs Q=>Zy.wp xs.1 Q) Zax (Zt Zax Zj4 ZbC mixed) (Zbk Tryz.func151 (by kernel_rfl) (by kernel_rfl)) (fun xs Q=>Zy.walk xs.1 Q) fun ⟨x0,_⟩ hl hp=>Zy.spec x0 hp
def ZaF.A:An:=.mk [] [] [] [] []
theorem ZaF.walk (x0:PS.den (.d tC)) (Q:Za4 [.bool]→Prop):ZaF.wp x0 Q=fnW τ0 (walk τ0 κ3 φA) ZaF.A (Zbj Tryz.f107) [.d tC] [.bool] (x0,()) Q:=by kernel_rfl
noncomputable def ZaF.con:Con:=⟨[.d tC],none,fun x=>Zbr [.bool] (ZaF.fn x)⟩
theorem ZaF.ok:Zak prog 107 ZaF.con:=Zg (Wp:=fun xs Q=>ZaF.wp xs.1 Q) Zax (Zt Zax Zj4 ZbC mixed) (Zbk Tryz.func107 (by kernel_rfl) (by kernel_rfl)) (fun xs Q=>ZaF.walk xs.1 Q) fun ⟨x0,_⟩ hl hp=>ZaF.spec x0
def Z4.A:An:=.mk [] [] [] [] []
theorem Z4.walk (x0:PS.den (.d tC)) (x1:PS.den (.d tC)) (Q:Za4 [tI]→Prop):Z4.wp x0 x1 Q=fnW τ0 (walk τ0 κ3 φA) Z4.A (Zbj Tryz.f112) [.d tC,.d tC] [tI] (x0,x1,()) Q:=by kernel_rfl
noncomputable def Z4.con:Con:=⟨[.d tC,.d tC],some fun x=>Z4.pre x,fun x=>Zbr [tI] (Z4.fn x)⟩
theorem Z4.ok:Zak prog 112 Z4.con:=Zg (Wp:=fun xs Q=>Z4.wp xs.1 xs.2.1 Q) Zax (Zt Zax Zj4 ZbC mixed) (Zbk Tryz.func112 (by kernel_rfl) (by kernel_rfl)) (fun xs Q=>Z4.walk xs.1 xs.2.1 Q) fun ⟨x0,x1,_⟩ hl hp=>Z4.spec x0 x1 hp
def Zao.A:An:=.mk [] [(0,⟨[.t 23 tI],[],[38,37,36,35,34,33,32,31,30,29,28,27,26,5,25,24],[]⟩)] [] [] []
theorem Zao.walk (x0:PS.den (.d tS)) (x1:PS.den (.d tS)) (Q:Za4 [.bool]→Prop):Zao.wp x0 x1 Q=fnW τ0 (walk τ0 κ3 φA) Zao.A (Zbj Tryz.f29) [.d tS,.d tS] [.bool] (x0,x1,()) Q:=by kernel_rfl
noncomputable def Zao.con:Con:=⟨[.d tS,.d tS],none,fun x=>Zbr [.bool] (Zao.fn x)⟩
theorem Zao.ok:Zak prog 29 Zao.con:=Zg (Wp:=fun xs Q=>Zao.wp xs.1 xs.2.1 Q) Zax (Zt Zax Zj4 ZbC mixed) (Zbk Tryz.func29 (by kernel_rfl) (by kernel_rfl)) (fun xs Q=>Zao.walk xs.1 xs.2.1 Q) fun ⟨x0,x1,_⟩ hl hp=>Zao.spec x0 x1 hl.1.2.1
def Zad.A:An:=.mk [] [] [] [] []
theorem Zad.walk (x0:PS.den (.d tC)) (Q:Za4 [.bool]→Prop):Zad.wp x0 Q=fnW τ0 (walk τ0 κ3 φA) Zad.A (Zbj Tryz.f89) [.d tC] [.bool] (x0,()) Q:=by kernel_rfl
noncomputable def Zad.con:Con:=⟨[.d tC],none,fun x=>Zbr [.bool] (Zad.fn x)⟩
theorem Zad.ok:Zak prog 89 Zad.con:=Zg (Wp:=fun xs Q=>Zad.wp xs.1 Q) Zax (Zt Zax Zj4 ZbC mixed) (Zbk Tryz.func89 (by kernel_rfl) (by kernel_rfl)) (fun xs Q=>Zad.walk xs.1 Q) fun ⟨x0,_⟩ hl hp=>Zad.spec x0
def ZL.A:An:=.mk [(1000,[.own 3 tC])] [(2,⟨[.t 6 tI],[],[28,27,26,25,24,23,22,21,20,19,18,17,16,15,14],[]⟩),(0,⟨[.t 10 tI,.t 3 (.sl tC)],[],[55,54,50,7,49,53,52,51,46,45,48,47,41,44,43,42,40,39,38,37,36,35,34,33,32,31,30,29,26,25,24,23,22,21,20,19,18,17,16,15,14,6,5,13,12,11,28,27],[]⟩)] [] [] []
theorem ZL.walk (x0:PS.den (.d (.sl tC))) (Q:Za4 [(.sl tC)]→Prop):ZL.wp x0 Q=fnW τ0 (walk τ0 κ3 φA) ZL.A (Zbj Tryz.f126) [.d (.sl tC)] [(.sl tC)] (x0,()) Q:=by kernel_rfl
noncomputable def ZL.con:Con:=⟨[.d (.sl tC)],some fun x=>ZL.pre x,fun x=>Zbr [(.sl tC)] (ZL.fn x)⟩
theorem ZL.ok:Zak prog 126 ZL.con:=Zg (Wp:=fun xs Q=>ZL.wp xs.1 Q) Zax (Zt Zax Zj4 ZbC mixed) (Zbk Tryz.func126 (by kernel_rfl) (by kernel_rfl)) (fun xs Q=>ZL.walk xs.1 Q) fun ⟨x0,_⟩ hl hp=>ZL.spec x0 hp
noncomputable def κL4:List (Nat×CX):=(65,.con Za0.con)::(149,.con ZC.con)::(150,.con ZD.con)::(151,.con Zy.con)::(107,.con ZaF.con)::(112,.con Z4.con)::(29,.con Zao.con)::(89,.con Zad.con)::(126,.con ZL.con)::κL3
theorem ZsY:Zag prog (fun n=>ZbF n κL4):=Zh Za0.ok (Zh ZC.ok (Zh ZD.ok (Zh Zy.ok (Zh ZaF.ok (Zh Z4.ok (Zh Zao.ok (Zh Zad.ok (Zh ZL.ok ZsP))))))))
noncomputable def κ4:Z0:=fun n=>ZbF n κL4
theorem Zsh:Zag prog κ4:=ZsY
def ZaA.A:An:=.mk [] [(0,⟨[.t 22 tI],[],[36,35,34,33,32,31,30,29,28,27,26,4,25,24,23],[]⟩)] [] [] []
theorem ZaA.walk (x0:PS.den (.d tS)) (Q:Za4 [.bool]→Prop):ZaA.wp x0 Q=fnW τ0 (walk τ0 κ4 φA) ZaA.A (Zbj Tryz.f39) [.d tS] [.bool] (x0,()) Q:=by kernel_rfl
noncomputable def ZaA.con:Con:=⟨[.d tS],none,fun x=>Zbr [.bool] (ZaA.fn x)⟩
theorem ZaA.ok:Zak prog 39 ZaA.con:=Zg (Wp:=fun xs Q=>ZaA.wp xs.1 Q) Zax (Zt Zax Zsh ZbC mixed) (Zbk Tryz.func39 (by kernel_rfl) (by kernel_rfl)) (fun xs Q=>ZaA.walk xs.1 Q) fun ⟨x0,_⟩ hl hp=>ZaA.spec x0 hl.1.2.1
noncomputable def ZbT.con:Con:=⟨[],none,fun _=>.agg [.fn (.func 149) [] [],.fn (.func 150) [] [],.fn (.func 151) [] []]⟩
theorem ZbT.val (xs:ZbR []) (Q:V→Prop):Q (ZbT.con.res xs)=fnV τ0 (walk τ0 κ4 φA) An.none (Zbj Tryz.f131) [] xs Q:=by kernel_rfl
theorem ZbT.ok:Zak prog 131 ZbT.con:=ZlN Zax (Zt Zax Zsh ZbC mixed) (Zbk Tryz.func131 (by kernel_rfl) (by kernel_rfl)) fun xs _ _=>Eq.mp (ZbT.val xs _) rfl
def ZZ.A:An:=.mk [] [] [] [] []
theorem ZZ.walk (x0:PS.den (.d tC)) (x1:PS.den (.d tC)) (Q:Za4 [.bool]→Prop):ZZ.wp x0 x1 Q=fnW τ0 (walk τ0 κ4 φA) ZZ.A (Zbj Tryz.f114) [.d tC,.d tC] [.bool] (x0,x1,()) Q:=by kernel_rfl
noncomputable def ZZ.con:Con:=⟨[.d tC,.d tC],some fun x=>ZZ.pre x,fun x=>Zbr [.bool] (ZZ.fn x)⟩
theorem ZZ.ok:Zak prog 114 ZZ.con:=Zg (Wp:=fun xs Q=>ZZ.wp xs.1 xs.2.1 Q) Zax (Zt Zax Zsh ZbC mixed) (Zbk Tryz.func114 (by kernel_rfl) (by kernel_rfl)) (fun xs Q=>ZZ.walk xs.1 xs.2.1 Q) fun ⟨x0,x1,_⟩ hl hp=>ZZ.spec x0 x1 hp
def ZU.A:An:=.mk [(1000,[.own 6 tC,.own 7 tC,.own 8 tC]),(1003,[.own 13 tC])] [(0,⟨[.t 36 tI,.t 5 .bool,.row 0 tC,.row 1 tC,.row 2 tC],[6,7,8],[73,48,47,46,45,12,11,44,43,40,42,41,10,39,38,37,66,63,65,64,61,62,56,55,54,53,52,51,50,49,72,69,71,70,67,68,60,57,59,58],[]⟩),(5,⟨[.t 82 tI,.t 16 .bool,.row 3 tC],[],[107,106,105,104,103,102,101,100,99,98,97,96,95,94,93,92,91,90,89,88,87,86,85,17,84,83],[]⟩),(3,⟨[.t 76 tI,.row 3 tC],[13],[114,113,110,80,112,111,109,108,83,82,81,16,15,79,78,77,107,106,105,104,103,102,101,100,99,98,97,96,95,94,93,92,91,90,89,88,87,86,85,17,84],[]⟩),(9,⟨[.t 21 tI,.row 1 tC,.row 4 .bool],[7],[132,131,140,139,138,137,22,136,135,134,133,130,129,128,127,173,170,172,171,24,23,169,168,163,167,166,165,164,162,161,160,159,158,157,156,155,154,153,152,151,150,149,148,147,146,145,144,143,142,141],[]⟩),(7,⟨[.t 120 tI,.row 1 tC,.row 4 .bool],[],[174,130,129,128,127,132,131,140,139,138,137,22,136,135,134,133,173,170,172,171,24,23,169,168,163,167,166,165,164,162,161,160,159,158,157,156,155,154,153,152,151,150,149,148,147,146,145,144,143,142,141,21,126,125,19,20,124,123,122,121],[]⟩),(15,⟨[.t 206 tI,.row 4 .bool],[],[236,220,219,218,217,216,215,214,213,212,211,29,30,210,209,208,207,235,234,233,232,231,230,229,228,227,226,225,224,223,222,221],[]⟩),(13,⟨[.t 186 tI],[],[203,202,201,200,199,198,197,196,195,194,193,192,191,190,28,189,188,187],[]⟩),(11,⟨[.t 177 tI,.row 4 .bool],[],[237,207,236,220,219,218,217,216,215,214,213,212,211,29,30,210,209,208,235,234,233,232,231,230,229,228,227,226,225,224,223,222,221,206,205,204,187,186,185,184,183,182,25,26,181,180,179,178,203,202,201,200,199,198,197,196,195,194,193,192,191,190,28,189,188],[]⟩),(17,⟨[.t 241 tI,.row 1 tC],[31],[255,254,251,238,175,7,253,252,250,249,248,247,246,32,33,245,244,243,242],[]⟩)] [] [] []
theorem ZU.walk (x0:PS.den (.d (.sl tC))) (Q:Za4 [(.sl tC),.bool,tI]→Prop):ZU.wp x0 Q=fnW τ0 (walk τ0 κ4 φA) ZU.A (Zbj Tryz.f91) [.d (.sl tC)] [(.sl tC),.bool,tI] (x0,()) Q:=by kernel_rfl
noncomputable def ZU.con:Con:=⟨[.d (.sl tC)],some fun x=>ZU.pre x,fun x=>Zbr [(.sl tC),.bool,tI] (ZU.fn x)⟩
theorem ZU.ok:Zak prog 91 ZU.con:=Zg (Wp:=fun xs Q=>ZU.wp xs.1 Q) Zax (Zt Zax Zsh ZbC mixed) (Zbk Tryz.func91 (by kernel_rfl) (by kernel_rfl)) (fun xs Q=>ZU.walk xs.1 Q) fun ⟨x0,_⟩ hl hp=>ZU.spec x0 hp
noncomputable def κL5:List (Nat×CX):=(39,.con ZaA.con)::(131,.con ZbT.con)::(114,.con ZZ.con)::(91,.con ZU.con)::κL4
theorem ZsL:Zag prog (fun n=>ZbF n κL5):=Zh ZaA.ok (Zh ZbT.ok (Zh ZZ.ok (Zh ZU.ok ZsY)))
noncomputable def κ5:Z0:=fun n=>ZbF n κL5
theorem Zuv:Zag prog κ5:=ZsL
def Zaq.A:An:=.mk [(1,[.cases 1 0 3])] [] [] [] []
theorem Zaq.walk (x0:PS.den (.d tC)) (Q:Za4 [tC,tI]→Prop):Zaq.wp x0 Q=fnW τ0 (walk τ0 κ5 φA) Zaq.A (Zbj Tryz.f106) [.d tC] [tC,tI] (x0,()) Q:=by kernel_rfl
noncomputable def Zaq.con:Con:=⟨[.d tC],some fun x=>Zaq.pre x,fun x=>Zbr [tC,tI] (Zaq.fn x)⟩
theorem Zaq.ok:Zak prog 106 Zaq.con:=Zg (Wp:=fun xs Q=>Zaq.wp xs.1 Q) Zax (Zt Zax Zuv ZbC mixed) (Zbk Tryz.func106 (by kernel_rfl) (by kernel_rfl)) (fun xs Q=>Zaq.walk xs.1 Q) fun ⟨x0,_⟩ hl hp=>Zaq.spec x0 hp
def Z8.A:An:=.mk [] [(0,⟨[.t 21 tI,.t 7 tI],[],[34,33,32,31,30,29,28,27,26,25,9,24,23,22],[]⟩)] [] [] []
theorem Z8.walk (x0:PS.den (.d (.sl tC))) (x1:PS.den (.d tI)) (Q:Za4 [(.sl tC),.bool,tI]→Prop):Z8.wp x0 x1 Q=fnW τ0 (walk τ0 κ5 φA) Z8.A (Zbj Tryz.f59) [.d (.sl tC),.d tI] [(.sl tC),.bool,tI] (x0,x1,()) Q:=by kernel_rfl
noncomputable def Z8.con:Con:=⟨[.d (.sl tC),.d tI],none,fun x=>Zbr [(.sl tC),.bool,tI] (Z8.fn x)⟩
theorem Z8.ok:Zak prog 59 Z8.con:=Zg (Wp:=fun xs Q=>Z8.wp xs.1 xs.2.1 Q) Zax (Zt Zax Zuv ZbC mixed) (Zbk Tryz.func59 (by kernel_rfl) (by kernel_rfl)) (fun xs Q=>Z8.walk xs.1 xs.2.1 Q) fun ⟨x0,x1,_⟩ hl hp=>Z8.spec x0 x1
noncomputable def κL6:List (Nat×CX):=(106,.con Zaq.con)::(59,.con Z8.con)::κL5
theorem ZsR:Zag prog (fun n=>ZbF n κL6):=Zh Zaq.ok (Zh Z8.ok ZsL)
noncomputable def κ6:Z0:=fun n=>ZbF n κL6
theorem Zu4:Zag prog κ6:=ZsR
def Z3.A:An:=.mk [(1002,[.own 7 tC])] [(0,⟨[.t 19 tI,.smap 0 tI],[],[33,32,31,30,29,28,27,26,25,24,5,6,23,22,21,20],[]⟩),(2,⟨[.t 37 tI,.row 2 tC,.imap 1 .bool],[7],[98,64,61,63,62,60,59,58,57,56,55,54,12,11,53,52,45,51,50,49,48,47,46,44,43,42,9,10,41,40,39,38,97,94,96,95,93,92,15,14,91,90,85,89,88,87,86,82,84,83,79,81,80,13,74,73,72,71,70,69,68,67,66,65,78,75,77,76],[]⟩)] [] [] []
theorem Z3.walk (x0:PS.den (.d (.sl tC))) (Q:Za4 [(.sl tC),.bool]→Prop):Z3.wp x0 Q=fnW τ0 (walk τ0 κ6 φA) Z3.A (Zbj Tryz.f108) [.d (.sl tC)] [(.sl tC),.bool] (x0,()) Q:=by kernel_rfl
noncomputable def Z3.con:Con:=⟨[.d (.sl tC)],some fun x=>Z3.pre x,fun x=>Zbr [(.sl tC),.bool] (Z3.fn x)⟩
theorem Z3.ok:Zak prog 108 Z3.con:=Zg (Wp:=fun xs Q=>Z3.wp xs.1 Q) Zax (Zt Zax Zu4 ZbC mixed) (Zbk Tryz.func108 (by kernel_rfl) (by kernel_rfl)) (fun xs Q=>Z3.walk xs.1 Q) fun ⟨x0,_⟩ hl hp=>Z3.spec x0 hp
def ZaQ.A:An:=.mk [] [] [] [] []
theorem ZaQ.walk (x0:PS.den (.d (.sl tC))) (x1:PS.den (.d tI)) (Q:Za4 [tI,tI]→Prop):ZaQ.wp x0 x1 Q=fnW τ0 (walk τ0 κ6 φA) ZaQ.A (Zbj Tryz.f27) [.d (.sl tC),.d tI] [tI,tI] (x0,x1,()) Q:=by kernel_rfl
noncomputable def ZaQ.con:Con:=⟨[.d (.sl tC),.d tI],none,fun x=>Zbr [tI,tI] (ZaQ.fn x)⟩
theorem ZaQ.ok:Zak prog 27 ZaQ.con:=Zg (Wp:=fun xs Q=>ZaQ.wp xs.1 xs.2.1 Q) Zax (Zt Zax Zu4 ZbC mixed) (Zbk Tryz.func27 (by kernel_rfl) (by kernel_rfl)) (fun xs Q=>ZaQ.walk xs.1 xs.2.1 Q) fun ⟨x0,x1,_⟩ hl hp=>ZaQ.spec x0 x1
noncomputable def κL7:List (Nat×CX):=(108,.con Z3.con)::(27,.con ZaQ.con)::κL6
theorem ZsF:Zag prog (fun n=>ZbF n κL7):=Zh Z3.ok (Zh ZaQ.ok ZsR)
noncomputable def κ7:Z0:=fun n=>ZbF n κL7
theorem ZvH:Zag prog κ7:=ZsF
theorem ZuT:Sp.Ok prog 111 (.sort tC 112 (fun a b=>Z4.pre (a,b,())) (fun a b=>Z4.fn (a,b,()))):=Zv5 Zwb Zwa fun h=>Ztr (T:=tC) laysF6 rfl Zwq Zwn h Z4.ok Zck.1 Zck.2
noncomputable def φB:Nat→Option FX:=fun n=>Zb9 n ((111,.sp (.sort tC 112 (fun a b=>Z4.pre (a,b,())) (fun a b=>Z4.fn (a,b,()))))::Zuh)
theorem Zwc:∀ g fx,φB g=some fx→fx.Ok prog g:=Za7 ZuT Zqz
def Za.A:An:=.mk [(20,[.part 5]),(1000,[.own 5 tC])] [(0,⟨[.t 14 tI,.row 0 tC],[5],[31,30,27,29,28,26,25,24,23,9,8,22,21,18,20,19,7,17,16,15],[]⟩)] [] [] [(50,.mk [] [(2,⟨[.t 7 tI,.t 5 tI,.row 2 tC],[],[37,36,58,57,56,55,54,53,52,51,50,49,48,47,46,45,44,43,42,41,40,39,38,35,34,33,32],[]⟩),(0,⟨[.t 5 tI],[],[17,16,28,27,26,25,24,23,22,21,20,19,18,15,14,13,12],[]⟩)] [] [] []),(43,.mk [(1002,[.own 10 tC])] [(0,⟨[.t 20 tI,.smap 1 tI],[],[50,26,25,24,6,23,22,21,49,48,47,46,45,44,43,42,41,40,39,38,37,9,8,36,35,31,34,33,32,7,30,29,28,27],[]⟩),(2,⟨[.t 53 tI,.row 2 tC],[10],[95,74,73,72,71,70,69,14,13,68,67,60,66,65,64,63,62,61,59,58,57,12,56,55,54,90,89,88,87,86,85,84,16,15,83,82,75,81,80,79,78,77,76,94,91,93,92],[]⟩)] [] [] [])]
theorem Za.walk (x0:PS.den (.d (.sl tC))) (Q:Za4 [(.sl tC),.bool,tI]→Prop):Za.wp x0 Q=fnW τ0 (walk τ0 κ7 φB) Za.A (Zbj Tryz.f75) [.d (.sl tC)] [(.sl tC),.bool,tI] (x0,()) Q:=by kernel_rfl
noncomputable def Za.con:Con:=⟨[.d (.sl tC)],some fun x=>Za.pre x,fun x=>Zbr [(.sl tC),.bool,tI] (Za.fn x)⟩
theorem Za.ok:Zak prog 75 Za.con:=Zg (Wp:=fun xs Q=>Za.wp xs.1 Q) Zax (Zt Zax ZvH Zwc mixed) (Zbk Tryz.func75 (by kernel_rfl) (by kernel_rfl)) (fun xs Q=>Za.walk xs.1 Q) fun ⟨x0,_⟩ hl hp=>Za.spec x0 hp
noncomputable def κL8:List (Nat×CX):=(75,.con Za.con)::κL7
theorem ZsO:Zag prog (fun n=>ZbF n κL8):=Zh Za.ok ZsF
noncomputable def κ8:Z0:=fun n=>ZbF n κL8
theorem ZtH:Zag prog κ8:=ZsO
def ZV.A:An:=.mk [] [] [] [] [(13,.mk [] [] [] [] [(10,.mk [] [] [] [] [(5000,.mk [(1000,[.ownc 15 0 (.sl tC)])] [(0,⟨[.t 7 tI,.row 20 (.sl tC),.smap 16 .bool],[],[15,14,13,12,11,4,10,9,8],[]⟩)] [] [] [])])])]
theorem ZV.walk (x0:PS.den (.d tS)) (Q:Za4 [tS,tI]→Prop):ZV.wp x0 Q=fnW τ0 (walk τ0 κ8 φA) ZV.A (Zbj Tryz.f40) [.d tS] [tS,tI] (x0,()) Q:=by kernel_rfl
noncomputable def ZV.con:Con:=⟨[.d tS],none,fun x=>Zbr [tS,tI] (ZV.fn x)⟩
theorem ZV.ok:Zak prog 40 ZV.con:=Zg (Wp:=fun xs Q=>ZV.wp xs.1 Q) Zax (Zt Zax ZtH ZbC mixed) (Zbk Tryz.func40 (by kernel_rfl) (by kernel_rfl)) (fun xs Q=>ZV.walk xs.1 Q) fun ⟨x0,_⟩ hl hp=>ZV.spec x0
def ZI.A:An:=.mk [(10,[.nxt 60]),(2,[.frzl 2,.frzl 4,.frzl 5,.frzl 6])] [] [] [] [(41,.mk [] [] [] [] [(5000,.mk [(1000,[.ownc 62 0 (.sl tC)])] [(0,⟨[.t 8 tI,.row 67 (.sl tC),.smap 63 .bool],[],[16,15,14,13,12,4,11,10,9],[]⟩)] [] [] [(6,.mk [(4,[.frzl 3]),(1000,[.ownc 62 0 (.sl tC)]),(1002,[.ownc 62 0 (.sl tC)])] [(0,⟨[.t 40 tI,.row 70 (.sl tC),.smap 63 .bool],[],[54,53,52,51,50,49,48,47,46,45,44,43,9,42,41],[]⟩),(4,⟨[.t 74 tI,.row 70 (.sl tC),.smap 63 .bool],[],[98,97,96,95,94,93,92,91,90,89,88,87,86,85,84,13,83,82,81,80,79,78,77,12,76,75],[]⟩),(2,⟨[.t 58 tI,.row 70 (.sl tC),.smap 63 .bool],[],[99,72,71,70,69,68,67,66,65,64,63,62,11,61,60,59,75,98,97,96,95,94,93,92,91,90,89,88,87,86,85,84,13,83,82,81,80,79,78,77,12,76,74,73],[]⟩)] [] [] [(15,.mk [(1000,[.own 5 tI])] [(0,⟨[.t 17 tI,.row 68 tI],[5],[30,29,21,28,27,26,25,24,23,22,7,20,19,18],[]⟩),(2,⟨[.t 45 tI,.row 69 tI,.row 3 (.pair tC (.pair tI tL))],[8],[96,95,88,39,94,93,92,91,90,89,87,86,85,84,83,82,81,80,79,78,77,76,75,74,73,72,71,70,69,68,67,66,65,64,63,62,61,60,59,58,11,57,56,55,54,53,52,51,50,9,10,49,48,47,46],[]⟩)] [] [] [])])])]),(18,.mk [(1000,[.ownc 1 1 tC,.ownc 1 2 (.pair tC (.pair tI tL)),.ownc 1 4 (.pair tC (.pair tI tL)),.ownc 1 5 (.pair tC (.pair tI tL)),.ownc 1 6 (.pair tC (.pair tI tL))])] [(0,⟨[.t 18 tI,.cell 1 0 tI,.cell 1 3 tI,.row 2 tC,.row 3 (.pair tC (.pair tI tL)),.row 6 (.pair tC (.pair tI tL)),.row 4 (.pair tC (.pair tI tL)),.row 5 (.pair tC (.pair tI tL))],[],[122,52,51,43,50,49,48,33,29,47,46,45,44,42,41,40,11,39,38,37,36,35,34,10,32,31,30,28,27,26,25,24,23,22,9,21,20,19,121,120,117,94,87,86,83,80,79,76,119,118,56,55,116,96,95,93,92,91,90,89,88,85,84,82,81,78,77,75,74,73,72,71,70,69,68,67,63,66,65,64,12,54,53,106,105,102,104,103,101,97,100,99,98,115,114,111,113,112,110,107,109,108,62,61,58,60,59,57],[]⟩)] [] [] []),(35,.mk [] [(2,⟨[.t 21 tI],[],[33,32,31,30,29,28,27,26,25,6,24,23,22],[]⟩),(0,⟨[.t 14 tI],[],[34,22,33,32,31,30,29,28,27,26,25,6,24,23,21,20,19,18,4,17,16,15],[]⟩)] [] [] [])]
theorem ZI.walk (x0:PS.den (.d (.sl tC))) (x1:PS.den (.d tI)) (x2:PS.den (.d tI)) (Q:Za4 [(.sl (.sl tC)),tI]→Prop):ZI.wp x0 x1 x2 Q=fnW τ0 (walk τ0 κ8 φA) ZI.A (Zbj Tryz.f41) [.d (.sl tC),.d tI,.d tI] [(.sl (.sl tC)),tI] (x0,x1,x2,()) Q:=by kernel_rfl
noncomputable def ZI.con:Con:=⟨[.d (.sl tC),.d tI,.d tI],some fun x=>ZI.pre x,fun x=>Zbr [(.sl (.sl tC)),tI] (ZI.fn x)⟩
theorem ZI.ok:Zak prog 41 ZI.con:=Zg (Wp:=fun xs Q=>ZI.wp xs.1 xs.2.1 xs.2.2.1 Q) Zax (Zt Zax ZtH ZbC mixed) (Zbk Tryz.func41 (by kernel_rfl) (by kernel_rfl)) (fun xs Q=>ZI.walk xs.1 xs.2.1 xs.2.2.1 Q) fun ⟨x0,x1,x2,_⟩ hl hp=>ZI.spec x0 x1 x2 hp
def ZaC.A:An:=.mk [] [] [] [] []
theorem ZaC.walk (x0:PS.den (.d (.sl tC))) (x1:PS.den (.d tI)) (Q:Za4 [(.sl tC),.bool,tI]→Prop):ZaC.wp x0 x1 Q=fnW τ0 (walk τ0 κ8 φA) ZaC.A (Zbj Tryz.f57) [.d (.sl tC),.d tI] [(.sl tC),.bool,tI] (x0,x1,()) Q:=by kernel_rfl
noncomputable def ZaC.con:Con:=⟨[.d (.sl tC),.d tI],none,fun x=>Zbr [(.sl tC),.bool,tI] (ZaC.fn x)⟩
theorem ZaC.ok:Zak prog 57 ZaC.con:=Zg (Wp:=fun xs Q=>ZaC.wp xs.1 xs.2.1 Q) Zax (Zt Zax ZtH ZbC mixed) (Zbk Tryz.func57 (by kernel_rfl) (by kernel_rfl)) (fun xs Q=>ZaC.walk xs.1 xs.2.1 Q) fun ⟨x0,x1,_⟩ hl hp=>ZaC.spec x0 x1
noncomputable def κL9:List (Nat×CX):=(40,.con ZV.con)::(41,.con ZI.con)::(57,.con ZaC.con)::κL8
theorem Zs3:Zag prog (fun n=>ZbF n κL9):=Zh ZV.ok (Zh ZI.ok (Zh ZaC.ok ZsO))
noncomputable def κ9:Z0:=fun n=>ZbF n κL9
theorem ZtQ:Zag prog κ9:=Zs3
def ZaR.A:An:=.mk [(1000,[.own 8 (.sl tC)])] [(0,⟨[.t 39 tI,.row 3 (.sl tC)],[8],[58,57,55,56,52,51,12,11,50,49,43,48,47,46,45,44,10,42,41,40],[]⟩)] [] [] [(62,.mk [] [] [] [] [(5000,.mk [(1000,[.ownc 6 0 (.sl tC)])] [(0,⟨[.t 7 tI,.row 11 (.sl tC),.smap 7 .bool],[],[15,14,13,12,11,4,10,9,8],[]⟩)] [] [] [])])]
theorem ZaR.walk (x0:PS.den (.d tS)) (x1:PS.den (.d tI)) (Q:Za4 [tS,tI]→Prop):ZaR.wp x0 x1 Q=fnW τ0 (walk τ0 κ9 φA) ZaR.A (Zbj Tryz.f14) [.d tS,.d tI] [tS,tI] (x0,x1,()) Q:=by kernel_rfl
noncomputable def ZaR.con:Con:=⟨[.d tS,.d tI],none,fun x=>Zbr [tS,tI] (ZaR.fn x)⟩
theorem ZaR.ok:Zak prog 14 ZaR.con:=Zg (Wp:=fun xs Q=>ZaR.wp xs.1 xs.2.1 Q) Zax (Zt Zax ZtQ ZbC mixed) (Zbk Tryz.func14 (by kernel_rfl) (by kernel_rfl)) (fun xs Q=>ZaR.walk xs.1 xs.2.1 Q) fun ⟨x0,x1,_⟩ hl hp=>ZaR.spec x0 x1
def ZaS.A:An:=.mk [] [] [] [] []
theorem ZaS.walk (x0:PS.den (.d (.sl tC))) (x1:PS.den (.d tI)) (Q:Za4 [tI,tI]→Prop):ZaS.wp x0 x1 Q=fnW τ0 (walk τ0 κ9 φA) ZaS.A (Zbj Tryz.f26) [.d (.sl tC),.d tI] [tI,tI] (x0,x1,()) Q:=by kernel_rfl
noncomputable def ZaS.con:Con:=⟨[.d (.sl tC),.d tI],none,fun x=>Zbr [tI,tI] (ZaS.fn x)⟩
theorem ZaS.ok:Zak prog 26 ZaS.con:=Zg (Wp:=fun xs Q=>ZaS.wp xs.1 xs.2.1 Q) Zax (Zt Zax ZtQ ZbC mixed) (Zbk Tryz.func26 (by kernel_rfl) (by kernel_rfl)) (fun xs Q=>ZaS.walk xs.1 xs.2.1 Q) fun ⟨x0,x1,_⟩ hl hp=>ZaS.spec x0 x1
noncomputable def φR (N:Nat):Nat→Option FX:=fun n=>Zb9 n ((85,.sp (.self (Zpg 85 (Zds N) ZcJ)))::Zuh)
def ZaO.A:An:=.mk [] [(0,⟨[.t 44 tI,.smap 2 .bool],[],[62,60,61,56,58,57,17,16,55,54,48,53,23,52,51,50,49,15,47,46,45],[]⟩)] [] [] []
theorem ZaO.walk (N:Nat) (x0:List Zc) (x1:Int) (x2:ByteArray→Option Bool) (Q:Bool×Int→(ByteArray→Option Bool)→Prop):ZaO.wp N x0 x1 x2 Q=ZvI τ0 (walk τ0 κ9 (φR N)) ZaO.A (Zbj Tryz.f85) (Zpg 85 (Zds (N+1)) ZcJ) (x0,x1) x2 (fun r b=>Q r b):=by kernel_rfl
theorem ZaO.okN:∀ N,Sp.Ok prog 85 (.self (Zpg 85 (Zds N) ZcJ))
 | 0=>⟨Zko _ _ _,(Zbk Tryz.func85 (by kernel_rfl) (by kernel_rfl)).call,fun E objs vs ks a b g hg hp=>absurd (show Zds 0 a b from hp) (Zsn a b)⟩
 | N+1=>Zsv Zax (Zt Zax ZtQ (Za7 (f:=85) (x:=.sp (.self (Zpg 85 (Zds N) ZcJ))) (ZaO.okN N) Zqz) mixed) (Zbk Tryz.func85 (by kernel_rfl) (by kernel_rfl)) (Zko _ _ _) fun a b hp=>Eq.mp (ZaO.walk N a.1 a.2 b _) (ZaO.spec N a.1 a.2 b hp)
theorem ZaO.ok:Sp.Ok prog 85 (.self (Zpg 85 Zi4 ZcJ)):=⟨Zko _ _ _,(ZaO.okN 0).2.1,fun E objs vs ks a b g hg hp cs rv=>let ⟨N,h⟩:=Zr6 a b hp;(ZaO.okN N).2.2 E objs vs ks a b g hg h cs rv⟩
noncomputable def φE:Nat→Option FX:=fun n=>Zb9 n ((85,.sp (.self (Zpg 85 Zi4 ZcJ)))::Zuh)
theorem Zws:∀ g fx,φE g=some fx→fx.Ok prog g:=Za7 (f:=85) (x:=.sp (.self (Zpg 85 Zi4 ZcJ))) ZaO.ok Zqz
noncomputable def ZvE:List (Nat×CX):=(14,.con ZaR.con)::(26,.con ZaS.con)::κL9
theorem ZpU:Zag prog (fun n=>ZbF n ZvE):=Zh ZaR.ok (Zh ZaS.ok Zs3)
noncomputable def κ10:Z0:=fun n=>ZbF n ZvE
theorem Zu7:Zag prog κ10:=ZpU
def Zat.A:An:=.mk [] [(0,⟨[.t 26 tI,.smap 2 .bool],[],[44,42,41,40,39,38,10,9,37,36,30,35,34,33,32,31,8,29,28,27],[]⟩)] [] [] []
theorem Zat.walk (x0:PS.den (.d tS)) (Q:Za4 [.bool,tI]→Prop):Zat.wp x0 Q=fnW τ0 (walk τ0 κ10 φE) Zat.A (Zbj Tryz.f18) [.d tS] [.bool,tI] (x0,()) Q:=by kernel_rfl
noncomputable def Zat.con:Con:=⟨[.d tS],none,fun x=>Zbr [.bool,tI] (Zat.fn x)⟩
theorem Zat.ok:Zak prog 18 Zat.con:=Zg (Wp:=fun xs Q=>Zat.wp xs.1 Q) Zax (Zt Zax Zu7 Zws mixed) (Zbk Tryz.func18 (by kernel_rfl) (by kernel_rfl)) (fun xs Q=>Zat.walk xs.1 Q) fun ⟨x0,_⟩ hl hp=>Zat.spec x0
noncomputable def ZvP:List (Nat×CX):=(18,.con Zat.con)::ZvE
theorem ZqA:Zag prog (fun n=>ZbF n ZvP):=Zh Zat.ok ZpU
noncomputable def κ11:Z0:=fun n=>ZbF n ZvP
theorem ZuQ:Zag prog κ11:=ZqA
def Zv.A:An:=.mk [] [] [] [] []
theorem Zv.walk  (Q:Za4 [.bool]→Prop):Zv.wp  Q=fnW τ0 (walk τ0 κ11 φA) Zv.A (Zbj Tryz.f13) [] [.bool] (()) Q:=by kernel_rfl
noncomputable def Zv.con:Con:=⟨[],none,fun x=>Zbr [.bool] (Zv.fn x)⟩
theorem Zv.ok:Zak prog 13 Zv.con:=Zg (Wp:=fun xs Q=>Zv.wp  Q) Zax (Zt Zax ZuQ ZbC mixed) (Zbk Tryz.func13 (by kernel_rfl) (by kernel_rfl)) (fun xs Q=>Zv.walk  Q) fun () hl hp=>by first | exact Zv.spec   | exact Zv.spec  hp | exact Zv.spec  hl.1 | exact Zv.spec  hl.1 hp | exact Zv.spec  hl.1.1 | exact Zv.spec  hl.1.1 hp | exact Zv.spec  hl.1.1.1 | exact Zv.spec  hl.1.1.1 hp | exact Zv.spec  hl.1.2.1 | exact Zv.spec  hl.1.2.1 hp | exact Zv.spec  hl.2.1 | exact Zv.spec  hl.2.1 hp | exact Zv.spec  hl.2.1.1 | exact Zv.spec  hl.2.1.1 hp | exact Zv.spec  hl.2.1.1.1 | exact Zv.spec  hl.2.1.1.1 hp | exact Zv.spec  hl.2.2.1.1 (fun s hs=>(hl.2.2.1.2 s hs).2.1)
noncomputable def ZvR:List (Nat×CX):=(13,.con Zv.con)::ZvP
theorem Zt4:Zag prog (fun n=>ZbF n ZvR):=Zh Zv.ok ZqA
noncomputable def κ12:Z0:=fun n=>ZbF n ZvR
theorem Zut:Zag prog κ12:=Zt4
def law05_ElimPicks.A:An:=.mk [] [] [] [] []
theorem law05_ElimPicks.walk (x0:PS.den (.d (.sl tC))) (x1:PS.den (.d tI)) (Q:Za4 [.bool]→Prop):law05_ElimPicks.wp x0 x1 Q=fnW τ0 (walk τ0 κ12 φA) law05_ElimPicks.A (Zbj Tryz.f7) [.d (.sl tC),.d tI] [.bool] (x0,x1,()) Q:=by kernel_rfl
theorem law05_ElimPicks.calls (x0:PS.den (.d (.sl tC))) (x1:PS.den (.d tI)) {W:World} (hS:Sok prog W (ZsT W)) {args:Array Value} (hr:Za6 prog (ZtX W) (Zjm [.d (.sl tC),.d tI] (x0,x1,())) args.toList):Calls prog 7 args W fun e w'=>e=.returned (.bool true)∧RowKit.Below W.heap.size W w' :=
 ZqN Zax (Zt Zax Zut ZbC mixed) (Zbk Tryz.func7 (by kernel_rfl) (by kernel_rfl)) (law05_ElimPicks.walk x0 x1 _) (law05_ElimPicks.spec x0 x1) hS hr
end Go.Proofs.YtgpdnmfpgkkgcaaGreatDoor
