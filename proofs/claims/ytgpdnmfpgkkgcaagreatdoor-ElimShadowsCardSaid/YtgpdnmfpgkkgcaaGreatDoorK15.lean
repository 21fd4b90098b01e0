/- Part of a proof that a law of the program holds for every input: printed by a program of this work: how the functions are walked. No conditions. -/
import Derived.Test.YtgpdnmfpgkkgcaaGreatDoorP14
namespace Go.Proofs.YtgpdnmfpgkkgcaaGreatDoor
open Go
set_option linter.unusedVariables false
set_option maxRecDepth 8000
set_option maxHeartbeats 4000000
abbrev tI:Ty:=.int .i64
abbrev tC:Ty:=(.pair (.int .i64) (.pair (.int .i64) (.pair (.sl (.int .i64)) (.int .i64))))
abbrev tS:Ty:=.pair (.int .i64) (.sl (.sl tC))
abbrev tL:Ty:=.pair (.sl (.int .i64)) (.int .i64)
noncomputable def φL0:List (Nat×FX):=[]
theorem ZwV:∀ g fx,(fun n=>Zce n φL0) g=some fx→fx.Ok prog g:=Zs1
noncomputable def φL1:List (Nat×FX):=(77,.fi (Zbo Tryz.f77))::φL0
theorem Zxd:∀ g fx,(fun n=>Zce n φL1) g=some fx→fx.Ok prog g:=Zbm (Zbn Tryz.func77 (by kernel_rfl) (by kernel_rfl)) ZwV
noncomputable def φL2:List (Nat×FX):=(110,.fi (Zbo Tryz.f110))::φL1
theorem Zw4:∀ g fx,(fun n=>Zce n φL2) g=some fx→fx.Ok prog g:=Zbm (Zbn Tryz.func110 (by kernel_rfl) (by kernel_rfl)) Zxd
noncomputable def φL3:List (Nat×FX):=(113,.fi (Zbo Tryz.f113))::φL2
theorem ZwT:∀ g fx,(fun n=>Zce n φL3) g=some fx→fx.Ok prog g:=Zbm (Zbn Tryz.func113 (by kernel_rfl) (by kernel_rfl)) Zw4
noncomputable def φL4:List (Nat×FX):=(42,.fi (Zbo Tryz.f42))::φL3
theorem Zw9:∀ g fx,(fun n=>Zce n φL4) g=some fx→fx.Ok prog g:=Zbm (Zbn Tryz.func42 (by kernel_rfl) (by kernel_rfl)) ZwT
noncomputable def φL5:List (Nat×FX):=(66,.fi (Zbo Tryz.f66))::φL4
theorem Zw0:∀ g fx,(fun n=>Zce n φL5) g=some fx→fx.Ok prog g:=Zbm (Zbn Tryz.func66 (by kernel_rfl) (by kernel_rfl)) Zw9
noncomputable def φL6:List (Nat×FX):=(67,.fi (Zbo Tryz.f67))::φL5
theorem Zw7:∀ g fx,(fun n=>Zce n φL6) g=some fx→fx.Ok prog g:=Zbm (Zbn Tryz.func67 (by kernel_rfl) (by kernel_rfl)) Zw0
noncomputable def φL7:List (Nat×FX):=(69,.fi (Zbo Tryz.f69))::φL6
theorem Zw2:∀ g fx,(fun n=>Zce n φL7) g=some fx→fx.Ok prog g:=Zbm (Zbn Tryz.func69 (by kernel_rfl) (by kernel_rfl)) Zw7
noncomputable def φL8:List (Nat×FX):=(101,.fi (Zbo Tryz.f101))::φL7
theorem Zw6:∀ g fx,(fun n=>Zce n φL8) g=some fx→fx.Ok prog g:=Zbm (Zbn Tryz.func101 (by kernel_rfl) (by kernel_rfl)) Zw2
noncomputable def φL9:List (Nat×FX):=(103,.fi (Zbo Tryz.f103))::φL8
theorem Zw5:∀ g fx,(fun n=>Zce n φL9) g=some fx→fx.Ok prog g:=Zbm (Zbn Tryz.func103 (by kernel_rfl) (by kernel_rfl)) Zw6
noncomputable def ZwE:List (Nat×FX):=(73,.fi (Zbo Tryz.f73))::φL9
theorem Zwi:∀ g fx,(fun n=>Zce n ZwE) g=some fx→fx.Ok prog g:=Zbm (Zbn Tryz.func73 (by kernel_rfl) (by kernel_rfl)) Zw5
noncomputable def ZwQ:List (Nat×FX):=(72,.fi (Zbo Tryz.f72))::ZwE
theorem Zwq:∀ g fx,(fun n=>Zce n ZwQ) g=some fx→fx.Ok prog g:=Zbm (Zbn Tryz.func72 (by kernel_rfl) (by kernel_rfl)) Zwi
noncomputable def ZwM:List (Nat×FX):=(74,.fi (Zbo Tryz.f74))::ZwQ
theorem Zwr:∀ g fx,(fun n=>Zce n ZwM) g=some fx→fx.Ok prog g:=Zbm (Zbn Tryz.func74 (by kernel_rfl) (by kernel_rfl)) Zwq
noncomputable def Zu5:List (Nat×FX):=(47,.fi (Zbo Tryz.f47))::ZwM
theorem ZqC:∀ g fx,(fun n=>Zce n Zu5) g=some fx→fx.Ok prog g:=Zbm (Zbn Tryz.func47 (by kernel_rfl) (by kernel_rfl)) Zwr
noncomputable def φA:Nat→Option FX:=fun n=>Zce n Zu5
theorem ZbG:∀ g fx,φA g=some fx→fx.Ok prog g:=ZqC
noncomputable def φC:Nat→Option FX:=fun n=>Zce n ((115,.sp .appInt)::Zu5)
theorem ZwP:∀ g fx,φC g=some fx→fx.Ok prog g:=Zbm Zwx ZqC
noncomputable def κL0:List (Nat×CX):=(68,.clo 69)::κR
theorem ZtI:Zau prog (fun n=>ZbT n κL0):=Zlu (c:=.clo 69) (Zs4 (Zbn Tryz.func68 (by kernel_rfl) (by kernel_rfl)) rfl) (Zwj)
noncomputable def κ0:Zaa:=fun n=>ZbT n κL0
theorem Zb1:Zau prog κ0:=ZtI
def ZY.A:An:=.mk [] [(2,⟨[.t 26 tI],[],[34,33,32,31,30,11,29,28,27],[]⟩),(0,⟨[.t 14 tI,.t 7 tI],[],[35,27,34,33,32,31,30,11,29,28,26,25,24,23,22,21,20,19,18,9,17,16,15],[]⟩)] [] [] []
theorem ZY.walk (x0:PS.den (.d tI)) (x1:PS.den (.d tI)) (x2:PS.den (.d (.sl tS))) (Q:Zbb [.bool]→Prop):ZY.wp x0 x1 x2 Q=fnW τw (walk τw κ0 φA) ZY.A (Zbo Tryz.f12) [.d tI,.d tI,.d (.sl tS)] [.bool] (x0,x1,x2,()) Q:=by kernel_rfl
noncomputable def ZY.con:Con:=⟨[.d tI,.d tI,.d (.sl tS)],none,fun x=>Zbt [.bool] (ZY.fn x)⟩
theorem ZY.ok:Zah prog 12 ZY.con:=Zg (Wp:=fun xs Q=>ZY.wp xs.1 xs.2.1 xs.2.2.1 Q) ZwO (Zq ZwO Zb1 ZbG mixed) (Zbn Tryz.func12 (by kernel_rfl) (by kernel_rfl)) (fun xs Q=>ZY.walk xs.1 xs.2.1 xs.2.2.1 Q) fun ⟨x0,x1,x2,_⟩ hl hp=>by first | exact ZY.spec x0 x1 x2  | exact ZY.spec x0 x1 x2 hp | exact ZY.spec x0 x1 x2 hl.1 | exact ZY.spec x0 x1 x2 hl.1 hp | exact ZY.spec x0 x1 x2 hl.1.1 | exact ZY.spec x0 x1 x2 hl.1.1 hp | exact ZY.spec x0 x1 x2 hl.1.1.1 | exact ZY.spec x0 x1 x2 hl.1.1.1 hp | exact ZY.spec x0 x1 x2 hl.1.2.1 | exact ZY.spec x0 x1 x2 hl.1.2.1 hp | exact ZY.spec x0 x1 x2 hl.2.1 | exact ZY.spec x0 x1 x2 hl.2.1 hp | exact ZY.spec x0 x1 x2 hl.2.1.1 | exact ZY.spec x0 x1 x2 hl.2.1.1 hp | exact ZY.spec x0 x1 x2 hl.2.1.1.1 | exact ZY.spec x0 x1 x2 hl.2.1.1.1 hp | exact ZY.spec x0 x1 x2 hl.2.2.1.1 (fun s hs=>(hl.2.2.1.2 s hs).2.1)
def Zbg.A:An:=.mk [] [] [] [] []
theorem Zbg.walk (x0:PS.den (.d tI)) (Q:Zbb [.bool]→Prop):Zbg.wp x0 Q=fnW τ0 (walk τ0 κ0 φA) Zbg.A (Zbo Tryz.f138) [.d tI] [.bool] (x0,()) Q:=by kernel_rfl
noncomputable def Zbg.con:Con:=⟨[.d tI],none,fun x=>Zbt [.bool] (Zbg.fn x)⟩
theorem Zbg.ok:Zah prog 138 Zbg.con:=Zg (Wp:=fun xs Q=>Zbg.wp xs.1 Q) Zar (Zq Zar Zb1 ZbG mixed) (Zbn Tryz.func138 (by kernel_rfl) (by kernel_rfl)) (fun xs Q=>Zbg.walk xs.1 Q) fun ⟨x0,_⟩ hl hp=>Zbg.spec x0
noncomputable def ZR.con:Con:=⟨[.d (.sl (.sl tC))],none,fun x=>.fn (.func 77) [] [.er [.d (.sl (.sl tC)) x.1]]⟩
theorem ZR.val (xs:Zb4 [.d (.sl (.sl tC))]) (Q:V→Prop):Q (ZR.con.res xs)=fnV τ0 (walk τ0 κ0 φA) An.none (Zbo Tryz.f43) [.d (.sl (.sl tC))] xs Q:=by kernel_rfl
theorem ZR.ok:Zah prog 43 ZR.con:=Zmo Zar (Zq Zar Zb1 ZbG mixed) (Zbn Tryz.func43 (by kernel_rfl) (by kernel_rfl)) fun xs _ _=>Eq.mp (ZR.val xs _) rfl
def Ze.A:An:=.mk [] [(0,⟨[.t 8 tI],[],[18,16,15,14,13,12,11,5,10,9],[]⟩)] [] [] []
theorem Ze.walk (x0:PS.den (.d (.sl tC))) (x1:PS.den (.f [tC] [.bool])) (Q:Zbb [tI]→Prop):Ze.wp x0 x1 Q=fnW τ0 (walk τ0 κ0 φA) Ze.A (Zbo Tryz.f122) [.d (.sl tC),.f [tC] [.bool]] [tI] (x0,x1,()) Q:=by kernel_rfl
noncomputable def Ze.con:Con:=⟨[.d (.sl tC),.f [tC] [.bool]],some fun x=>Ze.pre x,fun x=>Zbt [tI] (Ze.fn x)⟩
theorem Ze.ok:Zah prog 122 Ze.con:=Zg (Wp:=fun xs Q=>Ze.wp xs.1 xs.2.1 Q) Zar (Zq Zar Zb1 ZbG mixed) (Zbn Tryz.func122 (by kernel_rfl) (by kernel_rfl)) (fun xs Q=>Ze.walk xs.1 xs.2.1 Q) fun ⟨x0,x1,_⟩ hl hp=>Ze.spec x0 x1 hl.1.1 hp
def Zy.A:An:=.mk [] [(0,⟨[.t 11 tI,.t 1 (.int .u64)],[],[19,18,17,16,15,8,14,13,12],[]⟩)] [] [] []
theorem Zy.walk (x0:PS.den (.d (.sl tI))) (x1:PS.den (.d (.int .u64))) (x2:PS.den (.f [(.int .u64),tI] [(.int .u64)])) (Q:Zbb [(.int .u64)]→Prop):Zy.wp x0 x1 x2 Q=fnW τ0 (walk τ0 κ0 φA) Zy.A (Zbo Tryz.f146) [.d (.sl tI),.d (.int .u64),.f [(.int .u64),tI] [(.int .u64)]] [(.int .u64)] (x0,x1,x2,()) Q:=by kernel_rfl
noncomputable def Zy.con:Con:=⟨[.d (.sl tI),.d (.int .u64),.f [(.int .u64),tI] [(.int .u64)]],some fun x=>Zy.pre x,fun x=>Zbt [(.int .u64)] (Zy.fn x)⟩
theorem Zy.ok:Zah prog 146 Zy.con:=Zg (Wp:=fun xs Q=>Zy.wp xs.1 xs.2.1 xs.2.2.1 Q) Zar (Zq Zar Zb1 ZbG mixed) (Zbn Tryz.func146 (by kernel_rfl) (by kernel_rfl)) (fun xs Q=>Zy.walk xs.1 xs.2.1 xs.2.2.1 Q) fun ⟨x0,x1,x2,_⟩ hl hp=>Zy.spec x0 x1 x2 hl.1.1 hp
def Z2.A:An:=.mk [] [(0,⟨[.t 1 (.int .u64),.t 0 (.int .u64)],[],[10,9,8,7,6,5],[]⟩)] [] [] []
theorem Z2.walk (x0:PS.den (.d (.int .u64))) (x1:PS.den (.d (.int .u64))) (Q:Zbb [(.int .u64)]→Prop):Z2.wp x0 x1 Q=fnW τ0 (walk τ0 κ0 φA) Z2.A (Zbo Tryz.f148) [.d (.int .u64),.d (.int .u64)] [(.int .u64)] (x0,x1,()) Q:=by kernel_rfl
noncomputable def Z2.con:Con:=⟨[.d (.int .u64),.d (.int .u64)],none,fun x=>Zbt [(.int .u64)] (Z2.fn x)⟩
theorem Z2.ok:Zah prog 148 Z2.con:=Zg (Wp:=fun xs Q=>Z2.wp xs.1 xs.2.1 Q) Zar (Zq Zar Zb1 ZbG mixed) (Zbn Tryz.func148 (by kernel_rfl) (by kernel_rfl)) (fun xs Q=>Z2.walk xs.1 xs.2.1 Q) fun ⟨x0,x1,_⟩ hl hp=>Z2.spec x0 x1
def Za7.A:An:=.mk [] [] [] [] []
theorem Za7.walk (x0:PS.den (.d tI)) (Q:Zbb [(.int .u64)]→Prop):Za7.wp x0 Q=fnW τ0 (walk τ0 κ0 φA) Za7.A (Zbo Tryz.f184) [.d tI] [(.int .u64)] (x0,()) Q:=by kernel_rfl
noncomputable def Za7.con:Con:=⟨[.d tI],none,fun x=>Zbt [(.int .u64)] (Za7.fn x)⟩
theorem Za7.ok:Zah prog 184 Za7.con:=Zg (Wp:=fun xs Q=>Za7.wp xs.1 Q) Zar (Zq Zar Zb1 ZbG mixed) (Zbn Tryz.func184 (by kernel_rfl) (by kernel_rfl)) (fun xs Q=>Za7.walk xs.1 Q) fun ⟨x0,_⟩ hl hp=>Za7.spec x0
def ZaH.A:An:=.mk [] [] [] [] []
theorem ZaH.walk (x0:PS.den (.d .bool)) (Q:Zbb [tC,tI]→Prop):ZaH.wp x0 Q=fnW τ0 (walk τ0 κ0 φA) ZaH.A (Zbo Tryz.f170) [.d .bool] [tC,tI] (x0,()) Q:=by kernel_rfl
noncomputable def ZaH.con:Con:=⟨[.d .bool],none,fun x=>Zbt [tC,tI] (ZaH.fn x)⟩
theorem ZaH.ok:Zah prog 170 ZaH.con:=Zg (Wp:=fun xs Q=>ZaH.wp xs.1 Q) Zar (Zq Zar Zb1 ZbG mixed) (Zbn Tryz.func170 (by kernel_rfl) (by kernel_rfl)) (fun xs Q=>ZaH.walk xs.1 Q) fun ⟨x0,_⟩ hl hp=>ZaH.spec x0
def Zal.A:An:=.mk [] [] [] [] []
theorem Zal.walk (x0:PS.den (.d tI)) (x1:PS.den (.d tI)) (Q:Zbb [tI,tI]→Prop):Zal.wp x0 x1 Q=fnW τ0 (walk τ0 κ0 φA) Zal.A (Zbo Tryz.f171) [.d tI,.d tI] [tI,tI] (x0,x1,()) Q:=by kernel_rfl
noncomputable def Zal.con:Con:=⟨[.d tI,.d tI],some fun x=>Zal.pre x,fun x=>Zbt [tI,tI] (Zal.fn x)⟩
theorem Zal.ok:Zah prog 171 Zal.con:=Zg (Wp:=fun xs Q=>Zal.wp xs.1 xs.2.1 Q) Zar (Zq Zar Zb1 ZbG mixed) (Zbn Tryz.func171 (by kernel_rfl) (by kernel_rfl)) (fun xs Q=>Zal.walk xs.1 xs.2.1 Q) fun ⟨x0,x1,_⟩ hl hp=>Zal.spec x0 x1 hp
def Zv.A:An:=.mk [] [(0,⟨[.t 19 tI,.row 1 tI],[],[30,29,28,27,26,25,24,7,6,23,22,21,20],[]⟩)] [] [] []
theorem Zv.walk (x0:PS.den (.d tC)) (x1:PS.den (.d tI)) (Q:Zbb [(.sl tI)]→Prop):Zv.wp x0 x1 Q=fnW τ0 (walk τ0 κ0 φA) Zv.A (Zbo Tryz.f172) [.d tC,.d tI] [(.sl tI)] (x0,x1,()) Q:=by kernel_rfl
noncomputable def Zv.con:Con:=⟨[.d tC,.d tI],some fun x=>Zv.pre x,fun x=>Zbt [(.sl tI)] (Zv.fn x)⟩
theorem Zv.ok:Zah prog 172 Zv.con:=Zg (Wp:=fun xs Q=>Zv.wp xs.1 xs.2.1 Q) Zar (Zq Zar Zb1 ZbG mixed) (Zbn Tryz.func172 (by kernel_rfl) (by kernel_rfl)) (fun xs Q=>Zv.walk xs.1 xs.2.1 Q) fun ⟨x0,x1,_⟩ hl hp=>Zv.spec x0 x1 hp
def Za6.A:An:=.mk [] [] [] [] []
theorem Za6.walk (x0:PS.den (.d tI)) (x1:PS.den (.d tI)) (Q:Zbb [tI,tI]→Prop):Za6.wp x0 x1 Q=fnW τ0 (walk τ0 κ0 φA) Za6.A (Zbo Tryz.f173) [.d tI,.d tI] [tI,tI] (x0,x1,()) Q:=by kernel_rfl
noncomputable def Za6.con:Con:=⟨[.d tI,.d tI],some fun x=>Za6.pre x,fun x=>Zbt [tI,tI] (Za6.fn x)⟩
theorem Za6.ok:Zah prog 173 Za6.con:=Zg (Wp:=fun xs Q=>Za6.wp xs.1 xs.2.1 Q) Zar (Zq Zar Zb1 ZbG mixed) (Zbn Tryz.func173 (by kernel_rfl) (by kernel_rfl)) (fun xs Q=>Za6.walk xs.1 xs.2.1 Q) fun ⟨x0,x1,_⟩ hl hp=>Za6.spec x0 x1 hp
def ZaC.A:An:=.mk [(1000,[.own 5 (.int .u8)])] [(0,⟨[.t 10 tI,.row 0 (.int .u8)],[5],[22,21,19,18,20,14,17,16,15,7,13,12,11],[]⟩)] [] [] []
theorem ZaC.walk (x0:PS.den (.d (.sl tI))) (x1:PS.den (.d tI)) (Q:Zbb [.str]→Prop):ZaC.wp x0 x1 Q=fnW τ0 (walk τ0 κ0 φC) ZaC.A (Zbo Tryz.f116) [.d (.sl tI),.d tI] [.str] (x0,x1,()) Q:=by kernel_rfl
noncomputable def ZaC.con:Con:=⟨[.d (.sl tI),.d tI],some fun x=>ZaC.pre x,fun x=>Zbt [.str] (ZaC.fn x)⟩
theorem ZaC.ok:Zah prog 116 ZaC.con:=Zg (Wp:=fun xs Q=>ZaC.wp xs.1 xs.2.1 Q) Zar (Zq Zar Zb1 ZwP mixed) (Zbn Tryz.func116 (by kernel_rfl) (by kernel_rfl)) (fun xs Q=>ZaC.walk xs.1 xs.2.1 Q) fun ⟨x0,x1,_⟩ hl hp=>ZaC.spec x0 x1 hp
def Za5.A:An:=.mk [] [(0,⟨[.t 8 tI],[],[16,14,13,12,5,11,10,9],[]⟩)] [] [] []
theorem Za5.walk (x0:PS.den (.d (.sl tI))) (Q:Zbb [tI]→Prop):Za5.wp x0 Q=fnW τ0 (walk τ0 κ0 φA) Za5.A (Zbo Tryz.f134) [.d (.sl tI)] [tI] (x0,()) Q:=by kernel_rfl
noncomputable def Za5.con:Con:=⟨[.d (.sl tI)],none,fun x=>Zbt [tI] (Za5.fn x)⟩
theorem Za5.ok:Zah prog 134 Za5.con:=Zg (Wp:=fun xs Q=>Za5.wp xs.1 Q) Zar (Zq Zar Zb1 ZbG mixed) (Zbn Tryz.func134 (by kernel_rfl) (by kernel_rfl)) (fun xs Q=>Za5.walk xs.1 Q) fun ⟨x0,_⟩ hl hp=>Za5.spec x0 hl.1.1
def ZX.A:An:=.mk [] [] [] [] []
theorem ZX.walk (x0:PS.den (.d tI)) (Q:Zbb [.bool]→Prop):ZX.wp x0 Q=fnW τ0 (walk τ0 κ0 φA) ZX.A (Zbo Tryz.f162) [.d tI] [.bool] (x0,()) Q:=by kernel_rfl
noncomputable def ZX.con:Con:=⟨[.d tI],none,fun x=>Zbt [.bool] (ZX.fn x)⟩
theorem ZX.ok:Zah prog 162 ZX.con:=Zg (Wp:=fun xs Q=>ZX.wp xs.1 Q) Zar (Zq Zar Zb1 ZbG mixed) (Zbn Tryz.func162 (by kernel_rfl) (by kernel_rfl)) (fun xs Q=>ZX.walk xs.1 Q) fun ⟨x0,_⟩ hl hp=>ZX.spec x0
def ZM.A:An:=.mk [] [(0,⟨[.t 28 tI,.row 6 tI],[],[50,49,48,47,46,45,44,43,42,41,40,39,38,37,36,35,34,33,32,31,10,30,29],[]⟩)] [] [] []
theorem ZM.walk (x0:PS.den (.d tI)) (x1:PS.den (.d tL)) (x2:PS.den (.d tI)) (x3:PS.den (.d tL)) (Q:Zbb [tL]→Prop):ZM.wp x0 x1 x2 x3 Q=fnW τ0 (walk τ0 κ0 φA) ZM.A (Zbo Tryz.f102) [.d tI,.d tL,.d tI,.d tL] [tL] (x0,x1,x2,x3,()) Q:=by kernel_rfl
noncomputable def ZM.con:Con:=⟨[.d tI,.d tL,.d tI,.d tL],some fun x=>ZM.pre x,fun x=>Zbt [tL] (ZM.fn x)⟩
theorem ZM.ok:Zah prog 102 ZM.con:=Zg (Wp:=fun xs Q=>ZM.wp xs.1 xs.2.1 xs.2.2.1 xs.2.2.2.1 Q) Zar (Zq Zar Zb1 ZbG mixed) (Zbn Tryz.func102 (by kernel_rfl) (by kernel_rfl)) (fun xs Q=>ZM.walk xs.1 xs.2.1 xs.2.2.1 xs.2.2.2.1 Q) fun ⟨x0,x1,x2,x3,_⟩ hl hp=>ZM.spec x0 x1 x2 x3 hp
def Z9.A:An:=.mk [] [] [] [] []
theorem Z9.walk (x0:PS.den (.d tL)) (x1:PS.den (.d tI)) (Q:Zbb [tL]→Prop):Z9.wp x0 x1 Q=fnW τ0 (walk τ0 κ0 φA) Z9.A (Zbo Tryz.f105) [.d tL,.d tI] [tL] (x0,x1,()) Q:=by kernel_rfl
noncomputable def Z9.con:Con:=⟨[.d tL,.d tI],some fun x=>Z9.pre x,fun x=>Zbt [tL] (Z9.fn x)⟩
theorem Z9.ok:Zah prog 105 Z9.con:=Zg (Wp:=fun xs Q=>Z9.wp xs.1 xs.2.1 Q) Zar (Zq Zar Zb1 ZbG mixed) (Zbn Tryz.func105 (by kernel_rfl) (by kernel_rfl)) (fun xs Q=>Z9.walk xs.1 xs.2.1 Q) fun ⟨x0,x1,_⟩ hl hp=>Z9.spec x0 x1 hp
def Z7.A:An:=.mk [] [(2,⟨[.t 29 tI,.t 5 tI,.t 6 tI,.row 1 tI,.row 3 tI],[],[77,34,36,35,12,11,33,32,31,30,52,51,50,49,48,47,46,45,44,43,42,41,37,40,39,38,66,65,64,63,62,61,53,60,59,58,57,56,55,54,76,75,74,73,72,71,67,70,69,68],[]⟩),(0,⟨[.t 21 tI,.t 5 tI,.t 6 tI,.row 1 tI,.row 3 tI],[],[78,30,77,34,36,35,12,11,33,32,31,52,51,50,49,48,47,46,45,44,43,42,41,37,40,39,38,66,65,64,63,62,61,53,60,59,58,57,56,55,54,76,75,74,73,72,71,67,70,69,68,29,28,27,26,25,10,24,23,22],[]⟩),(5,⟨[.t 86 tI,.t 13 tI],[],[109,108,107,106,105,104,103,102,101,100,99,98,97,96,95,94,93,92,91,90,89,14,88,87],[]⟩)] [] [] []
theorem Z7.walk (x0:PS.den (.d (.sl tC))) (x1:PS.den (.d tI)) (Q:Zbb [tI]→Prop):Z7.wp x0 x1 Q=fnW τ0 (walk τ0 κ0 φA) Z7.A (Zbo Tryz.f58) [.d (.sl tC),.d tI] [tI] (x0,x1,()) Q:=by kernel_rfl
noncomputable def Z7.con:Con:=⟨[.d (.sl tC),.d tI],some fun x=>Z7.pre x,fun x=>Zbt [tI] (Z7.fn x)⟩
theorem Z7.ok:Zah prog 58 Z7.con:=Zg (Wp:=fun xs Q=>Z7.wp xs.1 xs.2.1 Q) Zar (Zq Zar Zb1 ZbG mixed) (Zbn Tryz.func58 (by kernel_rfl) (by kernel_rfl)) (fun xs Q=>Z7.walk xs.1 xs.2.1 Q) fun ⟨x0,x1,_⟩ hl hp=>Z7.spec x0 x1 hp
def ZaP.A:An:=.mk [] [(0,⟨[.t 23 tI],[],[37,36,35,34,33,32,31,30,29,28,27,26,5,25,24],[]⟩)] [] [] []
theorem ZaP.walk (x0:PS.den (.d tL)) (x1:PS.den (.d tL)) (Q:Zbb [.bool]→Prop):ZaP.wp x0 x1 Q=fnW τ0 (walk τ0 κ0 φA) ZaP.A (Zbo Tryz.f127) [.d tL,.d tL] [.bool] (x0,x1,()) Q:=by kernel_rfl
noncomputable def ZaP.con:Con:=⟨[.d tL,.d tL],none,fun x=>Zbt [.bool] (ZaP.fn x)⟩
theorem ZaP.ok:Zah prog 127 ZaP.con:=Zg (Wp:=fun xs Q=>ZaP.wp xs.1 xs.2.1 Q) Zar (Zq Zar Zb1 ZbG mixed) (Zbn Tryz.func127 (by kernel_rfl) (by kernel_rfl)) (fun xs Q=>ZaP.walk xs.1 xs.2.1 Q) fun ⟨x0,x1,_⟩ hl hp=>ZaP.spec x0 x1 hl.1.1.1
def Zbd.A:An:=.mk [] [] [] [] []
theorem Zbd.walk (x0:PS.den (.d tI)) (x1:PS.den (.d (.sl tI))) (Q:Zbb [tC]→Prop):Zbd.wp x0 x1 Q=fnW τ0 (walk τ0 κ0 φA) Zbd.A (Zbo Tryz.f37) [.d tI,.d (.sl tI)] [tC] (x0,x1,()) Q:=by kernel_rfl
noncomputable def Zbd.con:Con:=⟨[.d tI,.d (.sl tI)],none,fun x=>Zbt [tC] (Zbd.fn x)⟩
theorem Zbd.ok:Zah prog 37 Zbd.con:=Zg (Wp:=fun xs Q=>Zbd.wp xs.1 xs.2.1 Q) Zar (Zq Zar Zb1 ZbG mixed) (Zbn Tryz.func37 (by kernel_rfl) (by kernel_rfl)) (fun xs Q=>Zbd.walk xs.1 xs.2.1 Q) fun ⟨x0,x1,_⟩ hl hp=>Zbd.spec x0 x1
def Z1.A:An:=.mk [] [] [] [] []
theorem Z1.walk (x0:PS.den (.d tI)) (x1:PS.den (.d tI)) (Q:Zbb [(.sl tC)]→Prop):Z1.wp x0 x1 Q=fnW τ0 (walk τ0 κ0 φA) Z1.A (Zbo Tryz.f38) [.d tI,.d tI] [(.sl tC)] (x0,x1,()) Q:=by kernel_rfl
noncomputable def Z1.con:Con:=⟨[.d tI,.d tI],none,fun x=>Zbt [(.sl tC)] (Z1.fn x)⟩
theorem Z1.ok:Zah prog 38 Z1.con:=Zg (Wp:=fun xs Q=>Z1.wp xs.1 xs.2.1 Q) Zar (Zq Zar Zb1 ZbG mixed) (Zbn Tryz.func38 (by kernel_rfl) (by kernel_rfl)) (fun xs Q=>Z1.walk xs.1 xs.2.1 Q) fun ⟨x0,x1,_⟩ hl hp=>Z1.spec x0 x1
def ZaL.A:An:=.mk [] [] [] [] []
theorem ZaL.walk (x0:PS.den (.d tI)) (Q:Zbb [.bool]→Prop):ZaL.wp x0 Q=fnW τ0 (walk τ0 κ0 φA) ZaL.A (Zbo Tryz.f121) [.d tI] [.bool] (x0,()) Q:=by kernel_rfl
noncomputable def ZaL.con:Con:=⟨[.d tI],none,fun x=>Zbt [.bool] (ZaL.fn x)⟩
theorem ZaL.ok:Zah prog 121 ZaL.con:=Zg (Wp:=fun xs Q=>ZaL.wp xs.1 Q) Zar (Zq Zar Zb1 ZbG mixed) (Zbn Tryz.func121 (by kernel_rfl) (by kernel_rfl)) (fun xs Q=>ZaL.walk xs.1 Q) fun ⟨x0,_⟩ hl hp=>ZaL.spec x0
def Z6.A:An:=.mk [] [] [] [] []
theorem Z6.walk (x0:PS.den (.d tI)) (x1:PS.den (.d tI)) (Q:Zbb [tI,tI]→Prop):Z6.wp x0 x1 Q=fnW τ0 (walk τ0 κ0 φA) Z6.A (Zbo Tryz.f51) [.d tI,.d tI] [tI,tI] (x0,x1,()) Q:=by kernel_rfl
noncomputable def Z6.con:Con:=⟨[.d tI,.d tI],some fun x=>Z6.pre x,fun x=>Zbt [tI,tI] (Z6.fn x)⟩
theorem Z6.ok:Zah prog 51 Z6.con:=Zg (Wp:=fun xs Q=>Z6.wp xs.1 xs.2.1 Q) Zar (Zq Zar Zb1 ZbG mixed) (Zbn Tryz.func51 (by kernel_rfl) (by kernel_rfl)) (fun xs Q=>Z6.walk xs.1 xs.2.1 Q) fun ⟨x0,x1,_⟩ hl hp=>Z6.spec x0 x1 hp
def ZaA.A:An:=.mk [] [] [] [] []
theorem ZaA.walk (x0:PS.den (.d tI)) (x1:PS.den (.d tI)) (Q:Zbb [tI,tI]→Prop):ZaA.wp x0 x1 Q=fnW τ0 (walk τ0 κ0 φA) ZaA.A (Zbo Tryz.f53) [.d tI,.d tI] [tI,tI] (x0,x1,()) Q:=by kernel_rfl
noncomputable def ZaA.con:Con:=⟨[.d tI,.d tI],some fun x=>ZaA.pre x,fun x=>Zbt [tI,tI] (ZaA.fn x)⟩
theorem ZaA.ok:Zah prog 53 ZaA.con:=Zg (Wp:=fun xs Q=>ZaA.wp xs.1 xs.2.1 Q) Zar (Zq Zar Zb1 ZbG mixed) (Zbn Tryz.func53 (by kernel_rfl) (by kernel_rfl)) (fun xs Q=>ZaA.walk xs.1 xs.2.1 Q) fun ⟨x0,x1,_⟩ hl hp=>ZaA.spec x0 x1 hp
def Za2.A:An:=.mk [] [] [] [] []
theorem Za2.walk (x0:PS.den (.d tI)) (Q:Zbb [(.int .u64)]→Prop):Za2.wp x0 Q=fnW τ0 (walk τ0 κ0 φA) Za2.A (Zbo Tryz.f164) [.d tI] [(.int .u64)] (x0,()) Q:=by kernel_rfl
noncomputable def Za2.con:Con:=⟨[.d tI],none,fun x=>Zbt [(.int .u64)] (Za2.fn x)⟩
theorem Za2.ok:Zah prog 164 Za2.con:=Zg (Wp:=fun xs Q=>Za2.wp xs.1 Q) Zar (Zq Zar Zb1 ZbG mixed) (Zbn Tryz.func164 (by kernel_rfl) (by kernel_rfl)) (fun xs Q=>Za2.walk xs.1 Q) fun ⟨x0,_⟩ hl hp=>Za2.spec x0
def Zap.A:An:=.mk [] [] [] [] []
theorem Zap.walk (x0:PS.den (.d .bool)) (Q:Zbb [tC,tI]→Prop):Zap.wp x0 Q=fnW τ0 (walk τ0 κ0 φA) Zap.A (Zbo Tryz.f140) [.d .bool] [tC,tI] (x0,()) Q:=by kernel_rfl
noncomputable def Zap.con:Con:=⟨[.d .bool],none,fun x=>Zbt [tC,tI] (Zap.fn x)⟩
theorem Zap.ok:Zah prog 140 Zap.con:=Zg (Wp:=fun xs Q=>Zap.wp xs.1 Q) Zar (Zq Zar Zb1 ZbG mixed) (Zbn Tryz.func140 (by kernel_rfl) (by kernel_rfl)) (fun xs Q=>Zap.walk xs.1 Q) fun ⟨x0,_⟩ hl hp=>Zap.spec x0
def ZZ.A:An:=.mk [] [(0,⟨[.t 19 tI,.row 2 tI],[],[31,30,29,28,27,26,25,24,9,8,23,22,21,20],[]⟩)] [] [] []
theorem ZZ.walk (x0:PS.den (.d tL)) (x1:PS.den (.d tI)) (x2:PS.den (.d tI)) (Q:Zbb [tL]→Prop):ZZ.wp x0 x1 x2 Q=fnW τ0 (walk τ0 κ0 φA) ZZ.A (Zbo Tryz.f141) [.d tL,.d tI,.d tI] [tL] (x0,x1,x2,()) Q:=by kernel_rfl
noncomputable def ZZ.con:Con:=⟨[.d tL,.d tI,.d tI],some fun x=>ZZ.pre x,fun x=>Zbt [tL] (ZZ.fn x)⟩
theorem ZZ.ok:Zah prog 141 ZZ.con:=Zg (Wp:=fun xs Q=>ZZ.wp xs.1 xs.2.1 xs.2.2.1 Q) Zar (Zq Zar Zb1 ZbG mixed) (Zbn Tryz.func141 (by kernel_rfl) (by kernel_rfl)) (fun xs Q=>ZZ.walk xs.1 xs.2.1 xs.2.2.1 Q) fun ⟨x0,x1,x2,_⟩ hl hp=>ZZ.spec x0 x1 x2 hp
def ZI.A:An:=.mk [] [(0,⟨[.t 12 tI,.t 6 .bool,.t 5 .bool],[],[48,47,46,45,44,43,42,41,40,39,38,37,36,35,34,33,32,31,30,29,28,27,26,25,24,23,22,21,20,19,18,17,16,15,7,14,13],[]⟩)] [] [] []
theorem ZI.walk (x0:PS.den (.d tC)) (x1:PS.den (.d tC)) (Q:Zbb [tI]→Prop):ZI.wp x0 x1 Q=fnW τ0 (walk τ0 κ0 φA) ZI.A (Zbo Tryz.f125) [.d tC,.d tC] [tI] (x0,x1,()) Q:=by kernel_rfl
noncomputable def ZI.con:Con:=⟨[.d tC,.d tC],some fun x=>ZI.pre x,fun x=>Zbt [tI] (ZI.fn x)⟩
theorem ZI.ok:Zah prog 125 ZI.con:=Zg (Wp:=fun xs Q=>ZI.wp xs.1 xs.2.1 Q) Zar (Zq Zar Zb1 ZbG mixed) (Zbn Tryz.func125 (by kernel_rfl) (by kernel_rfl)) (fun xs Q=>ZI.walk xs.1 xs.2.1 Q) fun ⟨x0,x1,_⟩ hl hp=>ZI.spec x0 x1 hp
def Z0.A:An:=.mk [] [(0,⟨[.t 8 tI],[],[31,21,30,29,28,27,26,25,24,23,22,11,20,19,18,17,16,15,14,13,12,5,10,9],[]⟩)] [] [] []
theorem Z0.walk (x0:PS.den (.d (.sl tI))) (x1:PS.den (.d (.sl tI))) (Q:Zbb [tI]→Prop):Z0.wp x0 x1 Q=fnW τ0 (walk τ0 κ0 φA) Z0.A (Zbo Tryz.f165) [.d (.sl tI),.d (.sl tI)] [tI] (x0,x1,()) Q:=by kernel_rfl
noncomputable def Z0.con:Con:=⟨[.d (.sl tI),.d (.sl tI)],some fun x=>Z0.pre x,fun x=>Zbt [tI] (Z0.fn x)⟩
theorem Z0.ok:Zah prog 165 Z0.con:=Zg (Wp:=fun xs Q=>Z0.wp xs.1 xs.2.1 Q) Zar (Zq Zar Zb1 ZbG mixed) (Zbn Tryz.func165 (by kernel_rfl) (by kernel_rfl)) (fun xs Q=>Z0.walk xs.1 xs.2.1 Q) fun ⟨x0,x1,_⟩ hl hp=>Z0.spec x0 x1 hl.1.1 hp
def ZaK.A:An:=.mk [] [] [] [] []
theorem ZaK.walk (x0:PS.den (.d tI)) (Q:Zbb [tI]→Prop):ZaK.wp x0 Q=fnW τ0 (walk τ0 κ0 φA) ZaK.A (Zbo Tryz.f166) [.d tI] [tI] (x0,()) Q:=by kernel_rfl
noncomputable def ZaK.con:Con:=⟨[.d tI],none,fun x=>Zbt [tI] (ZaK.fn x)⟩
theorem ZaK.ok:Zah prog 166 ZaK.con:=Zg (Wp:=fun xs Q=>ZaK.wp xs.1 Q) Zar (Zq Zar Zb1 ZbG mixed) (Zbn Tryz.func166 (by kernel_rfl) (by kernel_rfl)) (fun xs Q=>ZaK.walk xs.1 Q) fun ⟨x0,_⟩ hl hp=>ZaK.spec x0
def Zk.A:An:=.mk [(1000,[.ownc 2 0 tI])] [(0,⟨[.t 14 tI,.cell 2 1 tI,.row 3 tI],[],[28,27,26,23,25,24,22,21,20,19,7,6,18,17,16,15],[]⟩)] [] [] []
theorem Zk.walk (x0:PS.den (.d tL)) (x1:PS.den (.d tI)) (Q:Zbb [tL]→Prop):Zk.wp x0 x1 Q=fnW τ0 (walk τ0 κ0 φA) Zk.A (Zbo Tryz.f78) [.d tL,.d tI] [tL] (x0,x1,()) Q:=by kernel_rfl
noncomputable def Zk.con:Con:=⟨[.d tL,.d tI],some fun x=>Zk.pre x,fun x=>Zbt [tL] (Zk.fn x)⟩
theorem Zk.ok:Zah prog 78 Zk.con:=Zg (Wp:=fun xs Q=>Zk.wp xs.1 xs.2.1 Q) Zar (Zq Zar Zb1 ZbG mixed) (Zbn Tryz.func78 (by kernel_rfl) (by kernel_rfl)) (fun xs Q=>Zk.walk xs.1 xs.2.1 Q) fun ⟨x0,x1,_⟩ hl hp=>Zk.spec x0 x1 hp
def Zp.A:An:=.mk [] [] [] [] []
theorem Zp.walk (x0:PS.den (.d tI)) (Q:Zbb [tI]→Prop):Zp.wp x0 Q=fnW τ0 (walk τ0 κ0 φA) Zp.A (Zbo Tryz.f79) [.d tI] [tI] (x0,()) Q:=by kernel_rfl
noncomputable def Zp.con:Con:=⟨[.d tI],some fun x=>Zp.pre x,fun x=>Zbt [tI] (Zp.fn x)⟩
theorem Zp.ok:Zah prog 79 Zp.con:=Zg (Wp:=fun xs Q=>Zp.wp xs.1 Q) Zar (Zq Zar Zb1 ZbG mixed) (Zbn Tryz.func79 (by kernel_rfl) (by kernel_rfl)) (fun xs Q=>Zp.walk xs.1 Q) fun ⟨x0,_⟩ hl hp=>Zp.spec x0 hp
def ZB.A:An:=.mk [] [(0,⟨[.t 28 tI,.row 6 tI],[],[50,49,48,47,46,45,44,43,42,41,40,39,38,37,36,35,34,33,32,31,10,30,29],[]⟩)] [] [] []
theorem ZB.walk (x0:PS.den (.d tI)) (x1:PS.den (.d tL)) (x2:PS.den (.d tI)) (x3:PS.den (.d tL)) (Q:Zbb [tL]→Prop):ZB.wp x0 x1 x2 x3 Q=fnW τ0 (walk τ0 κ0 φA) ZB.A (Zbo Tryz.f82) [.d tI,.d tL,.d tI,.d tL] [tL] (x0,x1,x2,x3,()) Q:=by kernel_rfl
noncomputable def ZB.con:Con:=⟨[.d tI,.d tL,.d tI,.d tL],some fun x=>ZB.pre x,fun x=>Zbt [tL] (ZB.fn x)⟩
theorem ZB.ok:Zah prog 82 ZB.con:=Zg (Wp:=fun xs Q=>ZB.wp xs.1 xs.2.1 xs.2.2.1 xs.2.2.2.1 Q) Zar (Zq Zar Zb1 ZbG mixed) (Zbn Tryz.func82 (by kernel_rfl) (by kernel_rfl)) (fun xs Q=>ZB.walk xs.1 xs.2.1 xs.2.2.1 xs.2.2.2.1 Q) fun ⟨x0,x1,x2,x3,_⟩ hl hp=>ZB.spec x0 x1 x2 x3 hp
def Zam.A:An:=.mk [] [(0,⟨[.t 12 tI],[],[18,17,16,5,15,14,13],[]⟩),(4,⟨[.t 25 tI,.t 7 .bool],[],[36,35,34,33,32,31,30,29,9,28,27,26],[]⟩),(2,⟨[.t 6 tI],[],[22,21,37,26,36,35,34,33,32,31,30,29,9,28,27,25,7,24,23,20,19],[]⟩)] [] [] []
theorem Zam.walk (x0:PS.den (.d (.sl tI))) (Q:Zbb [tI,tI]→Prop):Zam.wp x0 Q=fnW τ0 (walk τ0 κ0 φA) Zam.A (Zbo Tryz.f52) [.d (.sl tI)] [tI,tI] (x0,()) Q:=by kernel_rfl
noncomputable def Zam.con:Con:=⟨[.d (.sl tI)],some fun x=>Zam.pre x,fun x=>Zbt [tI,tI] (Zam.fn x)⟩
theorem Zam.ok:Zah prog 52 Zam.con:=Zg (Wp:=fun xs Q=>Zam.wp xs.1 Q) Zar (Zq Zar Zb1 ZbG mixed) (Zbn Tryz.func52 (by kernel_rfl) (by kernel_rfl)) (fun xs Q=>Zam.walk xs.1 Q) fun ⟨x0,_⟩ hl hp=>Zam.spec x0 hl.1.1 hp
def ZK.A:An:=.mk [] [] [] [] []
theorem ZK.walk (x0:PS.den (.d tI)) (x1:PS.den (.d tI)) (Q:Zbb [tL]→Prop):ZK.wp x0 x1 Q=fnW τ0 (walk τ0 κ0 φA) ZK.A (Zbo Tryz.f118) [.d tI,.d tI] [tL] (x0,x1,()) Q:=by kernel_rfl
noncomputable def ZK.con:Con:=⟨[.d tI,.d tI],some fun x=>ZK.pre x,fun x=>Zbt [tL] (ZK.fn x)⟩
theorem ZK.ok:Zah prog 118 ZK.con:=Zg (Wp:=fun xs Q=>ZK.wp xs.1 xs.2.1 Q) Zar (Zq Zar Zb1 ZbG mixed) (Zbn Tryz.func118 (by kernel_rfl) (by kernel_rfl)) (fun xs Q=>ZK.walk xs.1 xs.2.1 Q) fun ⟨x0,x1,_⟩ hl hp=>ZK.spec x0 x1 hp
noncomputable def κL1:List (Nat×CX):=(12,.con ZY.con)::(138,.con Zbg.con)::(43,.con ZR.con)::(122,.con Ze.con)::(146,.con Zy.con)::(148,.con Z2.con)::(184,.con Za7.con)::(170,.con ZaH.con)::(171,.con Zal.con)::(172,.con Zv.con)::(173,.con Za6.con)::(116,.con ZaC.con)::(134,.con Za5.con)::(162,.con ZX.con)::(102,.con ZM.con)::(105,.con Z9.con)::(58,.con Z7.con)::(127,.con ZaP.con)::(37,.con Zbd.con)::(38,.con Z1.con)::(121,.con ZaL.con)::(51,.con Z6.con)::(53,.con ZaA.con)::(164,.con Za2.con)::(140,.con Zap.con)::(141,.con ZZ.con)::(125,.con ZI.con)::(165,.con Z0.con)::(166,.con ZaK.con)::(78,.con Zk.con)::(79,.con Zp.con)::(82,.con ZB.con)::(52,.con Zam.con)::(118,.con ZK.con)::κL0
theorem ZtG:Zau prog (fun n=>ZbT n κL1):=Zi ZY.ok (Zi Zbg.ok (Zi ZR.ok (Zi Ze.ok (Zi Zy.ok (Zi Z2.ok (Zi Za7.ok (Zi ZaH.ok (Zi Zal.ok (Zi Zv.ok (Zi Za6.ok (Zi ZaC.ok (Zi Za5.ok (Zi ZX.ok (Zi ZM.ok (Zi Z9.ok (Zi Z7.ok (Zi ZaP.ok (Zi Zbd.ok (Zi Z1.ok (Zi ZaL.ok (Zi Z6.ok (Zi ZaA.ok (Zi Za2.ok (Zi Zap.ok (Zi ZZ.ok (Zi ZI.ok (Zi Z0.ok (Zi ZaK.ok (Zi Zk.ok (Zi Zp.ok (Zi ZB.ok (Zi Zam.ok (Zi ZK.ok ZtI)))))))))))))))))))))))))))))))))
noncomputable def κ1:Zaa:=fun n=>ZbT n κL1
theorem Zfk:Zau prog κ1:=ZtG
def ZaY.A:An:=.mk [] [(0,⟨[.t 8 tI],[],[15,14,13,12,4,11,10,9],[]⟩)] [] [] []
theorem ZaY.walk (x0:PS.den (.d tL)) (Q:Zbb [.bool]→Prop):ZaY.wp x0 Q=fnW τ0 (walk τ0 κ1 φA) ZaY.A (Zbo Tryz.f123) [.d tL] [.bool] (x0,()) Q:=by kernel_rfl
noncomputable def ZaY.con:Con:=⟨[.d tL],none,fun x=>Zbt [.bool] (ZaY.fn x)⟩
theorem ZaY.ok:Zah prog 123 ZaY.con:=Zg (Wp:=fun xs Q=>ZaY.wp xs.1 Q) Zar (Zq Zar Zfk ZbG mixed) (Zbn Tryz.func123 (by kernel_rfl) (by kernel_rfl)) (fun xs Q=>ZaY.walk xs.1 Q) fun ⟨x0,_⟩ hl hp=>ZaY.spec x0 hl.1.1.1
def Zd.A:An:=.mk [] [] [] [] []
theorem Zd.walk (x0:PS.den (.d (.sl tC))) (x1:PS.den (.f [tC] [.bool])) (Q:Zbb [.bool]→Prop):Zd.wp x0 x1 Q=fnW τ0 (walk τ0 κ1 φA) Zd.A (Zbo Tryz.f88) [.d (.sl tC),.f [tC] [.bool]] [.bool] (x0,x1,()) Q:=by kernel_rfl
noncomputable def Zd.con:Con:=⟨[.d (.sl tC),.f [tC] [.bool]],some fun x=>Zd.pre x,fun x=>Zbt [.bool] (Zd.fn x)⟩
theorem Zd.ok:Zah prog 88 Zd.con:=Zg (Wp:=fun xs Q=>Zd.wp xs.1 xs.2.1 Q) Zar (Zq Zar Zfk ZbG mixed) (Zbn Tryz.func88 (by kernel_rfl) (by kernel_rfl)) (fun xs Q=>Zd.walk xs.1 xs.2.1 Q) fun ⟨x0,x1,_⟩ hl hp=>Zd.spec x0 x1 hp
def Zaz.A:An:=.mk [] [] [] [] []
theorem Zaz.walk (x0:PS.den (.d (.int .u64))) (x1:PS.den (.d tI)) (Q:Zbb [(.int .u64)]→Prop):Zaz.wp x0 x1 Q=fnW τ0 (walk τ0 κ1 φA) Zaz.A (Zbo Tryz.f183) [.d (.int .u64),.d tI] [(.int .u64)] (x0,x1,()) Q:=by kernel_rfl
noncomputable def Zaz.con:Con:=⟨[.d (.int .u64),.d tI],none,fun x=>Zbt [(.int .u64)] (Zaz.fn x)⟩
theorem Zaz.ok:Zah prog 183 Zaz.con:=Zg (Wp:=fun xs Q=>Zaz.wp xs.1 xs.2.1 Q) Zar (Zq Zar Zfk ZbG mixed) (Zbn Tryz.func183 (by kernel_rfl) (by kernel_rfl)) (fun xs Q=>Zaz.walk xs.1 xs.2.1 Q) fun ⟨x0,x1,_⟩ hl hp=>Zaz.spec x0 x1
def ZaI.A:An:=.mk [(1000,[.own 3 tC])] [(0,⟨[.t 13 tI,.row 1 tC,.smap 0 tI],[3],[58,23,20,22,21,19,18,17,6,16,15,14,57,54,52,56,55,53,51,50,34,9,8,33,32,28,31,30,29,7,27,26,25,24,49,48,47,46,45,44,43,42,41,40,39,38,37,36,35],[]⟩)] [] [] []
theorem ZaI.walk (x0:PS.den (.d (.sl tC))) (Q:Zbb [(.sl tC)]→Prop):ZaI.wp x0 Q=fnW τ0 (walk τ0 κ1 φA) ZaI.A (Zbo Tryz.f109) [.d (.sl tC)] [(.sl tC)] (x0,()) Q:=by kernel_rfl
noncomputable def ZaI.con:Con:=⟨[.d (.sl tC)],some fun x=>ZaI.pre x,fun x=>Zbt [(.sl tC)] (ZaI.fn x)⟩
theorem ZaI.ok:Zah prog 109 ZaI.con:=Zg (Wp:=fun xs Q=>ZaI.wp xs.1 Q) Zar (Zq Zar Zfk ZbG mixed) (Zbn Tryz.func109 (by kernel_rfl) (by kernel_rfl)) (fun xs Q=>ZaI.walk xs.1 Q) fun ⟨x0,_⟩ hl hp=>ZaI.spec x0 hp
def Zz.A:An:=.mk [] [] [] [] []
theorem Zz.walk (x0:PS.den (.d tI)) (x1:PS.den (.d tI)) (Q:Zbb [tI]→Prop):Zz.wp x0 x1 Q=fnW τ0 (walk τ0 κ1 φA) Zz.A (Zbo Tryz.f135) [.d tI,.d tI] [tI] (x0,x1,()) Q:=by kernel_rfl
noncomputable def Zz.con:Con:=⟨[.d tI,.d tI],none,fun x=>Zbt [tI] (Zz.fn x)⟩
theorem Zz.ok:Zah prog 135 Zz.con:=Zg (Wp:=fun xs Q=>Zz.wp xs.1 xs.2.1 Q) Zar (Zq Zar Zfk ZbG mixed) (Zbn Tryz.func135 (by kernel_rfl) (by kernel_rfl)) (fun xs Q=>Zz.walk xs.1 xs.2.1 Q) fun ⟨x0,x1,_⟩ hl hp=>Zz.spec x0 x1
def Zo.A:An:=.mk [(1000,[.own 3 (.int .u8)])] [(0,⟨[.t 8 tI,.row 0 (.int .u8)],[3],[40,39,37,36,38,32,31,35,34,33,26,25,30,29,28,27,23,22,24,19,18,21,20,16,15,17,12,14,13,5,11,10,9],[]⟩)] [] [] []
theorem Zo.walk (x0:PS.den (.d (.sl tC))) (Q:Zbb [.str]→Prop):Zo.wp x0 Q=fnW τ0 (walk τ0 κ1 φC) Zo.A (Zbo Tryz.f76) [.d (.sl tC)] [.str] (x0,()) Q:=by kernel_rfl
noncomputable def Zo.con:Con:=⟨[.d (.sl tC)],some fun x=>Zo.pre x,fun x=>Zbt [.str] (Zo.fn x)⟩
theorem Zo.ok:Zah prog 76 Zo.con:=Zg (Wp:=fun xs Q=>Zo.wp xs.1 Q) Zar (Zq Zar Zfk ZwP mixed) (Zbn Tryz.func76 (by kernel_rfl) (by kernel_rfl)) (fun xs Q=>Zo.walk xs.1 Q) fun ⟨x0,_⟩ hl hp=>Zo.spec x0 hp
def Zt.A:An:=.mk [(1000,[.own 6 tC])] [(0,⟨[.t 29 tI,.row 6 tC],[6],[61,60,38,59,58,57,56,55,54,53,52,51,50,49,48,47,46,45,44,43,42,41,40,39,37,36,35,34,7,8,33,32,31,30,25],[]⟩)] [(5,⟨[.t 5 tI,.t 4 tI,.t 19 .bool,.t 18 tI],[],[22,21,20,17],[]⟩)] [] []
theorem Zt.walk (x0:PS.den (.d (.pair tI (.pair (.sl tC) (.pair (.sl (.pair tC (.pair tI tL))) (.pair tI (.pair (.sl (.pair tC (.pair tI tL))) (.pair (.sl (.pair tC (.pair tI tL))) (.sl (.pair tC (.pair tI tL))))))))))) (Q:Zbb [(.sl (.sl tC))]→Prop):Zt.wp x0 Q=fnW τ0 (walk τ0 κ1 φA) Zt.A (Zbo Tryz.f70) [.d (.pair tI (.pair (.sl tC) (.pair (.sl (.pair tC (.pair tI tL))) (.pair tI (.pair (.sl (.pair tC (.pair tI tL))) (.pair (.sl (.pair tC (.pair tI tL))) (.sl (.pair tC (.pair tI tL)))))))))] [(.sl (.sl tC))] (x0,()) Q:=by kernel_rfl
noncomputable def Zt.con:Con:=⟨[.d (.pair tI (.pair (.sl tC) (.pair (.sl (.pair tC (.pair tI tL))) (.pair tI (.pair (.sl (.pair tC (.pair tI tL))) (.pair (.sl (.pair tC (.pair tI tL))) (.sl (.pair tC (.pair tI tL)))))))))],some fun x=>Zt.pre x,fun x=>Zbt [(.sl (.sl tC))] (Zt.fn x)⟩
theorem Zt.ok:Zah prog 70 Zt.con:=Zg (Wp:=fun xs Q=>Zt.wp xs.1 Q) Zar (Zq Zar Zfk ZbG mixed) (Zbn Tryz.func70 (by kernel_rfl) (by kernel_rfl)) (fun xs Q=>Zt.walk xs.1 Q) fun ⟨x0,_⟩ hl hp=>Zt.spec x0 hp
def Zr.A:An:=.mk [(1000,[.own 3 tC])] [(2,⟨[.t 21 tI,.row 1 tC],[3],[39,38,25,37,36,35,34,33,32,31,30,29,28,27,26,7,24,23,22,10],[]⟩),(0,⟨[.t 14 tI,.row 1 tC],[],[40,22,39,38,25,37,36,35,34,33,32,31,30,29,28,27,26,7,24,23,21,20,19,18,5,17,16,15,10],[]⟩)] [] [] []
theorem Zr.walk (x0:PS.den (.d (.pair tI (.pair (.sl tC) (.pair (.sl (.pair tC (.pair tI tL))) (.pair tI (.pair (.sl (.pair tC (.pair tI tL))) (.pair (.sl (.pair tC (.pair tI tL))) (.sl (.pair tC (.pair tI tL))))))))))) (Q:Zbb [(.sl (.sl tC))]→Prop):Zr.wp x0 Q=fnW τ0 (walk τ0 κ1 φA) Zr.A (Zbo Tryz.f71) [.d (.pair tI (.pair (.sl tC) (.pair (.sl (.pair tC (.pair tI tL))) (.pair tI (.pair (.sl (.pair tC (.pair tI tL))) (.pair (.sl (.pair tC (.pair tI tL))) (.sl (.pair tC (.pair tI tL)))))))))] [(.sl (.sl tC))] (x0,()) Q:=by kernel_rfl
noncomputable def Zr.con:Con:=⟨[.d (.pair tI (.pair (.sl tC) (.pair (.sl (.pair tC (.pair tI tL))) (.pair tI (.pair (.sl (.pair tC (.pair tI tL))) (.pair (.sl (.pair tC (.pair tI tL))) (.sl (.pair tC (.pair tI tL)))))))))],some fun x=>Zr.pre x,fun x=>Zbt [(.sl (.sl tC))] (Zr.fn x)⟩
theorem Zr.ok:Zah prog 71 Zr.con:=Zg (Wp:=fun xs Q=>Zr.wp xs.1 Q) Zar (Zq Zar Zfk ZbG mixed) (Zbn Tryz.func71 (by kernel_rfl) (by kernel_rfl)) (fun xs Q=>Zr.walk xs.1 Q) fun ⟨x0,_⟩ hl hp=>Zr.spec x0 hp
def Zan.A:An:=.mk [] [] [] [] []
theorem Zan.walk (x0:PS.den (.d (.int .u64))) (x1:PS.den (.d tI)) (Q:Zbb [(.int .u64)]→Prop):Zan.wp x0 x1 Q=fnW τ0 (walk τ0 κ1 φA) Zan.A (Zbo Tryz.f147) [.d (.int .u64),.d tI] [(.int .u64)] (x0,x1,()) Q:=by kernel_rfl
noncomputable def Zan.con:Con:=⟨[.d (.int .u64),.d tI],some fun x=>Zan.pre x,fun x=>Zbt [(.int .u64)] (Zan.fn x)⟩
theorem Zan.ok:Zah prog 147 Zan.con:=Zg (Wp:=fun xs Q=>Zan.wp xs.1 xs.2.1 Q) Zar (Zq Zar Zfk ZbG mixed) (Zbn Tryz.func147 (by kernel_rfl) (by kernel_rfl)) (fun xs Q=>Zan.walk xs.1 xs.2.1 Q) fun ⟨x0,x1,_⟩ hl hp=>Zan.spec x0 x1 hp
def Zl.A:An:=.mk [(1000,[.own 9 tC])] [(0,⟨[.t 18 tI,.row 2 tC],[9],[47,46,29,45,44,43,42,41,40,39,38,37,36,35,34,33,32,31,30,28,27,26,25,24,23,22,11,21,20,19,14],[]⟩)] [] [] []
theorem Zl.walk (x0:PS.den (.d (.pair tI (.pair (.sl tC) (.pair (.sl (.pair tC (.pair tI tL))) (.pair tI (.pair (.sl (.pair tC (.pair tI tL))) (.pair (.sl (.pair tC (.pair tI tL))) (.sl (.pair tC (.pair tI tL))))))))))) (x1:PS.den (.d tI)) (x2:PS.den (.d tL)) (x3:PS.den (.d .bool)) (Q:Zbb [(.sl tC)]→Prop):Zl.wp x0 x1 x2 x3 Q=fnW τ0 (walk τ0 κ1 φA) Zl.A (Zbo Tryz.f104) [.d (.pair tI (.pair (.sl tC) (.pair (.sl (.pair tC (.pair tI tL))) (.pair tI (.pair (.sl (.pair tC (.pair tI tL))) (.pair (.sl (.pair tC (.pair tI tL))) (.sl (.pair tC (.pair tI tL))))))))),.d tI,.d tL,.d .bool] [(.sl tC)] (x0,x1,x2,x3,()) Q:=by kernel_rfl
noncomputable def Zl.con:Con:=⟨[.d (.pair tI (.pair (.sl tC) (.pair (.sl (.pair tC (.pair tI tL))) (.pair tI (.pair (.sl (.pair tC (.pair tI tL))) (.pair (.sl (.pair tC (.pair tI tL))) (.sl (.pair tC (.pair tI tL))))))))),.d tI,.d tL,.d .bool],some fun x=>Zl.pre x,fun x=>Zbt [(.sl tC)] (Zl.fn x)⟩
theorem Zl.ok:Zah prog 104 Zl.con:=Zg (Wp:=fun xs Q=>Zl.wp xs.1 xs.2.1 xs.2.2.1 xs.2.2.2.1 Q) Zar (Zq Zar Zfk ZbG mixed) (Zbn Tryz.func104 (by kernel_rfl) (by kernel_rfl)) (fun xs Q=>Zl.walk xs.1 xs.2.1 xs.2.2.1 xs.2.2.2.1 Q) fun ⟨x0,x1,x2,x3,_⟩ hl hp=>Zl.spec x0 x1 x2 x3 hp
def ZaE.A:An:=.mk [] [] [] [] []
theorem ZaE.walk (x0:PS.den (.d tC)) (x1:PS.den (.d tC)) (Q:Zbb [.bool]→Prop):ZaE.wp x0 x1 Q=fnW τ0 (walk τ0 κ1 φA) ZaE.A (Zbo Tryz.f93) [.d tC,.d tC] [.bool] (x0,x1,()) Q:=by kernel_rfl
noncomputable def ZaE.con:Con:=⟨[.d tC,.d tC],none,fun x=>Zbt [.bool] (ZaE.fn x)⟩
theorem ZaE.ok:Zah prog 93 ZaE.con:=Zg (Wp:=fun xs Q=>ZaE.wp xs.1 xs.2.1 Q) Zar (Zq Zar Zfk ZbG mixed) (Zbn Tryz.func93 (by kernel_rfl) (by kernel_rfl)) (fun xs Q=>ZaE.walk xs.1 xs.2.1 Q) fun ⟨x0,x1,_⟩ hl hp=>ZaE.spec x0 x1
def Zax.A:An:=.mk [] [(0,⟨[.t 8 tI],[],[15,14,13,12,4,11,10,9],[]⟩)] [] [] []
theorem Zax.walk (x0:PS.den (.d tL)) (Q:Zbb [.bool]→Prop):Zax.wp x0 Q=fnW τ0 (walk τ0 κ1 φA) Zax.A (Zbo Tryz.f87) [.d tL] [.bool] (x0,()) Q:=by kernel_rfl
noncomputable def Zax.con:Con:=⟨[.d tL],none,fun x=>Zbt [.bool] (Zax.fn x)⟩
theorem Zax.ok:Zah prog 87 Zax.con:=Zg (Wp:=fun xs Q=>Zax.wp xs.1 Q) Zar (Zq Zar Zfk ZbG mixed) (Zbn Tryz.func87 (by kernel_rfl) (by kernel_rfl)) (fun xs Q=>Zax.walk xs.1 Q) fun ⟨x0,_⟩ hl hp=>Zax.spec x0 hl.1.1.1
def ZaM.A:An:=.mk [] [(2,⟨[.t 7 (.int .u64),.t 4 (.int .u64)],[],[21,20,19,18,17,16],[]⟩),(0,⟨[.t 10 tI,.t 4 (.int .u64)],[],[22,17,16,21,20,19,18,7,15,14,6,13,12,11],[]⟩)] [] [] []
theorem ZaM.walk (x0:PS.den (.d (.sl tI))) (Q:Zbb [tI,tI]→Prop):ZaM.wp x0 Q=fnW τ0 (walk τ0 κ1 φA) ZaM.A (Zbo Tryz.f139) [.d (.sl tI)] [tI,tI] (x0,()) Q:=by kernel_rfl
noncomputable def ZaM.con:Con:=⟨[.d (.sl tI)],some fun x=>ZaM.pre x,fun x=>Zbt [tI,tI] (ZaM.fn x)⟩
theorem ZaM.ok:Zah prog 139 ZaM.con:=Zg (Wp:=fun xs Q=>ZaM.wp xs.1 Q) Zar (Zq Zar Zfk ZbG mixed) (Zbn Tryz.func139 (by kernel_rfl) (by kernel_rfl)) (fun xs Q=>ZaM.walk xs.1 Q) fun ⟨x0,_⟩ hl hp=>ZaM.spec x0 hl.1.1 hp
def ZaW.A:An:=.mk [] [] [] [] []
theorem ZaW.walk (x0:PS.den (.d tL)) (x1:PS.den (.d tL)) (Q:Zbb [tI]→Prop):ZaW.wp x0 x1 Q=fnW τ0 (walk τ0 κ1 φA) ZaW.A (Zbo Tryz.f167) [.d tL,.d tL] [tI] (x0,x1,()) Q:=by kernel_rfl
noncomputable def ZaW.con:Con:=⟨[.d tL,.d tL],some fun x=>ZaW.pre x,fun x=>Zbt [tI] (ZaW.fn x)⟩
theorem ZaW.ok:Zah prog 167 ZaW.con:=Zg (Wp:=fun xs Q=>ZaW.wp xs.1 xs.2.1 Q) Zar (Zq Zar Zfk ZbG mixed) (Zbn Tryz.func167 (by kernel_rfl) (by kernel_rfl)) (fun xs Q=>ZaW.walk xs.1 xs.2.1 Q) fun ⟨x0,x1,_⟩ hl hp=>ZaW.spec x0 x1 hp
def Z3.A:An:=.mk [] [] [] [] []
theorem Z3.walk (x0:PS.den (.d tC)) (x1:PS.den (.d tI)) (x2:PS.den (.d tI)) (x3:PS.den (.d tI)) (x4:PS.den (.d tL)) (Q:Zbb [tC]→Prop):Z3.wp x0 x1 x2 x3 x4 Q=fnW τ0 (walk τ0 κ1 φA) Z3.A (Zbo Tryz.f117) [.d tC,.d tI,.d tI,.d tI,.d tL] [tC] (x0,x1,x2,x3,x4,()) Q:=by kernel_rfl
noncomputable def Z3.con:Con:=⟨[.d tC,.d tI,.d tI,.d tI,.d tL],some fun x=>Z3.pre x,fun x=>Zbt [tC] (Z3.fn x)⟩
theorem Z3.ok:Zah prog 117 Z3.con:=Zg (Wp:=fun xs Q=>Z3.wp xs.1 xs.2.1 xs.2.2.1 xs.2.2.2.1 xs.2.2.2.2.1 Q) Zar (Zq Zar Zfk ZbG mixed) (Zbn Tryz.func117 (by kernel_rfl) (by kernel_rfl)) (fun xs Q=>Z3.walk xs.1 xs.2.1 xs.2.2.1 xs.2.2.2.1 xs.2.2.2.2.1 Q) fun ⟨x0,x1,x2,x3,x4,_⟩ hl hp=>Z3.spec x0 x1 x2 x3 x4 hp
noncomputable def κL2:List (Nat×CX):=(123,.con ZaY.con)::(88,.con Zd.con)::(183,.con Zaz.con)::(109,.con ZaI.con)::(135,.con Zz.con)::(76,.con Zo.con)::(70,.con Zt.con)::(71,.con Zr.con)::(147,.con Zan.con)::(104,.con Zl.con)::(93,.con ZaE.con)::(87,.con Zax.con)::(139,.con ZaM.con)::(167,.con ZaW.con)::(117,.con Z3.con)::κL1
theorem ZtB:Zau prog (fun n=>ZbT n κL2):=Zi ZaY.ok (Zi Zd.ok (Zi Zaz.ok (Zi ZaI.ok (Zi Zz.ok (Zi Zo.ok (Zi Zt.ok (Zi Zr.ok (Zi Zan.ok (Zi Zl.ok (Zi ZaE.ok (Zi Zax.ok (Zi ZaM.ok (Zi ZaW.ok (Zi Z3.ok ZtG))))))))))))))
noncomputable def κ2:Zaa:=fun n=>ZbT n κL2
theorem Zlx:Zau prog κ2:=ZtB
def ZE.A:An:=.mk [] [] [] [] []
theorem ZE.walk (x0:PS.den (.d tC)) (Q:Zbb [.bool]→Prop):ZE.wp x0 Q=fnW τ0 (walk τ0 κ2 φA) ZE.A (Zbo Tryz.f90) [.d tC] [.bool] (x0,()) Q:=by kernel_rfl
noncomputable def ZE.con:Con:=⟨[.d tC],none,fun x=>Zbt [.bool] (ZE.fn x)⟩
theorem ZE.ok:Zah prog 90 ZE.con:=Zg (Wp:=fun xs Q=>ZE.wp xs.1 Q) Zar (Zq Zar Zlx ZbG mixed) (Zbn Tryz.func90 (by kernel_rfl) (by kernel_rfl)) (fun xs Q=>ZE.walk xs.1 Q) fun ⟨x0,_⟩ hl hp=>ZE.spec x0
def Za8.A:An:=.mk [] [] [] [] []
theorem Za8.walk (x0:PS.den (.d (.sl tI))) (Q:Zbb [tI,tI]→Prop):Za8.wp x0 Q=fnW τ0 (walk τ0 κ2 φA) Za8.A (Zbo Tryz.f169) [.d (.sl tI)] [tI,tI] (x0,()) Q:=by kernel_rfl
noncomputable def Za8.con:Con:=⟨[.d (.sl tI)],some fun x=>Za8.pre x,fun x=>Zbt [tI,tI] (Za8.fn x)⟩
theorem Za8.ok:Zah prog 169 Za8.con:=Zg (Wp:=fun xs Q=>Za8.wp xs.1 Q) Zar (Zq Zar Zlx ZbG mixed) (Zbn Tryz.func169 (by kernel_rfl) (by kernel_rfl)) (fun xs Q=>Za8.walk xs.1 Q) fun ⟨x0,_⟩ hl hp=>Za8.spec x0 hp
def Zm.A:An:=.mk [] [(0,⟨[.t 11 tI],[],[30,28,27,8,26,25,24,7,23,22,21,20,19,18,17,16,6,5,15,14,13,12],[]⟩)] [] [] []
theorem Zm.walk (x0:PS.den (.d (.sl tI))) (x1:PS.den (.d (.sl tI))) (Q:Zbb [tI]→Prop):Zm.wp x0 x1 Q=fnW τ0 (walk τ0 κ2 φA) Zm.A (Zbo Tryz.f136) [.d (.sl tI),.d (.sl tI)] [tI] (x0,x1,()) Q:=by kernel_rfl
noncomputable def Zm.con:Con:=⟨[.d (.sl tI),.d (.sl tI)],none,fun x=>Zbt [tI] (Zm.fn x)⟩
theorem Zm.ok:Zah prog 136 Zm.con:=Zg (Wp:=fun xs Q=>Zm.wp xs.1 xs.2.1 Q) Zar (Zq Zar Zlx ZbG mixed) (Zbn Tryz.func136 (by kernel_rfl) (by kernel_rfl)) (fun xs Q=>Zm.walk xs.1 xs.2.1 Q) fun ⟨x0,x1,_⟩ hl hp=>Zm.spec x0 x1 hl.1.1
def ZQ.A:An:=.mk [] [(0,⟨[.t 9 tI],[],[15,14,13,5,12,11,10],[]⟩)] [] [] []
theorem ZQ.walk (x0:PS.den (.d (.sl tI))) (Q:Zbb [tI,tI]→Prop):ZQ.wp x0 Q=fnW τ0 (walk τ0 κ2 φA) ZQ.A (Zbo Tryz.f130) [.d (.sl tI)] [tI,tI] (x0,()) Q:=by kernel_rfl
noncomputable def ZQ.con:Con:=⟨[.d (.sl tI)],some fun x=>ZQ.pre x,fun x=>Zbt [tI,tI] (ZQ.fn x)⟩
theorem ZQ.ok:Zah prog 130 ZQ.con:=Zg (Wp:=fun xs Q=>ZQ.wp xs.1 Q) Zar (Zq Zar Zlx ZbG mixed) (Zbn Tryz.func130 (by kernel_rfl) (by kernel_rfl)) (fun xs Q=>ZQ.walk xs.1 Q) fun ⟨x0,_⟩ hl hp=>ZQ.spec x0 hl.1.1 hp
def ZC.A:An:=.mk [] [(0,⟨[.t 13 tI],[],[26,25,24,23,22,21,20,19,18,17,16,5,15,14],[]⟩)] [] [] []
theorem ZC.walk (x0:PS.den (.d (.sl tC))) (x1:PS.den (.d (.sl tC))) (Q:Zbb [.bool]→Prop):ZC.wp x0 x1 Q=fnW τ0 (walk τ0 κ2 φA) ZC.A (Zbo Tryz.f62) [.d (.sl tC),.d (.sl tC)] [.bool] (x0,x1,()) Q:=by kernel_rfl
noncomputable def ZC.con:Con:=⟨[.d (.sl tC),.d (.sl tC)],none,fun x=>Zbt [.bool] (ZC.fn x)⟩
theorem ZC.ok:Zah prog 62 ZC.con:=Zg (Wp:=fun xs Q=>ZC.wp xs.1 xs.2.1 Q) Zar (Zq Zar Zlx ZbG mixed) (Zbn Tryz.func62 (by kernel_rfl) (by kernel_rfl)) (fun xs Q=>ZC.walk xs.1 xs.2.1 Q) fun ⟨x0,x1,_⟩ hl hp=>ZC.spec x0 x1 hl.1.1
def Zak.A:An:=.mk [] [] [] [] []
theorem Zak.walk (x0:PS.den (.d tC)) (Q:Zbb [.bool]→Prop):Zak.wp x0 Q=fnW τ0 (walk τ0 κ2 φA) Zak.A (Zbo Tryz.f55) [.d tC] [.bool] (x0,()) Q:=by kernel_rfl
noncomputable def Zak.con:Con:=⟨[.d tC],none,fun x=>Zbt [.bool] (Zak.fn x)⟩
theorem Zak.ok:Zah prog 55 Zak.con:=Zg (Wp:=fun xs Q=>Zak.wp xs.1 Q) Zar (Zq Zar Zlx ZbG mixed) (Zbn Tryz.func55 (by kernel_rfl) (by kernel_rfl)) (fun xs Q=>Zak.walk xs.1 Q) fun ⟨x0,_⟩ hl hp=>Zak.spec x0
def ZO.A:An:=.mk [] [(1,⟨[.t 73 tI],[],[83,78,77,9,76,75,74],[]⟩),(3,⟨[.t 104 tI,.row 2 tI],[],[120,119,118,117,109,116,115,114,113,112,111,110,12,11,108,107,106,105],[]⟩)] [] [] []
theorem ZO.walk (x0:PS.den (.d tC)) (Q:Zbb [tC,tI]→Prop):ZO.wp x0 Q=fnW τ0 (walk τ0 κ2 φA) ZO.A (Zbo Tryz.f124) [.d tC] [tC,tI] (x0,()) Q:=by kernel_rfl
noncomputable def ZO.con:Con:=⟨[.d tC],some fun x=>ZO.pre x,fun x=>Zbt [tC,tI] (ZO.fn x)⟩
theorem ZO.ok:Zah prog 124 ZO.con:=Zg (Wp:=fun xs Q=>ZO.wp xs.1 Q) Zar (Zq Zar Zlx ZbG mixed) (Zbn Tryz.func124 (by kernel_rfl) (by kernel_rfl)) (fun xs Q=>ZO.walk xs.1 Q) fun ⟨x0,_⟩ hl hp=>ZO.spec x0 hp
def ZaN.A:An:=.mk [] [] [] [] []
theorem ZaN.walk (x0:PS.den (.d tC)) (x1:PS.den (.d tC)) (Q:Zbb [tI]→Prop):ZaN.wp x0 x1 Q=fnW τ0 (walk τ0 κ2 φA) ZaN.A (Zbo Tryz.f142) [.d tC,.d tC] [tI] (x0,x1,()) Q:=by kernel_rfl
noncomputable def ZaN.con:Con:=⟨[.d tC,.d tC],some fun x=>ZaN.pre x,fun x=>Zbt [tI] (ZaN.fn x)⟩
theorem ZaN.ok:Zah prog 142 ZaN.con:=Zg (Wp:=fun xs Q=>ZaN.wp xs.1 xs.2.1 Q) Zar (Zq Zar Zlx ZbG mixed) (Zbn Tryz.func142 (by kernel_rfl) (by kernel_rfl)) (fun xs Q=>ZaN.walk xs.1 xs.2.1 Q) fun ⟨x0,x1,_⟩ hl hp=>ZaN.spec x0 x1 hp
def ZV.A:An:=.mk [(1000,[.own 10 tC])] [(0,⟨[.t 33 tI,.row 1 tC],[10],[71,40,39,38,11,12,37,36,35,34,59,48,58,57,56,55,54,53,52,51,50,49,47,46,45,44,43,42,41,70,60,69,68,67,66,65,64,63,62,61],[]⟩)] [] [] []
theorem ZV.walk (x0:PS.den (.d (.sl tC))) (x1:PS.den (.d tI)) (x2:PS.den (.d tI)) (Q:Zbb [(.sl tC)]→Prop):ZV.wp x0 x1 x2 Q=fnW τ0 (walk τ0 κ2 φA) ZV.A (Zbo Tryz.f81) [.d (.sl tC),.d tI,.d tI] [(.sl tC)] (x0,x1,x2,()) Q:=by kernel_rfl
noncomputable def ZV.con:Con:=⟨[.d (.sl tC),.d tI,.d tI],some fun x=>ZV.pre x,fun x=>Zbt [(.sl tC)] (ZV.fn x)⟩
theorem ZV.ok:Zah prog 81 ZV.con:=Zg (Wp:=fun xs Q=>ZV.wp xs.1 xs.2.1 xs.2.2.1 Q) Zar (Zq Zar Zlx ZbG mixed) (Zbn Tryz.func81 (by kernel_rfl) (by kernel_rfl)) (fun xs Q=>ZV.walk xs.1 xs.2.1 xs.2.2.1 Q) fun ⟨x0,x1,x2,_⟩ hl hp=>ZV.spec x0 x1 x2 hp
noncomputable def κL3:List (Nat×CX):=(90,.con ZE.con)::(169,.con Za8.con)::(136,.con Zm.con)::(130,.con ZQ.con)::(62,.con ZC.con)::(55,.con Zak.con)::(124,.con ZO.con)::(142,.con ZaN.con)::(81,.con ZV.con)::κL2
theorem Zts:Zau prog (fun n=>ZbT n κL3):=Zi ZE.ok (Zi Za8.ok (Zi Zm.ok (Zi ZQ.ok (Zi ZC.ok (Zi Zak.ok (Zi ZO.ok (Zi ZaN.ok (Zi ZV.ok ZtB))))))))
noncomputable def κ3:Zaa:=fun n=>ZbT n κL3
theorem Zjf:Zau prog κ3:=Zts
def Zbk.A:An:=.mk [] [(0,⟨[.t 9 tI],[],[24,23,22,21,20,19,18,17,16,15,14,13,6,12,11,10],[]⟩)] [] [] []
theorem Zbk.walk (x0:PS.den (.d (.sl tC))) (x1:PS.den (.d tI)) (Q:Zbb [.bool]→Prop):Zbk.wp x0 x1 Q=fnW τ0 (walk τ0 κ3 φA) Zbk.A (Zbo Tryz.f65) [.d (.sl tC),.d tI] [.bool] (x0,x1,()) Q:=by kernel_rfl
noncomputable def Zbk.con:Con:=⟨[.d (.sl tC),.d tI],none,fun x=>Zbt [.bool] (Zbk.fn x)⟩
theorem Zbk.ok:Zah prog 65 Zbk.con:=Zg (Wp:=fun xs Q=>Zbk.wp xs.1 xs.2.1 Q) Zar (Zq Zar Zjf ZbG mixed) (Zbn Tryz.func65 (by kernel_rfl) (by kernel_rfl)) (fun xs Q=>Zbk.walk xs.1 xs.2.1 Q) fun ⟨x0,x1,_⟩ hl hp=>Zbk.spec x0 x1 hl.1.1
def ZN.A:An:=.mk [] [] [] [] []
theorem ZN.walk (x0:PS.den (.d tC)) (Q:Zbb [tC,tI]→Prop):ZN.wp x0 Q=fnW τ0 (walk τ0 κ3 φA) ZN.A (Zbo Tryz.f149) [.d tC] [tC,tI] (x0,()) Q:=by kernel_rfl
noncomputable def ZN.con:Con:=⟨[.d tC],some fun x=>ZN.pre x,fun x=>Zbt [tC,tI] (ZN.fn x)⟩
theorem ZN.ok:Zah prog 149 ZN.con:=Zg (Wp:=fun xs Q=>ZN.wp xs.1 Q) Zar (Zq Zar Zjf ZbG mixed) (Zbn Tryz.func149 (by kernel_rfl) (by kernel_rfl)) (fun xs Q=>ZN.walk xs.1 Q) fun ⟨x0,_⟩ hl hp=>ZN.spec x0 hp
def ZL.A:An:=.mk [] [(0,⟨[.t 44 tI],[],[54,49,48,7,47,46,45],[]⟩)] [] [] []
theorem ZL.walk (x0:PS.den (.d tC)) (Q:Zbb [tC,tI]→Prop):ZL.wp x0 Q=fnW τ0 (walk τ0 κ3 φA) ZL.A (Zbo Tryz.f150) [.d tC] [tC,tI] (x0,()) Q:=by kernel_rfl
noncomputable def ZL.con:Con:=⟨[.d tC],some fun x=>ZL.pre x,fun x=>Zbt [tC,tI] (ZL.fn x)⟩
theorem ZL.ok:Zah prog 150 ZL.con:=Zg (Wp:=fun xs Q=>ZL.wp xs.1 Q) Zar (Zq Zar Zjf ZbG mixed) (Zbn Tryz.func150 (by kernel_rfl) (by kernel_rfl)) (fun xs Q=>ZL.walk xs.1 Q) fun ⟨x0,_⟩ hl hp=>ZL.spec x0 hp
def ZD.A:An:=.mk [] [(0,⟨[.t 25 tI,.t 6 tI,.row 2 tI],[],[51,50,49,40,48,47,46,45,44,43,42,41,39,38,37,30,36,35,34,33,32,31,8,7,29,28,27,26],[]⟩)] [] [] []
theorem ZD.walk (x0:PS.den (.d tC)) (Q:Zbb [tC,tI]→Prop):ZD.wp x0 Q=fnW τ0 (walk τ0 κ3 φA) ZD.A (Zbo Tryz.f151) [.d tC] [tC,tI] (x0,()) Q:=by kernel_rfl
noncomputable def ZD.con:Con:=⟨[.d tC],some fun x=>ZD.pre x,fun x=>Zbt [tC,tI] (ZD.fn x)⟩
theorem ZD.ok:Zah prog 151 ZD.con:=Zg (Wp:=fun xs Q=>ZD.wp xs.1 Q) Zar (Zq Zar Zjf ZbG mixed) (Zbn Tryz.func151 (by kernel_rfl) (by kernel_rfl)) (fun xs Q=>ZD.walk xs.1 Q) fun ⟨x0,_⟩ hl hp=>ZD.spec x0 hp
def ZaR.A:An:=.mk [] [] [] [] []
theorem ZaR.walk (x0:PS.den (.d tC)) (Q:Zbb [.bool]→Prop):ZaR.wp x0 Q=fnW τ0 (walk τ0 κ3 φA) ZaR.A (Zbo Tryz.f107) [.d tC] [.bool] (x0,()) Q:=by kernel_rfl
noncomputable def ZaR.con:Con:=⟨[.d tC],none,fun x=>Zbt [.bool] (ZaR.fn x)⟩
theorem ZaR.ok:Zah prog 107 ZaR.con:=Zg (Wp:=fun xs Q=>ZaR.wp xs.1 Q) Zar (Zq Zar Zjf ZbG mixed) (Zbn Tryz.func107 (by kernel_rfl) (by kernel_rfl)) (fun xs Q=>ZaR.walk xs.1 Q) fun ⟨x0,_⟩ hl hp=>ZaR.spec x0
def Zai.A:An:=.mk [] [] [] [] []
theorem Zai.walk (x0:PS.den (.d tC)) (x1:PS.den (.d tC)) (Q:Zbb [tI]→Prop):Zai.wp x0 x1 Q=fnW τ0 (walk τ0 κ3 φA) Zai.A (Zbo Tryz.f112) [.d tC,.d tC] [tI] (x0,x1,()) Q:=by kernel_rfl
noncomputable def Zai.con:Con:=⟨[.d tC,.d tC],some fun x=>Zai.pre x,fun x=>Zbt [tI] (Zai.fn x)⟩
theorem Zai.ok:Zah prog 112 Zai.con:=Zg (Wp:=fun xs Q=>Zai.wp xs.1 xs.2.1 Q) Zar (Zq Zar Zjf ZbG mixed) (Zbn Tryz.func112 (by kernel_rfl) (by kernel_rfl)) (fun xs Q=>Zai.walk xs.1 xs.2.1 Q) fun ⟨x0,x1,_⟩ hl hp=>Zai.spec x0 x1 hp
def Zaq.A:An:=.mk [] [(0,⟨[.t 23 tI],[],[38,37,36,35,34,33,32,31,30,29,28,27,26,5,25,24],[]⟩)] [] [] []
theorem Zaq.walk (x0:PS.den (.d tS)) (x1:PS.den (.d tS)) (Q:Zbb [.bool]→Prop):Zaq.wp x0 x1 Q=fnW τ0 (walk τ0 κ3 φA) Zaq.A (Zbo Tryz.f29) [.d tS,.d tS] [.bool] (x0,x1,()) Q:=by kernel_rfl
noncomputable def Zaq.con:Con:=⟨[.d tS,.d tS],none,fun x=>Zbt [.bool] (Zaq.fn x)⟩
theorem Zaq.ok:Zah prog 29 Zaq.con:=Zg (Wp:=fun xs Q=>Zaq.wp xs.1 xs.2.1 Q) Zar (Zq Zar Zjf ZbG mixed) (Zbn Tryz.func29 (by kernel_rfl) (by kernel_rfl)) (fun xs Q=>Zaq.walk xs.1 xs.2.1 Q) fun ⟨x0,x1,_⟩ hl hp=>Zaq.spec x0 x1 hl.1.2.1
def Zaj.A:An:=.mk [] [(2,⟨[.t 33 tI],[],[49,48,47,46,45,44,43,42,41,40,39,38,37,6,36,35,34],[]⟩),(0,⟨[.t 24 tI],[],[50,34,49,48,47,46,45,44,43,42,41,40,39,38,37,6,36,35,33,32,31,30,29,28,4,27,26,25],[]⟩)] [] [] []
theorem Zaj.walk (x0:PS.den (.d tS)) (Q:Zbb [.bool]→Prop):Zaj.wp x0 Q=fnW τ0 (walk τ0 κ3 φA) Zaj.A (Zbo Tryz.f24) [.d tS] [.bool] (x0,()) Q:=by kernel_rfl
noncomputable def Zaj.con:Con:=⟨[.d tS],none,fun x=>Zbt [.bool] (Zaj.fn x)⟩
theorem Zaj.ok:Zah prog 24 Zaj.con:=Zg (Wp:=fun xs Q=>Zaj.wp xs.1 Q) Zar (Zq Zar Zjf ZbG mixed) (Zbn Tryz.func24 (by kernel_rfl) (by kernel_rfl)) (fun xs Q=>Zaj.walk xs.1 Q) fun ⟨x0,_⟩ hl hp=>Zaj.spec x0 hl.1.2.1
def ZU.A:An:=.mk [(1000,[.own 3 tC])] [(2,⟨[.t 6 tI],[],[28,27,26,25,24,23,22,21,20,19,18,17,16,15,14],[]⟩),(0,⟨[.t 10 tI,.t 3 (.sl tC)],[],[55,54,50,7,49,53,52,51,46,45,48,47,41,44,43,42,40,39,38,37,36,35,34,33,32,31,30,29,26,25,24,23,22,21,20,19,18,17,16,15,14,6,5,13,12,11,28,27],[]⟩)] [] [] []
theorem ZU.walk (x0:PS.den (.d (.sl tC))) (Q:Zbb [(.sl tC)]→Prop):ZU.wp x0 Q=fnW τ0 (walk τ0 κ3 φA) ZU.A (Zbo Tryz.f126) [.d (.sl tC)] [(.sl tC)] (x0,()) Q:=by kernel_rfl
noncomputable def ZU.con:Con:=⟨[.d (.sl tC)],some fun x=>ZU.pre x,fun x=>Zbt [(.sl tC)] (ZU.fn x)⟩
theorem ZU.ok:Zah prog 126 ZU.con:=Zg (Wp:=fun xs Q=>ZU.wp xs.1 Q) Zar (Zq Zar Zjf ZbG mixed) (Zbn Tryz.func126 (by kernel_rfl) (by kernel_rfl)) (fun xs Q=>ZU.walk xs.1 Q) fun ⟨x0,_⟩ hl hp=>ZU.spec x0 hp
def Zaw.A:An:=.mk [] [(0,⟨[.t 9 tI],[],[16,15,14,13,6,12,11,10],[]⟩)] [] [] []
theorem Zaw.walk (x0:PS.den (.d (.sl (.sl tC)))) (x1:PS.den (.d (.sl tC))) (Q:Zbb [.bool]→Prop):Zaw.wp x0 x1 Q=fnW τ0 (walk τ0 κ3 φA) Zaw.A (Zbo Tryz.f119) [.d (.sl (.sl tC)),.d (.sl tC)] [.bool] (x0,x1,()) Q:=by kernel_rfl
noncomputable def Zaw.con:Con:=⟨[.d (.sl (.sl tC)),.d (.sl tC)],none,fun x=>Zbt [.bool] (Zaw.fn x)⟩
theorem Zaw.ok:Zah prog 119 Zaw.con:=Zg (Wp:=fun xs Q=>Zaw.wp xs.1 xs.2.1 Q) Zar (Zq Zar Zjf ZbG mixed) (Zbn Tryz.func119 (by kernel_rfl) (by kernel_rfl)) (fun xs Q=>Zaw.walk xs.1 xs.2.1 Q) fun ⟨x0,x1,_⟩ hl hp=>Zaw.spec x0 x1 hl.1.1
noncomputable def κL4:List (Nat×CX):=(65,.con Zbk.con)::(149,.con ZN.con)::(150,.con ZL.con)::(151,.con ZD.con)::(107,.con ZaR.con)::(112,.con Zai.con)::(29,.con Zaq.con)::(24,.con Zaj.con)::(126,.con ZU.con)::(119,.con Zaw.con)::κL3
theorem ZtF:Zau prog (fun n=>ZbT n κL4):=Zi Zbk.ok (Zi ZN.ok (Zi ZL.ok (Zi ZD.ok (Zi ZaR.ok (Zi Zai.ok (Zi Zaq.ok (Zi Zaj.ok (Zi ZU.ok (Zi Zaw.ok Zts)))))))))
noncomputable def κ4:Zaa:=fun n=>ZbT n κL4
theorem ZrP:Zau prog κ4:=ZtF
def ZaO.A:An:=.mk [] [(0,⟨[.t 22 tI],[],[36,35,34,33,32,31,30,29,28,27,26,4,25,24,23],[]⟩)] [] [] []
theorem ZaO.walk (x0:PS.den (.d tS)) (Q:Zbb [.bool]→Prop):ZaO.wp x0 Q=fnW τ0 (walk τ0 κ4 φA) ZaO.A (Zbo Tryz.f39) [.d tS] [.bool] (x0,()) Q:=by kernel_rfl
noncomputable def ZaO.con:Con:=⟨[.d tS],none,fun x=>Zbt [.bool] (ZaO.fn x)⟩
theorem ZaO.ok:Zah prog 39 ZaO.con:=Zg (Wp:=fun xs Q=>ZaO.wp xs.1 Q) Zar (Zq Zar ZrP ZbG mixed) (Zbn Tryz.func39 (by kernel_rfl) (by kernel_rfl)) (fun xs Q=>ZaO.walk xs.1 Q) fun ⟨x0,_⟩ hl hp=>ZaO.spec x0 hl.1.2.1
noncomputable def Zca.con:Con:=⟨[],none,fun _=>.agg [.fn (.func 149) [] [],.fn (.func 150) [] [],.fn (.func 151) [] []]⟩
theorem Zca.val (xs:Zb4 []) (Q:V→Prop):Q (Zca.con.res xs)=fnV τ0 (walk τ0 κ4 φA) An.none (Zbo Tryz.f131) [] xs Q:=by kernel_rfl
theorem Zca.ok:Zah prog 131 Zca.con:=Zmo Zar (Zq Zar ZrP ZbG mixed) (Zbn Tryz.func131 (by kernel_rfl) (by kernel_rfl)) fun xs _ _=>Eq.mp (Zca.val xs _) rfl
def Zac.A:An:=.mk [] [] [] [] []
theorem Zac.walk (x0:PS.den (.d tC)) (x1:PS.den (.d tC)) (Q:Zbb [.bool]→Prop):Zac.wp x0 x1 Q=fnW τ0 (walk τ0 κ4 φA) Zac.A (Zbo Tryz.f114) [.d tC,.d tC] [.bool] (x0,x1,()) Q:=by kernel_rfl
noncomputable def Zac.con:Con:=⟨[.d tC,.d tC],some fun x=>Zac.pre x,fun x=>Zbt [.bool] (Zac.fn x)⟩
theorem Zac.ok:Zah prog 114 Zac.con:=Zg (Wp:=fun xs Q=>Zac.wp xs.1 xs.2.1 Q) Zar (Zq Zar ZrP ZbG mixed) (Zbn Tryz.func114 (by kernel_rfl) (by kernel_rfl)) (fun xs Q=>Zac.walk xs.1 xs.2.1 Q) fun ⟨x0,x1,_⟩ hl hp=>Zac.spec x0 x1 hp
def Z8.A:An:=.mk [(1000,[.own 6 tC,.own 7 tC,.own 8 tC]),(1003,[.own 13 tC])] [(0,⟨[.t 36 tI,.t 5 .bool,.row 0 tC,.row 1 tC,.row 2 tC],[6,7,8],[73,48,47,46,45,12,11,44,43,40,42,41,10,39,38,37,66,63,65,64,61,62,56,55,54,53,52,51,50,49,72,69,71,70,67,68,60,57,59,58],[]⟩),(5,⟨[.t 82 tI,.t 16 .bool,.row 3 tC],[],[107,106,105,104,103,102,101,100,99,98,97,96,95,94,93,92,91,90,89,88,87,86,85,17,84,83],[]⟩),(3,⟨[.t 76 tI,.row 3 tC],[13],[114,113,110,80,112,111,109,108,83,82,81,16,15,79,78,77,107,106,105,104,103,102,101,100,99,98,97,96,95,94,93,92,91,90,89,88,87,86,85,17,84],[]⟩),(9,⟨[.t 21 tI,.row 1 tC,.row 4 .bool],[7],[132,131,140,139,138,137,22,136,135,134,133,130,129,128,127,173,170,172,171,24,23,169,168,163,167,166,165,164,162,161,160,159,158,157,156,155,154,153,152,151,150,149,148,147,146,145,144,143,142,141],[]⟩),(7,⟨[.t 120 tI,.row 1 tC,.row 4 .bool],[],[174,130,129,128,127,132,131,140,139,138,137,22,136,135,134,133,173,170,172,171,24,23,169,168,163,167,166,165,164,162,161,160,159,158,157,156,155,154,153,152,151,150,149,148,147,146,145,144,143,142,141,21,126,125,19,20,124,123,122,121],[]⟩),(15,⟨[.t 206 tI,.row 4 .bool],[],[236,220,219,218,217,216,215,214,213,212,211,29,30,210,209,208,207,235,234,233,232,231,230,229,228,227,226,225,224,223,222,221],[]⟩),(13,⟨[.t 186 tI],[],[203,202,201,200,199,198,197,196,195,194,193,192,191,190,28,189,188,187],[]⟩),(11,⟨[.t 177 tI,.row 4 .bool],[],[237,207,236,220,219,218,217,216,215,214,213,212,211,29,30,210,209,208,235,234,233,232,231,230,229,228,227,226,225,224,223,222,221,206,205,204,187,186,185,184,183,182,25,26,181,180,179,178,203,202,201,200,199,198,197,196,195,194,193,192,191,190,28,189,188],[]⟩),(17,⟨[.t 241 tI,.row 1 tC],[31],[255,254,251,238,175,7,253,252,250,249,248,247,246,32,33,245,244,243,242],[]⟩)] [] [] []
theorem Z8.walk (x0:PS.den (.d (.sl tC))) (Q:Zbb [(.sl tC),.bool,tI]→Prop):Z8.wp x0 Q=fnW τ0 (walk τ0 κ4 φA) Z8.A (Zbo Tryz.f91) [.d (.sl tC)] [(.sl tC),.bool,tI] (x0,()) Q:=by kernel_rfl
noncomputable def Z8.con:Con:=⟨[.d (.sl tC)],some fun x=>Z8.pre x,fun x=>Zbt [(.sl tC),.bool,tI] (Z8.fn x)⟩
theorem Z8.ok:Zah prog 91 Z8.con:=Zg (Wp:=fun xs Q=>Z8.wp xs.1 Q) Zar (Zq Zar ZrP ZbG mixed) (Zbn Tryz.func91 (by kernel_rfl) (by kernel_rfl)) (fun xs Q=>Z8.walk xs.1 Q) fun ⟨x0,_⟩ hl hp=>Z8.spec x0 hp
def Zbf.A:An:=.mk [] [] [] [] []
theorem Zbf.walk (x0:PS.den (.d tS)) (x1:PS.den (.d tI)) (x2:PS.den (.d tS)) (x3:PS.den (.d tI)) (Q:Zbb [.bool]→Prop):Zbf.wp x0 x1 x2 x3 Q=fnW τ0 (walk τ0 κ4 φA) Zbf.A (Zbo Tryz.f16) [.d tS,.d tI,.d tS,.d tI] [.bool] (x0,x1,x2,x3,()) Q:=by kernel_rfl
noncomputable def Zbf.con:Con:=⟨[.d tS,.d tI,.d tS,.d tI],none,fun x=>Zbt [.bool] (Zbf.fn x)⟩
theorem Zbf.ok:Zah prog 16 Zbf.con:=Zg (Wp:=fun xs Q=>Zbf.wp xs.1 xs.2.1 xs.2.2.1 xs.2.2.2.1 Q) Zar (Zq Zar ZrP ZbG mixed) (Zbn Tryz.func16 (by kernel_rfl) (by kernel_rfl)) (fun xs Q=>Zbf.walk xs.1 xs.2.1 xs.2.2.1 xs.2.2.2.1 Q) fun ⟨x0,x1,x2,x3,_⟩ hl hp=>Zbf.spec x0 x1 x2 x3
noncomputable def κL5:List (Nat×CX):=(39,.con ZaO.con)::(131,.con Zca.con)::(114,.con Zac.con)::(91,.con Z8.con)::(16,.con Zbf.con)::κL4
theorem ZtO:Zau prog (fun n=>ZbT n κL5):=Zi ZaO.ok (Zi Zca.ok (Zi Zac.ok (Zi Z8.ok (Zi Zbf.ok ZtF))))
noncomputable def κ5:Zaa:=fun n=>ZbT n κL5
theorem Zvi:Zau prog κ5:=ZtO
def ZaF.A:An:=.mk [(1,[.cases 1 0 3])] [] [] [] []
theorem ZaF.walk (x0:PS.den (.d tC)) (Q:Zbb [tC,tI]→Prop):ZaF.wp x0 Q=fnW τ0 (walk τ0 κ5 φA) ZaF.A (Zbo Tryz.f106) [.d tC] [tC,tI] (x0,()) Q:=by kernel_rfl
noncomputable def ZaF.con:Con:=⟨[.d tC],some fun x=>ZaF.pre x,fun x=>Zbt [tC,tI] (ZaF.fn x)⟩
theorem ZaF.ok:Zah prog 106 ZaF.con:=Zg (Wp:=fun xs Q=>ZaF.wp xs.1 Q) Zar (Zq Zar Zvi ZbG mixed) (Zbn Tryz.func106 (by kernel_rfl) (by kernel_rfl)) (fun xs Q=>ZaF.walk xs.1 Q) fun ⟨x0,_⟩ hl hp=>ZaF.spec x0 hp
def ZG.A:An:=.mk [(1000,[.own 4 (.sl tC)])] [(0,⟨[.t 12 tI,.row 0 (.sl tC)],[4],[37,36,33,28,35,34,32,31,30,29,27,26,25,23,22,9,8,7,21,20,19,16,18,17,6,15,14,13],[]⟩)] [] [] []
theorem ZG.walk (x0:PS.den (.d (.sl (.sl tC)))) (Q:Zbb [(.sl (.sl tC)),tI]→Prop):ZG.wp x0 Q=fnW τ0 (walk τ0 κ5 φA) ZG.A (Zbo Tryz.f84) [.d (.sl (.sl tC))] [(.sl (.sl tC)),tI] (x0,()) Q:=by kernel_rfl
noncomputable def ZG.con:Con:=⟨[.d (.sl (.sl tC))],some fun x=>ZG.pre x,fun x=>Zbt [(.sl (.sl tC)),tI] (ZG.fn x)⟩
theorem ZG.ok:Zah prog 84 ZG.con:=Zg (Wp:=fun xs Q=>ZG.wp xs.1 Q) Zar (Zq Zar Zvi ZbG mixed) (Zbn Tryz.func84 (by kernel_rfl) (by kernel_rfl)) (fun xs Q=>ZG.walk xs.1 Q) fun ⟨x0,_⟩ hl hp=>ZG.spec x0 hp
noncomputable def κL6:List (Nat×CX):=(106,.con ZaF.con)::(84,.con ZG.con)::κL5
theorem ZtM:Zau prog (fun n=>ZbT n κL6):=Zi ZaF.ok (Zi ZG.ok ZtO)
noncomputable def κ6:Zaa:=fun n=>ZbT n κL6
theorem ZtW:Zau prog κ6:=ZtM
def Zaf.A:An:=.mk [(1002,[.own 7 tC])] [(0,⟨[.t 19 tI,.smap 0 tI],[],[33,32,31,30,29,28,27,26,25,24,5,6,23,22,21,20],[]⟩),(2,⟨[.t 37 tI,.row 2 tC,.imap 1 .bool],[7],[98,64,61,63,62,60,59,58,57,56,55,54,12,11,53,52,45,51,50,49,48,47,46,44,43,42,9,10,41,40,39,38,97,94,96,95,93,92,15,14,91,90,85,89,88,87,86,82,84,83,79,81,80,13,74,73,72,71,70,69,68,67,66,65,78,75,77,76],[]⟩)] [] [] []
theorem Zaf.walk (x0:PS.den (.d (.sl tC))) (Q:Zbb [(.sl tC),.bool]→Prop):Zaf.wp x0 Q=fnW τ0 (walk τ0 κ6 φA) Zaf.A (Zbo Tryz.f108) [.d (.sl tC)] [(.sl tC),.bool] (x0,()) Q:=by kernel_rfl
noncomputable def Zaf.con:Con:=⟨[.d (.sl tC)],some fun x=>Zaf.pre x,fun x=>Zbt [(.sl tC),.bool] (Zaf.fn x)⟩
theorem Zaf.ok:Zah prog 108 Zaf.con:=Zg (Wp:=fun xs Q=>Zaf.wp xs.1 Q) Zar (Zq Zar ZtW ZbG mixed) (Zbn Tryz.func108 (by kernel_rfl) (by kernel_rfl)) (fun xs Q=>Zaf.walk xs.1 Q) fun ⟨x0,_⟩ hl hp=>Zaf.spec x0 hp
def Zag.A:An:=.mk [] [] [] [] []
theorem Zag.walk (x0:PS.den (.d tI)) (x1:PS.den (.d (.sl (.sl tC)))) (Q:Zbb [tS,tI]→Prop):Zag.wp x0 x1 Q=fnW τ0 (walk τ0 κ6 φA) Zag.A (Zbo Tryz.f46) [.d tI,.d (.sl (.sl tC))] [tS,tI] (x0,x1,()) Q:=by kernel_rfl
noncomputable def Zag.con:Con:=⟨[.d tI,.d (.sl (.sl tC))],some fun x=>Zag.pre x,fun x=>Zbt [tS,tI] (Zag.fn x)⟩
theorem Zag.ok:Zah prog 46 Zag.con:=Zg (Wp:=fun xs Q=>Zag.wp xs.1 xs.2.1 Q) Zar (Zq Zar ZtW ZbG mixed) (Zbn Tryz.func46 (by kernel_rfl) (by kernel_rfl)) (fun xs Q=>Zag.walk xs.1 xs.2.1 Q) fun ⟨x0,x1,_⟩ hl hp=>Zag.spec x0 x1 hp
def ZF.A:An:=.mk [] [] [] [] []
theorem ZF.walk (x0:PS.den (.d (.sl (.sl tC)))) (Q:Zbb [(.sl (.sl tC)),tI]→Prop):ZF.wp x0 Q=fnW τ0 (walk τ0 κ6 φA) ZF.A (Zbo Tryz.f80) [.d (.sl (.sl tC))] [(.sl (.sl tC)),tI] (x0,()) Q:=by kernel_rfl
noncomputable def ZF.con:Con:=⟨[.d (.sl (.sl tC))],some fun x=>ZF.pre x,fun x=>Zbt [(.sl (.sl tC)),tI] (ZF.fn x)⟩
theorem ZF.ok:Zah prog 80 ZF.con:=Zg (Wp:=fun xs Q=>ZF.wp xs.1 Q) Zar (Zq Zar ZtW ZbG mixed) (Zbn Tryz.func80 (by kernel_rfl) (by kernel_rfl)) (fun xs Q=>ZF.walk xs.1 Q) fun ⟨x0,_⟩ hl hp=>ZF.spec x0 hp
noncomputable def κL7:List (Nat×CX):=(108,.con Zaf.con)::(46,.con Zag.con)::(80,.con ZF.con)::κL6
theorem ZrJ:Zau prog (fun n=>ZbT n κL7):=Zi Zaf.ok (Zi Zag.ok (Zi ZF.ok ZtM))
noncomputable def κ7:Zaa:=fun n=>ZbT n κL7
theorem Zvn:Zau prog κ7:=ZrJ
theorem ZvC:Sp.Ok prog 111 (.sort tC 112 (fun a b=>Zai.pre (a,b,())) (fun a b=>Zai.fn (a,b,()))):=ZwS ZwY Zw8 fun h=>ZuM (T:=tC) laysF6 rfl Zxc Zxb h Zai.ok ZcF.1 ZcF.2
noncomputable def φB:Nat→Option FX:=fun n=>Zce n ((111,.sp (.sort tC 112 (fun a b=>Zai.pre (a,b,())) (fun a b=>Zai.fn (a,b,()))))::Zu5)
theorem Zxa:∀ g fx,φB g=some fx→fx.Ok prog g:=Zbm ZvC ZqC
def Zb.A:An:=.mk [(20,[.part 5]),(1000,[.own 5 tC])] [(0,⟨[.t 14 tI,.row 0 tC],[5],[31,30,27,29,28,26,25,24,23,9,8,22,21,18,20,19,7,17,16,15],[]⟩)] [] [] [(50,.mk [] [(2,⟨[.t 7 tI,.t 5 tI,.row 2 tC],[],[37,36,58,57,56,55,54,53,52,51,50,49,48,47,46,45,44,43,42,41,40,39,38,35,34,33,32],[]⟩),(0,⟨[.t 5 tI],[],[17,16,28,27,26,25,24,23,22,21,20,19,18,15,14,13,12],[]⟩)] [] [] []),(43,.mk [(1002,[.own 10 tC])] [(0,⟨[.t 20 tI,.smap 1 tI],[],[50,26,25,24,6,23,22,21,49,48,47,46,45,44,43,42,41,40,39,38,37,9,8,36,35,31,34,33,32,7,30,29,28,27],[]⟩),(2,⟨[.t 53 tI,.row 2 tC],[10],[95,74,73,72,71,70,69,14,13,68,67,60,66,65,64,63,62,61,59,58,57,12,56,55,54,90,89,88,87,86,85,84,16,15,83,82,75,81,80,79,78,77,76,94,91,93,92],[]⟩)] [] [] [])]
theorem Zb.walk (x0:PS.den (.d (.sl tC))) (Q:Zbb [(.sl tC),.bool,tI]→Prop):Zb.wp x0 Q=fnW τ0 (walk τ0 κ7 φB) Zb.A (Zbo Tryz.f75) [.d (.sl tC)] [(.sl tC),.bool,tI] (x0,()) Q:=by kernel_rfl
noncomputable def Zb.con:Con:=⟨[.d (.sl tC)],some fun x=>Zb.pre x,fun x=>Zbt [(.sl tC),.bool,tI] (Zb.fn x)⟩
theorem Zb.ok:Zah prog 75 Zb.con:=Zg (Wp:=fun xs Q=>Zb.wp xs.1 Q) Zar (Zq Zar Zvn Zxa mixed) (Zbn Tryz.func75 (by kernel_rfl) (by kernel_rfl)) (fun xs Q=>Zb.walk xs.1 Q) fun ⟨x0,_⟩ hl hp=>Zb.spec x0 hp
def Zae.A:An:=.mk [] [] [] [] []
theorem Zae.walk (x0:PS.den (.d tS)) (Q:Zbb [tS,tI]→Prop):Zae.wp x0 Q=fnW τ0 (walk τ0 κ7 φA) Zae.A (Zbo Tryz.f44) [.d tS] [tS,tI] (x0,()) Q:=by kernel_rfl
noncomputable def Zae.con:Con:=⟨[.d tS],none,fun x=>Zbt [tS,tI] (Zae.fn x)⟩
theorem Zae.ok:Zah prog 44 Zae.con:=Zg (Wp:=fun xs Q=>Zae.wp xs.1 Q) Zar (Zq Zar Zvn ZbG mixed) (Zbn Tryz.func44 (by kernel_rfl) (by kernel_rfl)) (fun xs Q=>Zae.walk xs.1 Q) fun ⟨x0,_⟩ hl hp=>Zae.spec x0
def Zs.A:An:=.mk [(1000,[.own 8 tI]),(1002,[.own 13 tC]),(1005,[.own 25 (.sl tC)]),(1009,[.own 25 (.sl tC)])] [(0,⟨[.t 41 tI,.row 0 tI],[8],[62,61,52,60,59,58,57,56,55,54,53,51,50,49,48,47,46,45,10,44,43,42],[]⟩),(2,⟨[.t 74 tI,.t 17 tI,.t 15 tI,.t 16 tI,.row 1 tI,.row 2 tC],[14,13],[136,85,84,20,83,82,81,80,79,78,19,77,76,75,130,126,71,129,128,127,122,125,124,123,119,116,118,117,114,111,105,102,101,115,113,112,110,109,108,107,106,104,103,22,100,99,98,97,96,95,94,93,92,91,90,21,89,88,87,86,135,134,131,133,132,121,120],[]⟩),(7,⟨[.t 174 tI,.row 7 tC],[27],[191,190,181,171,189,188,187,186,185,184,183,182,180,179,178,29,177,176,175],[]⟩),(5,⟨[.t 26 tI,.row 6 (.sl tC)],[25],[168,167,195,192,194,193,27,171,175,191,190,181,189,188,187,186,185,184,183,182,180,179,178,29,177,176,174,173,172,169,170,166,165,164],[]⟩),(13,⟨[.t 245 tI,.t 239 tL,.row 20 tC,.cell 18 0 (.sl tI),.cell 18 1 tI],[36],[256,255,249,242,254,253,252,251,250,38,248,247,246],[17]⟩),(11,⟨[.t 34 tI,.row 6 (.sl tC)],[25],[230,229,260,257,259,258,36,242,246,256,255,249,254,253,252,251,250,38,248,247,245,239,244,243,240,241,35,238,237,236,235,234,233,232,231,228,227,226],[]⟩),(9,⟨[.t 205 tI,.row 6 (.sl tC)],[],[261,221,220,219,218,217,216,215,214,213,212,211,210,209,32,208,207,206,228,227,226,230,229,260,257,259,258,36,242,246,256,255,249,254,253,252,251,250,38,248,247,245,239,244,243,240,241,35,238,237,236,235,234,233,232,231,34,33,225,224,223,222],[]⟩)] [] [] []
theorem ZiY (x0:PS.den (.d tI)) (x1:PS.den (.d tL)) (x2:PS.den (.d tI)) (x3:PS.den (.d tL)) (Q:List Int×Int→Prop):ZB.wp x0 x1 x2 x3 Q=fnL τ0 (walk τ0 κ0 φA) ZB.A (Zbo Tryz.f82) [.d tI,.d tL,.d tI,.d tL] (x0,x1,x2,x3,()) Q:=by kernel_rfl
theorem Zkz:Zq0 prog 82 ⟨[.d tI,.d tL,.d tI,.d tL],ZB.pre,ZB.fn⟩:=Ztj (A:=ZB.A) Zar (Zq Zar Zb1 ZbG mixed) (Zbn Tryz.func82 (by kernel_rfl) (by kernel_rfl)) fun ⟨x0,x1,x2,x3,_⟩ hl hp=>Eq.mp (ZiY x0 x1 x2 x3 _) (ZB.spec x0 x1 x2 x3 hp)
noncomputable def Zs.κL:List (Nat×CX):=(82,.lin ⟨[.d tI,.d tL,.d tI,.d tL],ZB.pre,ZB.fn⟩)::κL7
noncomputable def Zs.κ:Zaa:=fun n=>ZbT n Zs.κL
theorem Zs.κok:Zau prog Zs.κ:=Zlu (c:=.lin ⟨[.d tI,.d tL,.d tI,.d tL],ZB.pre,ZB.fn⟩) Zkz (ZrJ)
theorem Zs.walk (x0:PS.den (.d (.sl tC))) (x1:PS.den (.d (.sl tC))) (x2:PS.den (.d tI)) (Q:Zbb [(.sl (.sl tC)),tI]→Prop):Zs.wp x0 x1 x2 Q=fnW τ0 (walk τ0 Zs.κ φA) Zs.A (Zbo Tryz.f83) [.d (.sl tC),.d (.sl tC),.d tI] [(.sl (.sl tC)),tI] (x0,x1,x2,()) Q:=by kernel_rfl
noncomputable def Zs.con:Con:=⟨[.d (.sl tC),.d (.sl tC),.d tI],some fun x=>Zs.pre x,fun x=>Zbt [(.sl (.sl tC)),tI] (Zs.fn x)⟩
theorem Zs.ok:Zah prog 83 Zs.con:=Zg (Wp:=fun xs Q=>Zs.wp xs.1 xs.2.1 xs.2.2.1 Q) Zar (Zq Zar Zs.κok ZbG mixed) (Zbn Tryz.func83 (by kernel_rfl) (by kernel_rfl)) (fun xs Q=>Zs.walk xs.1 xs.2.1 xs.2.2.1 Q) fun ⟨x0,x1,x2,_⟩ hl hp=>Zs.spec x0 x1 x2 hp
noncomputable def κL8:List (Nat×CX):=(75,.con Zb.con)::(44,.con Zae.con)::(83,.con Zs.con)::κL7
theorem Ztz:Zau prog (fun n=>ZbT n κL8):=Zi Zb.ok (Zi Zae.ok (Zi Zs.ok ZrJ))
noncomputable def κ8:Zaa:=fun n=>ZbT n κL8
theorem Zuy:Zau prog κ8:=Ztz
def Z5.A:An:=.mk [] [] [] [] [(13,.mk [] [] [] [] [(10,.mk [] [] [] [] [(5000,.mk [(1000,[.ownc 15 0 (.sl tC)])] [(0,⟨[.t 7 tI,.row 20 (.sl tC),.smap 16 .bool],[],[15,14,13,12,11,4,10,9,8],[]⟩)] [] [] [])])])]
theorem Z5.walk (x0:PS.den (.d tS)) (Q:Zbb [tS,tI]→Prop):Z5.wp x0 Q=fnW τ0 (walk τ0 κ8 φA) Z5.A (Zbo Tryz.f40) [.d tS] [tS,tI] (x0,()) Q:=by kernel_rfl
noncomputable def Z5.con:Con:=⟨[.d tS],none,fun x=>Zbt [tS,tI] (Z5.fn x)⟩
theorem Z5.ok:Zah prog 40 Z5.con:=Zg (Wp:=fun xs Q=>Z5.wp xs.1 Q) Zar (Zq Zar Zuy ZbG mixed) (Zbn Tryz.func40 (by kernel_rfl) (by kernel_rfl)) (fun xs Q=>Z5.walk xs.1 Q) fun ⟨x0,_⟩ hl hp=>Z5.spec x0
def ZP.A:An:=.mk [(10,[.nxt 60]),(2,[.frzl 2,.frzl 4,.frzl 5,.frzl 6])] [] [] [] [(41,.mk [] [] [] [] [(5000,.mk [(1000,[.ownc 62 0 (.sl tC)])] [(0,⟨[.t 8 tI,.row 67 (.sl tC),.smap 63 .bool],[],[16,15,14,13,12,4,11,10,9],[]⟩)] [] [] [(6,.mk [(4,[.frzl 3]),(1000,[.ownc 62 0 (.sl tC)]),(1002,[.ownc 62 0 (.sl tC)])] [(0,⟨[.t 40 tI,.row 70 (.sl tC),.smap 63 .bool],[],[54,53,52,51,50,49,48,47,46,45,44,43,9,42,41],[]⟩),(4,⟨[.t 74 tI,.row 70 (.sl tC),.smap 63 .bool],[],[98,97,96,95,94,93,92,91,90,89,88,87,86,85,84,13,83,82,81,80,79,78,77,12,76,75],[]⟩),(2,⟨[.t 58 tI,.row 70 (.sl tC),.smap 63 .bool],[],[99,72,71,70,69,68,67,66,65,64,63,62,11,61,60,59,75,98,97,96,95,94,93,92,91,90,89,88,87,86,85,84,13,83,82,81,80,79,78,77,12,76,74,73],[]⟩)] [] [] [(15,.mk [(1000,[.own 5 tI])] [(0,⟨[.t 17 tI,.row 68 tI],[5],[30,29,21,28,27,26,25,24,23,22,7,20,19,18],[]⟩),(2,⟨[.t 45 tI,.row 69 tI,.row 3 (.pair tC (.pair tI tL))],[8],[96,95,88,39,94,93,92,91,90,89,87,86,85,84,83,82,81,80,79,78,77,76,75,74,73,72,71,70,69,68,67,66,65,64,63,62,61,60,59,58,11,57,56,55,54,53,52,51,50,9,10,49,48,47,46],[]⟩)] [] [] [])])])]),(18,.mk [(1000,[.ownc 1 1 tC,.ownc 1 2 (.pair tC (.pair tI tL)),.ownc 1 4 (.pair tC (.pair tI tL)),.ownc 1 5 (.pair tC (.pair tI tL)),.ownc 1 6 (.pair tC (.pair tI tL))])] [(0,⟨[.t 18 tI,.cell 1 0 tI,.cell 1 3 tI,.row 2 tC,.row 3 (.pair tC (.pair tI tL)),.row 6 (.pair tC (.pair tI tL)),.row 4 (.pair tC (.pair tI tL)),.row 5 (.pair tC (.pair tI tL))],[],[122,52,51,43,50,49,48,33,29,47,46,45,44,42,41,40,11,39,38,37,36,35,34,10,32,31,30,28,27,26,25,24,23,22,9,21,20,19,121,120,117,94,87,86,83,80,79,76,119,118,56,55,116,96,95,93,92,91,90,89,88,85,84,82,81,78,77,75,74,73,72,71,70,69,68,67,63,66,65,64,12,54,53,106,105,102,104,103,101,97,100,99,98,115,114,111,113,112,110,107,109,108,62,61,58,60,59,57],[]⟩)] [] [] []),(35,.mk [] [(2,⟨[.t 21 tI],[],[33,32,31,30,29,28,27,26,25,6,24,23,22],[]⟩),(0,⟨[.t 14 tI],[],[34,22,33,32,31,30,29,28,27,26,25,6,24,23,21,20,19,18,4,17,16,15],[]⟩)] [] [] [])]
theorem ZP.walk (x0:PS.den (.d (.sl tC))) (x1:PS.den (.d tI)) (x2:PS.den (.d tI)) (Q:Zbb [(.sl (.sl tC)),tI]→Prop):ZP.wp x0 x1 x2 Q=fnW τ0 (walk τ0 κ8 φA) ZP.A (Zbo Tryz.f41) [.d (.sl tC),.d tI,.d tI] [(.sl (.sl tC)),tI] (x0,x1,x2,()) Q:=by kernel_rfl
noncomputable def ZP.con:Con:=⟨[.d (.sl tC),.d tI,.d tI],some fun x=>ZP.pre x,fun x=>Zbt [(.sl (.sl tC)),tI] (ZP.fn x)⟩
theorem ZP.ok:Zah prog 41 ZP.con:=Zg (Wp:=fun xs Q=>ZP.wp xs.1 xs.2.1 xs.2.2.1 Q) Zar (Zq Zar Zuy ZbG mixed) (Zbn Tryz.func41 (by kernel_rfl) (by kernel_rfl)) (fun xs Q=>ZP.walk xs.1 xs.2.1 xs.2.2.1 Q) fun ⟨x0,x1,x2,_⟩ hl hp=>ZP.spec x0 x1 x2 hp
def ZS.A:An:=.mk [(1000,[.own 8 tC,.own 11 tC,.own 9 tC,.own 10 tC])] [(0,⟨[.t 28 tI,.t 12 tI,.row 0 tC,.row 1 tC,.row 2 tC,.row 3 tC],[8,11,9,10],[95,57,46,56,55,54,53,52,51,50,49,48,47,43,45,44,15,38,37,36,35,34,33,13,14,32,31,30,29,79,78,77,76,75,74,73,72,71,70,69,68,67,66,65,64,63,62,58,61,60,59,87,84,86,85,80,83,82,81,94,91,93,92,88,90,89,42,39,41,40],[]⟩),(5,⟨[.t 135 tI,.t 16 .bool],[],[158,157,156,155,154,153,152,151,150,149,148,147,146,145,144,143,142,141,140,139,20,138,137,136],[]⟩),(3,⟨[.t 129 tI,.t 16 .bool],[],[159,136,158,157,156,155,154,153,152,151,150,149,148,147,146,145,144,143,142,141,140,139,20,138,137,135,134,133,18,132,131,130],[]⟩),(9,⟨[.t 170 tI,.row 0 tC],[21],[200,199,174,161,8,198,197,196,195,194,193,192,191,190,189,188,187,186,185,184,183,182,181,180,179,178,177,176,175,25,173,172,171],[]⟩),(7,⟨[.t 164 tI,.row 0 tC],[],[201,171,200,199,174,161,8,198,197,196,195,194,193,192,191,190,189,188,187,186,185,184,183,182,181,180,179,178,177,176,175,25,173,172,170,169,168,23,167,166,165],[]⟩)] [] [] []
theorem ZS.walk (x0:PS.den (.d (.sl tC))) (x1:PS.den (.d tI)) (x2:PS.den (.d tI)) (Q:Zbb [(.sl (.sl tC)),tI]→Prop):ZS.wp x0 x1 x2 Q=fnW τ0 (walk τ0 κ8 φA) ZS.A (Zbo Tryz.f45) [.d (.sl tC),.d tI,.d tI] [(.sl (.sl tC)),tI] (x0,x1,x2,()) Q:=by kernel_rfl
noncomputable def ZS.con:Con:=⟨[.d (.sl tC),.d tI,.d tI],some fun x=>ZS.pre x,fun x=>Zbt [(.sl (.sl tC)),tI] (ZS.fn x)⟩
theorem ZS.ok:Zah prog 45 ZS.con:=Zg (Wp:=fun xs Q=>ZS.wp xs.1 xs.2.1 xs.2.2.1 Q) Zar (Zq Zar Zuy ZbG mixed) (Zbn Tryz.func45 (by kernel_rfl) (by kernel_rfl)) (fun xs Q=>ZS.walk xs.1 xs.2.1 xs.2.2.1 Q) fun ⟨x0,x1,x2,_⟩ hl hp=>ZS.spec x0 x1 x2 hp
noncomputable def κL9:List (Nat×CX):=(40,.con Z5.con)::(41,.con ZP.con)::(45,.con ZS.con)::κL8
theorem ZtS:Zau prog (fun n=>ZbT n κL9):=Zi Z5.ok (Zi ZP.ok (Zi ZS.ok Ztz))
noncomputable def κ9:Zaa:=fun n=>ZbT n κL9
theorem Zuc:Zau prog κ9:=ZtS
def ZaV.A:An:=.mk [(1000,[.own 8 (.sl tC)])] [(0,⟨[.t 39 tI,.row 3 (.sl tC)],[8],[58,57,55,56,52,51,12,11,50,49,43,48,47,46,45,44,10,42,41,40],[]⟩)] [] [] [(62,.mk [] [] [] [] [(5000,.mk [(1000,[.ownc 6 0 (.sl tC)])] [(0,⟨[.t 7 tI,.row 11 (.sl tC),.smap 7 .bool],[],[15,14,13,12,11,4,10,9,8],[]⟩)] [] [] [])])]
theorem ZaV.walk (x0:PS.den (.d tS)) (x1:PS.den (.d tI)) (Q:Zbb [tS,tI]→Prop):ZaV.wp x0 x1 Q=fnW τ0 (walk τ0 κ9 φA) ZaV.A (Zbo Tryz.f14) [.d tS,.d tI] [tS,tI] (x0,x1,()) Q:=by kernel_rfl
noncomputable def ZaV.con:Con:=⟨[.d tS,.d tI],none,fun x=>Zbt [tS,tI] (ZaV.fn x)⟩
theorem ZaV.ok:Zah prog 14 ZaV.con:=Zg (Wp:=fun xs Q=>ZaV.wp xs.1 xs.2.1 Q) Zar (Zq Zar Zuc ZbG mixed) (Zbn Tryz.func14 (by kernel_rfl) (by kernel_rfl)) (fun xs Q=>ZaV.walk xs.1 xs.2.1 Q) fun ⟨x0,x1,_⟩ hl hp=>ZaV.spec x0 x1
def ZaS.A:An:=.mk [(1000,[.own 8 (.sl tC)])] [(0,⟨[.t 38 tI,.row 3 (.sl tC)],[8],[57,56,54,55,51,50,12,11,49,48,42,47,46,45,44,43,10,41,40,39],[]⟩)] [] [] []
theorem ZaS.walk (x0:PS.den (.d tS)) (x1:PS.den (.d tI)) (Q:Zbb [tS,tI]→Prop):ZaS.wp x0 x1 Q=fnW τ0 (walk τ0 κ9 φA) ZaS.A (Zbo Tryz.f15) [.d tS,.d tI] [tS,tI] (x0,x1,()) Q:=by kernel_rfl
noncomputable def ZaS.con:Con:=⟨[.d tS,.d tI],none,fun x=>Zbt [tS,tI] (ZaS.fn x)⟩
theorem ZaS.ok:Zah prog 15 ZaS.con:=Zg (Wp:=fun xs Q=>ZaS.wp xs.1 xs.2.1 Q) Zar (Zq Zar Zuc ZbG mixed) (Zbn Tryz.func15 (by kernel_rfl) (by kernel_rfl)) (fun xs Q=>ZaS.walk xs.1 xs.2.1 Q) fun ⟨x0,x1,_⟩ hl hp=>ZaS.spec x0 x1
noncomputable def φR (N:Nat):Nat→Option FX:=fun n=>Zce n ((85,.sp (.self (ZqT 85 (ZdU N) Zc6)))::Zu5)
def Za4.A:An:=.mk [] [(0,⟨[.t 44 tI,.smap 2 .bool],[],[62,60,61,56,58,57,17,16,55,54,48,53,23,52,51,50,49,15,47,46,45],[]⟩)] [] [] []
theorem Za4.walk (N:Nat) (x0:List Zc) (x1:Int) (x2:ByteArray→Option Bool) (Q:Bool×Int→(ByteArray→Option Bool)→Prop):Za4.wp N x0 x1 x2 Q=Zww τ0 (walk τ0 κ9 (φR N)) Za4.A (Zbo Tryz.f85) (ZqT 85 (ZdU (N+1)) Zc6) (x0,x1) x2 (fun r b=>Q r b):=by kernel_rfl
theorem Za4.okN:∀ N,Sp.Ok prog 85 (.self (ZqT 85 (ZdU N) Zc6))
 | 0=>⟨ZkO _ _ _,(Zbn Tryz.func85 (by kernel_rfl) (by kernel_rfl)).call,fun E objs vs ks a b g hg hp=>absurd (show ZdU 0 a b from hp) (Zs9 a b)⟩
 | N+1=>Zsy Zar (Zq Zar Zuc (Zbm (f:=85) (x:=.sp (.self (ZqT 85 (ZdU N) Zc6))) (Za4.okN N) ZqC) mixed) (Zbn Tryz.func85 (by kernel_rfl) (by kernel_rfl)) (ZkO _ _ _) fun a b hp=>Eq.mp (Za4.walk N a.1 a.2 b _) (Za4.spec N a.1 a.2 b hp)
theorem Za4.ok:Sp.Ok prog 85 (.self (ZqT 85 Zjp Zc6)):=⟨ZkO _ _ _,(Za4.okN 0).2.1,fun E objs vs ks a b g hg hp cs rv=>let ⟨N,h⟩:=ZsK a b hp;(Za4.okN N).2.2 E objs vs ks a b g hg h cs rv⟩
noncomputable def φE:Nat→Option FX:=fun n=>Zce n ((85,.sp (.self (ZqT 85 Zjp Zc6)))::Zu5)
theorem ZwU:∀ g fx,φE g=some fx→fx.Ok prog g:=Zbm (f:=85) (x:=.sp (.self (ZqT 85 Zjp Zc6))) Za4.ok ZqC
noncomputable def Zwu:List (Nat×CX):=(14,.con ZaV.con)::(15,.con ZaS.con)::κL9
theorem Zp8:Zau prog (fun n=>ZbT n Zwu):=Zi ZaV.ok (Zi ZaS.ok ZtS)
noncomputable def κ10:Zaa:=fun n=>ZbT n Zwu
theorem Zvu:Zau prog κ10:=Zp8
def ZaJ.A:An:=.mk [] [(0,⟨[.t 26 tI,.smap 2 .bool],[],[44,42,41,40,39,38,10,9,37,36,30,35,34,33,32,31,8,29,28,27],[]⟩)] [] [] []
theorem ZaJ.walk (x0:PS.den (.d tS)) (Q:Zbb [.bool,tI]→Prop):ZaJ.wp x0 Q=fnW τ0 (walk τ0 κ10 φE) ZaJ.A (Zbo Tryz.f18) [.d tS] [.bool,tI] (x0,()) Q:=by kernel_rfl
noncomputable def ZaJ.con:Con:=⟨[.d tS],none,fun x=>Zbt [.bool,tI] (ZaJ.fn x)⟩
theorem ZaJ.ok:Zah prog 18 ZaJ.con:=Zg (Wp:=fun xs Q=>ZaJ.wp xs.1 Q) Zar (Zq Zar Zvu ZwU mixed) (Zbn Tryz.func18 (by kernel_rfl) (by kernel_rfl)) (fun xs Q=>ZaJ.walk xs.1 Q) fun ⟨x0,_⟩ hl hp=>ZaJ.spec x0
noncomputable def Zwl:List (Nat×CX):=(18,.con ZaJ.con)::Zwu
theorem ZqP:Zau prog (fun n=>ZbT n Zwl):=Zi ZaJ.ok Zp8
noncomputable def κ11:Zaa:=fun n=>ZbT n Zwl
theorem ZvJ:Zau prog κ11:=ZqP
def ZA.A:An:=.mk [] [] [] [] []
theorem ZA.walk  (Q:Zbb [.bool]→Prop):ZA.wp  Q=fnW τ0 (walk τ0 κ11 φA) ZA.A (Zbo Tryz.f13) [] [.bool] (()) Q:=by kernel_rfl
noncomputable def ZA.con:Con:=⟨[],none,fun x=>Zbt [.bool] (ZA.fn x)⟩
theorem ZA.ok:Zah prog 13 ZA.con:=Zg (Wp:=fun xs Q=>ZA.wp  Q) Zar (Zq Zar ZvJ ZbG mixed) (Zbn Tryz.func13 (by kernel_rfl) (by kernel_rfl)) (fun xs Q=>ZA.walk  Q) fun () hl hp=>by first | exact ZA.spec   | exact ZA.spec  hp | exact ZA.spec  hl.1 | exact ZA.spec  hl.1 hp | exact ZA.spec  hl.1.1 | exact ZA.spec  hl.1.1 hp | exact ZA.spec  hl.1.1.1 | exact ZA.spec  hl.1.1.1 hp | exact ZA.spec  hl.1.2.1 | exact ZA.spec  hl.1.2.1 hp | exact ZA.spec  hl.2.1 | exact ZA.spec  hl.2.1 hp | exact ZA.spec  hl.2.1.1 | exact ZA.spec  hl.2.1.1 hp | exact ZA.spec  hl.2.1.1.1 | exact ZA.spec  hl.2.1.1.1 hp | exact ZA.spec  hl.2.2.1.1 (fun s hs=>(hl.2.2.1.2 s hs).2.1)
noncomputable def ZwH:List (Nat×CX):=(13,.con ZA.con)::Zwl
theorem ZuE:Zau prog (fun n=>ZbT n ZwH):=Zi ZA.ok ZqP
noncomputable def κ12:Zaa:=fun n=>ZbT n ZwH
theorem ZvM:Zau prog κ12:=ZuE
def law05_ElimShadows.A:An:=.mk [] [] [] [] []
theorem law05_ElimShadows.walk (x0:PS.den (.d tS)) (x1:PS.den (.d tI)) (Q:Zbb [.bool]→Prop):law05_ElimShadows.wp x0 x1 Q=fnW τ0 (walk τ0 κ12 φA) law05_ElimShadows.A (Zbo Tryz.f3) [.d tS,.d tI] [.bool] (x0,x1,()) Q:=by kernel_rfl
theorem law05_ElimShadows.calls (x0:PS.den (.d tS)) (x1:PS.den (.d tI)) {W:World} (hS:Sok prog W (Ztr W)) {args:Array Value} (hr:Zbl prog (Zqx W) (Zjn [.d tS,.d tI] (x0,x1,())) args.toList):Calls prog 3 args W fun e w'=>e=.returned (.bool true)∧RowKit.Below W.heap.size W w' :=
 ZqA Zar (Zq Zar ZvM ZbG mixed) (Zbn Tryz.func3 (by kernel_rfl) (by kernel_rfl)) (law05_ElimShadows.walk x0 x1 _) (law05_ElimShadows.spec x0 x1) hS hr
end Go.Proofs.YtgpdnmfpgkkgcaaGreatDoor
