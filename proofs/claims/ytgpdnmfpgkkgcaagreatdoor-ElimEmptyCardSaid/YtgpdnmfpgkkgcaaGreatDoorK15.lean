/- Part of a proof that a law of the program holds for every input: printed by a program of this work: how the functions are walked. No conditions. -/
import Derived.Test.YtgpdnmfpgkkgcaaGreatDoorP14
namespace Go.Proofs.YtgpdnmfpgkkgcaaGreatDoor
open Go
set_option linter.unusedVariables false
set_option maxRecDepth 8000
set_option maxHeartbeats 4000000
abbrev tI:Ty:=.int .i64
abbrev tC:Ty:=(.pair (.int .i64) (.pair (.int .i64) (.pair (.sl (.int .i64)) (.int .i64))))
abbrev tS:Ty:=.pair (.int .i64) (.sl (.sl tC))
abbrev tL:Ty:=.pair (.sl (.int .i64)) (.int .i64)
noncomputable def φL0:List (Nat×FX):=[]
theorem ZwZ:∀ g fx,(fun n=>Zch n φL0) g=some fx→fx.Ok prog g:=ZsX
noncomputable def φL1:List (Nat×FX):=(77,.fi (Zbq Tryz.f77))::φL0
theorem Zw8:∀ g fx,(fun n=>Zch n φL1) g=some fx→fx.Ok prog g:=Zbs (Zbp Tryz.func77 (by kernel_rfl) (by kernel_rfl)) ZwZ
noncomputable def φL2:List (Nat×FX):=(110,.fi (Zbq Tryz.f110))::φL1
theorem Zw7:∀ g fx,(fun n=>Zch n φL2) g=some fx→fx.Ok prog g:=Zbs (Zbp Tryz.func110 (by kernel_rfl) (by kernel_rfl)) Zw8
noncomputable def φL3:List (Nat×FX):=(113,.fi (Zbq Tryz.f113))::φL2
theorem Zxc:∀ g fx,(fun n=>Zch n φL3) g=some fx→fx.Ok prog g:=Zbs (Zbp Tryz.func113 (by kernel_rfl) (by kernel_rfl)) Zw7
noncomputable def φL4:List (Nat×FX):=(42,.fi (Zbq Tryz.f42))::φL3
theorem Zxf:∀ g fx,(fun n=>Zch n φL4) g=some fx→fx.Ok prog g:=Zbs (Zbp Tryz.func42 (by kernel_rfl) (by kernel_rfl)) Zxc
noncomputable def φL5:List (Nat×FX):=(66,.fi (Zbq Tryz.f66))::φL4
theorem Zw9:∀ g fx,(fun n=>Zch n φL5) g=some fx→fx.Ok prog g:=Zbs (Zbp Tryz.func66 (by kernel_rfl) (by kernel_rfl)) Zxf
noncomputable def φL6:List (Nat×FX):=(67,.fi (Zbq Tryz.f67))::φL5
theorem Zxg:∀ g fx,(fun n=>Zch n φL6) g=some fx→fx.Ok prog g:=Zbs (Zbp Tryz.func67 (by kernel_rfl) (by kernel_rfl)) Zw9
noncomputable def φL7:List (Nat×FX):=(69,.fi (Zbq Tryz.f69))::φL6
theorem ZwW:∀ g fx,(fun n=>Zch n φL7) g=some fx→fx.Ok prog g:=Zbs (Zbp Tryz.func69 (by kernel_rfl) (by kernel_rfl)) Zxg
noncomputable def φL8:List (Nat×FX):=(101,.fi (Zbq Tryz.f101))::φL7
theorem Zxb:∀ g fx,(fun n=>Zch n φL8) g=some fx→fx.Ok prog g:=Zbs (Zbp Tryz.func101 (by kernel_rfl) (by kernel_rfl)) ZwW
noncomputable def φL9:List (Nat×FX):=(103,.fi (Zbq Tryz.f103))::φL8
theorem ZwX:∀ g fx,(fun n=>Zch n φL9) g=some fx→fx.Ok prog g:=Zbs (Zbp Tryz.func103 (by kernel_rfl) (by kernel_rfl)) Zxb
noncomputable def ZwK:List (Nat×FX):=(73,.fi (Zbq Tryz.f73))::φL9
theorem Zww:∀ g fx,(fun n=>Zch n ZwK) g=some fx→fx.Ok prog g:=Zbs (Zbp Tryz.func73 (by kernel_rfl) (by kernel_rfl)) ZwX
noncomputable def ZwL:List (Nat×FX):=(72,.fi (Zbq Tryz.f72))::ZwK
theorem ZwA:∀ g fx,(fun n=>Zch n ZwL) g=some fx→fx.Ok prog g:=Zbs (Zbp Tryz.func72 (by kernel_rfl) (by kernel_rfl)) Zww
noncomputable def ZwG:List (Nat×FX):=(74,.fi (Zbq Tryz.f74))::ZwL
theorem Zwr:∀ g fx,(fun n=>Zch n ZwG) g=some fx→fx.Ok prog g:=Zbs (Zbp Tryz.func74 (by kernel_rfl) (by kernel_rfl)) ZwA
noncomputable def Zu2:List (Nat×FX):=(47,.fi (Zbq Tryz.f47))::ZwG
theorem ZrZ:∀ g fx,(fun n=>Zch n Zu2) g=some fx→fx.Ok prog g:=Zbs (Zbp Tryz.func47 (by kernel_rfl) (by kernel_rfl)) Zwr
noncomputable def φA:Nat→Option FX:=fun n=>Zch n Zu2
theorem ZbI:∀ g fx,φA g=some fx→fx.Ok prog g:=ZrZ
noncomputable def φC:Nat→Option FX:=fun n=>Zch n ((115,.sp .appInt)::Zu2)
theorem ZwR:∀ g fx,φC g=some fx→fx.Ok prog g:=Zbs Zwz ZrZ
noncomputable def κL0:List (Nat×CX):=(68,.clo 69)::κR
theorem ZtS:Zay prog (fun n=>ZbU n κL0):=ZkD (c:=.clo 69) (Zsl (Zbp Tryz.func68 (by kernel_rfl) (by kernel_rfl)) rfl) (ZwE)
noncomputable def κ0:Zaf:=fun n=>ZbU n κL0
theorem Zb2:Zay prog κ0:=ZtS
def Zbj.A:An:=.mk [] [] [] [] []
theorem Zbj.walk (x0:PS.den (.d tI)) (Q:Zbf [.bool]→Prop):Zbj.wp x0 Q=fnW τ0 (walk τ0 κ0 φA) Zbj.A (Zbq Tryz.f138) [.d tI] [.bool] (x0,()) Q:=by kernel_rfl
noncomputable def Zbj.con:Con:=⟨[.d tI],none,fun x=>Zbv [.bool] (Zbj.fn x)⟩
theorem Zbj.ok:Zaj prog 138 Zbj.con:=Zg (Wp:=fun xs Q=>Zbj.wp xs.1 Q) Zat (Zq Zat Zb2 ZbI mixed) (Zbp Tryz.func138 (by kernel_rfl) (by kernel_rfl)) (fun xs Q=>Zbj.walk xs.1 Q) fun ⟨x0,_⟩ hl hp=>Zbj.spec x0
noncomputable def ZU.con:Con:=⟨[.d (.sl (.sl tC))],none,fun x=>.fn (.func 77) [] [.er [.d (.sl (.sl tC)) x.1]]⟩
theorem ZU.val (xs:Zb9 [.d (.sl (.sl tC))]) (Q:V→Prop):Q (ZU.con.res xs)=fnV τ0 (walk τ0 κ0 φA) An.none (Zbq Tryz.f43) [.d (.sl (.sl tC))] xs Q:=by kernel_rfl
theorem ZU.ok:Zaj prog 43 ZU.con:=Zmb Zat (Zq Zat Zb2 ZbI mixed) (Zbp Tryz.func43 (by kernel_rfl) (by kernel_rfl)) fun xs _ _=>Eq.mp (ZU.val xs _) rfl
def Ze.A:An:=.mk [] [(0,⟨[.t 8 tI],[],[18,16,15,14,13,12,11,5,10,9],[]⟩)] [] [] []
theorem Ze.walk (x0:PS.den (.d (.sl tC))) (x1:PS.den (.f [tC] [.bool])) (Q:Zbf [tI]→Prop):Ze.wp x0 x1 Q=fnW τ0 (walk τ0 κ0 φA) Ze.A (Zbq Tryz.f122) [.d (.sl tC),.f [tC] [.bool]] [tI] (x0,x1,()) Q:=by kernel_rfl
noncomputable def Ze.con:Con:=⟨[.d (.sl tC),.f [tC] [.bool]],some fun x=>Ze.pre x,fun x=>Zbv [tI] (Ze.fn x)⟩
theorem Ze.ok:Zaj prog 122 Ze.con:=Zg (Wp:=fun xs Q=>Ze.wp xs.1 xs.2.1 Q) Zat (Zq Zat Zb2 ZbI mixed) (Zbp Tryz.func122 (by kernel_rfl) (by kernel_rfl)) (fun xs Q=>Ze.walk xs.1 xs.2.1 Q) fun ⟨x0,x1,_⟩ hl hp=>Ze.spec x0 x1 hl.1.1 hp
def ZA.A:An:=.mk [] [(0,⟨[.t 11 tI,.t 1 (.int .u64)],[],[19,18,17,16,15,8,14,13,12],[]⟩)] [] [] []
theorem ZA.walk (x0:PS.den (.d (.sl tI))) (x1:PS.den (.d (.int .u64))) (x2:PS.den (.f [(.int .u64),tI] [(.int .u64)])) (Q:Zbf [(.int .u64)]→Prop):ZA.wp x0 x1 x2 Q=fnW τ0 (walk τ0 κ0 φA) ZA.A (Zbq Tryz.f146) [.d (.sl tI),.d (.int .u64),.f [(.int .u64),tI] [(.int .u64)]] [(.int .u64)] (x0,x1,x2,()) Q:=by kernel_rfl
noncomputable def ZA.con:Con:=⟨[.d (.sl tI),.d (.int .u64),.f [(.int .u64),tI] [(.int .u64)]],some fun x=>ZA.pre x,fun x=>Zbv [(.int .u64)] (ZA.fn x)⟩
theorem ZA.ok:Zaj prog 146 ZA.con:=Zg (Wp:=fun xs Q=>ZA.wp xs.1 xs.2.1 xs.2.2.1 Q) Zat (Zq Zat Zb2 ZbI mixed) (Zbp Tryz.func146 (by kernel_rfl) (by kernel_rfl)) (fun xs Q=>ZA.walk xs.1 xs.2.1 xs.2.2.1 Q) fun ⟨x0,x1,x2,_⟩ hl hp=>ZA.spec x0 x1 x2 hl.1.1 hp
def Z8.A:An:=.mk [] [(0,⟨[.t 1 (.int .u64),.t 0 (.int .u64)],[],[10,9,8,7,6,5],[]⟩)] [] [] []
theorem Z8.walk (x0:PS.den (.d (.int .u64))) (x1:PS.den (.d (.int .u64))) (Q:Zbf [(.int .u64)]→Prop):Z8.wp x0 x1 Q=fnW τ0 (walk τ0 κ0 φA) Z8.A (Zbq Tryz.f148) [.d (.int .u64),.d (.int .u64)] [(.int .u64)] (x0,x1,()) Q:=by kernel_rfl
noncomputable def Z8.con:Con:=⟨[.d (.int .u64),.d (.int .u64)],none,fun x=>Zbv [(.int .u64)] (Z8.fn x)⟩
theorem Z8.ok:Zaj prog 148 Z8.con:=Zg (Wp:=fun xs Q=>Z8.wp xs.1 xs.2.1 Q) Zat (Zq Zat Zb2 ZbI mixed) (Zbp Tryz.func148 (by kernel_rfl) (by kernel_rfl)) (fun xs Q=>Z8.walk xs.1 xs.2.1 Q) fun ⟨x0,x1,_⟩ hl hp=>Z8.spec x0 x1
def Zba.A:An:=.mk [] [] [] [] []
theorem Zba.walk (x0:PS.den (.d tI)) (Q:Zbf [(.int .u64)]→Prop):Zba.wp x0 Q=fnW τ0 (walk τ0 κ0 φA) Zba.A (Zbq Tryz.f184) [.d tI] [(.int .u64)] (x0,()) Q:=by kernel_rfl
noncomputable def Zba.con:Con:=⟨[.d tI],none,fun x=>Zbv [(.int .u64)] (Zba.fn x)⟩
theorem Zba.ok:Zaj prog 184 Zba.con:=Zg (Wp:=fun xs Q=>Zba.wp xs.1 Q) Zat (Zq Zat Zb2 ZbI mixed) (Zbp Tryz.func184 (by kernel_rfl) (by kernel_rfl)) (fun xs Q=>Zba.walk xs.1 Q) fun ⟨x0,_⟩ hl hp=>Zba.spec x0
def ZaN.A:An:=.mk [] [] [] [] []
theorem ZaN.walk (x0:PS.den (.d .bool)) (Q:Zbf [tC,tI]→Prop):ZaN.wp x0 Q=fnW τ0 (walk τ0 κ0 φA) ZaN.A (Zbq Tryz.f170) [.d .bool] [tC,tI] (x0,()) Q:=by kernel_rfl
noncomputable def ZaN.con:Con:=⟨[.d .bool],none,fun x=>Zbv [tC,tI] (ZaN.fn x)⟩
theorem ZaN.ok:Zaj prog 170 ZaN.con:=Zg (Wp:=fun xs Q=>ZaN.wp xs.1 Q) Zat (Zq Zat Zb2 ZbI mixed) (Zbp Tryz.func170 (by kernel_rfl) (by kernel_rfl)) (fun xs Q=>ZaN.walk xs.1 Q) fun ⟨x0,_⟩ hl hp=>ZaN.spec x0
def Zar.A:An:=.mk [] [] [] [] []
theorem Zar.walk (x0:PS.den (.d tI)) (x1:PS.den (.d tI)) (Q:Zbf [tI,tI]→Prop):Zar.wp x0 x1 Q=fnW τ0 (walk τ0 κ0 φA) Zar.A (Zbq Tryz.f171) [.d tI,.d tI] [tI,tI] (x0,x1,()) Q:=by kernel_rfl
noncomputable def Zar.con:Con:=⟨[.d tI,.d tI],some fun x=>Zar.pre x,fun x=>Zbv [tI,tI] (Zar.fn x)⟩
theorem Zar.ok:Zaj prog 171 Zar.con:=Zg (Wp:=fun xs Q=>Zar.wp xs.1 xs.2.1 Q) Zat (Zq Zat Zb2 ZbI mixed) (Zbp Tryz.func171 (by kernel_rfl) (by kernel_rfl)) (fun xs Q=>Zar.walk xs.1 xs.2.1 Q) fun ⟨x0,x1,_⟩ hl hp=>Zar.spec x0 x1 hp
def Zw.A:An:=.mk [] [(0,⟨[.t 19 tI,.row 1 tI],[],[30,29,28,27,26,25,24,7,6,23,22,21,20],[]⟩)] [] [] []
theorem Zw.walk (x0:PS.den (.d tC)) (x1:PS.den (.d tI)) (Q:Zbf [(.sl tI)]→Prop):Zw.wp x0 x1 Q=fnW τ0 (walk τ0 κ0 φA) Zw.A (Zbq Tryz.f172) [.d tC,.d tI] [(.sl tI)] (x0,x1,()) Q:=by kernel_rfl
noncomputable def Zw.con:Con:=⟨[.d tC,.d tI],some fun x=>Zw.pre x,fun x=>Zbv [(.sl tI)] (Zw.fn x)⟩
theorem Zw.ok:Zaj prog 172 Zw.con:=Zg (Wp:=fun xs Q=>Zw.wp xs.1 xs.2.1 Q) Zat (Zq Zat Zb2 ZbI mixed) (Zbp Tryz.func172 (by kernel_rfl) (by kernel_rfl)) (fun xs Q=>Zw.walk xs.1 xs.2.1 Q) fun ⟨x0,x1,_⟩ hl hp=>Zw.spec x0 x1 hp
def Za9.A:An:=.mk [] [] [] [] []
theorem Za9.walk (x0:PS.den (.d tI)) (x1:PS.den (.d tI)) (Q:Zbf [tI,tI]→Prop):Za9.wp x0 x1 Q=fnW τ0 (walk τ0 κ0 φA) Za9.A (Zbq Tryz.f173) [.d tI,.d tI] [tI,tI] (x0,x1,()) Q:=by kernel_rfl
noncomputable def Za9.con:Con:=⟨[.d tI,.d tI],some fun x=>Za9.pre x,fun x=>Zbv [tI,tI] (Za9.fn x)⟩
theorem Za9.ok:Zaj prog 173 Za9.con:=Zg (Wp:=fun xs Q=>Za9.wp xs.1 xs.2.1 Q) Zat (Zq Zat Zb2 ZbI mixed) (Zbp Tryz.func173 (by kernel_rfl) (by kernel_rfl)) (fun xs Q=>Za9.walk xs.1 xs.2.1 Q) fun ⟨x0,x1,_⟩ hl hp=>Za9.spec x0 x1 hp
def ZaJ.A:An:=.mk [(1000,[.own 5 (.int .u8)])] [(0,⟨[.t 10 tI,.row 0 (.int .u8)],[5],[22,21,19,18,20,14,17,16,15,7,13,12,11],[]⟩)] [] [] []
theorem ZaJ.walk (x0:PS.den (.d (.sl tI))) (x1:PS.den (.d tI)) (Q:Zbf [.str]→Prop):ZaJ.wp x0 x1 Q=fnW τ0 (walk τ0 κ0 φC) ZaJ.A (Zbq Tryz.f116) [.d (.sl tI),.d tI] [.str] (x0,x1,()) Q:=by kernel_rfl
noncomputable def ZaJ.con:Con:=⟨[.d (.sl tI),.d tI],some fun x=>ZaJ.pre x,fun x=>Zbv [.str] (ZaJ.fn x)⟩
theorem ZaJ.ok:Zaj prog 116 ZaJ.con:=Zg (Wp:=fun xs Q=>ZaJ.wp xs.1 xs.2.1 Q) Zat (Zq Zat Zb2 ZwR mixed) (Zbp Tryz.func116 (by kernel_rfl) (by kernel_rfl)) (fun xs Q=>ZaJ.walk xs.1 xs.2.1 Q) fun ⟨x0,x1,_⟩ hl hp=>ZaJ.spec x0 x1 hp
def Za7.A:An:=.mk [] [(0,⟨[.t 8 tI],[],[16,14,13,12,5,11,10,9],[]⟩)] [] [] []
theorem Za7.walk (x0:PS.den (.d (.sl tI))) (Q:Zbf [tI]→Prop):Za7.wp x0 Q=fnW τ0 (walk τ0 κ0 φA) Za7.A (Zbq Tryz.f134) [.d (.sl tI)] [tI] (x0,()) Q:=by kernel_rfl
noncomputable def Za7.con:Con:=⟨[.d (.sl tI)],none,fun x=>Zbv [tI] (Za7.fn x)⟩
theorem Za7.ok:Zaj prog 134 Za7.con:=Zg (Wp:=fun xs Q=>Za7.wp xs.1 Q) Zat (Zq Zat Zb2 ZbI mixed) (Zbp Tryz.func134 (by kernel_rfl) (by kernel_rfl)) (fun xs Q=>Za7.walk xs.1 Q) fun ⟨x0,_⟩ hl hp=>Za7.spec x0 hl.1.1
def Z3.A:An:=.mk [] [] [] [] []
theorem Z3.walk (x0:PS.den (.d tI)) (Q:Zbf [.bool]→Prop):Z3.wp x0 Q=fnW τ0 (walk τ0 κ0 φA) Z3.A (Zbq Tryz.f162) [.d tI] [.bool] (x0,()) Q:=by kernel_rfl
noncomputable def Z3.con:Con:=⟨[.d tI],none,fun x=>Zbv [.bool] (Z3.fn x)⟩
theorem Z3.ok:Zaj prog 162 Z3.con:=Zg (Wp:=fun xs Q=>Z3.wp xs.1 Q) Zat (Zq Zat Zb2 ZbI mixed) (Zbp Tryz.func162 (by kernel_rfl) (by kernel_rfl)) (fun xs Q=>Z3.walk xs.1 Q) fun ⟨x0,_⟩ hl hp=>Z3.spec x0
def ZN.A:An:=.mk [] [(0,⟨[.t 28 tI,.row 6 tI],[],[50,49,48,47,46,45,44,43,42,41,40,39,38,37,36,35,34,33,32,31,10,30,29],[]⟩)] [] [] []
theorem ZN.walk (x0:PS.den (.d tI)) (x1:PS.den (.d tL)) (x2:PS.den (.d tI)) (x3:PS.den (.d tL)) (Q:Zbf [tL]→Prop):ZN.wp x0 x1 x2 x3 Q=fnW τ0 (walk τ0 κ0 φA) ZN.A (Zbq Tryz.f102) [.d tI,.d tL,.d tI,.d tL] [tL] (x0,x1,x2,x3,()) Q:=by kernel_rfl
noncomputable def ZN.con:Con:=⟨[.d tI,.d tL,.d tI,.d tL],some fun x=>ZN.pre x,fun x=>Zbv [tL] (ZN.fn x)⟩
theorem ZN.ok:Zaj prog 102 ZN.con:=Zg (Wp:=fun xs Q=>ZN.wp xs.1 xs.2.1 xs.2.2.1 xs.2.2.2.1 Q) Zat (Zq Zat Zb2 ZbI mixed) (Zbp Tryz.func102 (by kernel_rfl) (by kernel_rfl)) (fun xs Q=>ZN.walk xs.1 xs.2.1 xs.2.2.1 xs.2.2.2.1 Q) fun ⟨x0,x1,x2,x3,_⟩ hl hp=>ZN.spec x0 x1 x2 x3 hp
def Zah.A:An:=.mk [] [] [] [] []
theorem Zah.walk (x0:PS.den (.d tL)) (x1:PS.den (.d tI)) (Q:Zbf [tL]→Prop):Zah.wp x0 x1 Q=fnW τ0 (walk τ0 κ0 φA) Zah.A (Zbq Tryz.f105) [.d tL,.d tI] [tL] (x0,x1,()) Q:=by kernel_rfl
noncomputable def Zah.con:Con:=⟨[.d tL,.d tI],some fun x=>Zah.pre x,fun x=>Zbv [tL] (Zah.fn x)⟩
theorem Zah.ok:Zaj prog 105 Zah.con:=Zg (Wp:=fun xs Q=>Zah.wp xs.1 xs.2.1 Q) Zat (Zq Zat Zb2 ZbI mixed) (Zbp Tryz.func105 (by kernel_rfl) (by kernel_rfl)) (fun xs Q=>Zah.walk xs.1 xs.2.1 Q) fun ⟨x0,x1,_⟩ hl hp=>Zah.spec x0 x1 hp
def Zae.A:An:=.mk [] [(2,⟨[.t 29 tI,.t 5 tI,.t 6 tI,.row 1 tI,.row 3 tI],[],[77,34,36,35,12,11,33,32,31,30,52,51,50,49,48,47,46,45,44,43,42,41,37,40,39,38,66,65,64,63,62,61,53,60,59,58,57,56,55,54,76,75,74,73,72,71,67,70,69,68],[]⟩),(0,⟨[.t 21 tI,.t 5 tI,.t 6 tI,.row 1 tI,.row 3 tI],[],[78,30,77,34,36,35,12,11,33,32,31,52,51,50,49,48,47,46,45,44,43,42,41,37,40,39,38,66,65,64,63,62,61,53,60,59,58,57,56,55,54,76,75,74,73,72,71,67,70,69,68,29,28,27,26,25,10,24,23,22],[]⟩),(5,⟨[.t 86 tI,.t 13 tI],[],[109,108,107,106,105,104,103,102,101,100,99,98,97,96,95,94,93,92,91,90,89,14,88,87],[]⟩)] [] [] []
theorem Zae.walk (x0:PS.den (.d (.sl tC))) (x1:PS.den (.d tI)) (Q:Zbf [tI]→Prop):Zae.wp x0 x1 Q=fnW τ0 (walk τ0 κ0 φA) Zae.A (Zbq Tryz.f58) [.d (.sl tC),.d tI] [tI] (x0,x1,()) Q:=by kernel_rfl
noncomputable def Zae.con:Con:=⟨[.d (.sl tC),.d tI],some fun x=>Zae.pre x,fun x=>Zbv [tI] (Zae.fn x)⟩
theorem Zae.ok:Zaj prog 58 Zae.con:=Zg (Wp:=fun xs Q=>Zae.wp xs.1 xs.2.1 Q) Zat (Zq Zat Zb2 ZbI mixed) (Zbp Tryz.func58 (by kernel_rfl) (by kernel_rfl)) (fun xs Q=>Zae.walk xs.1 xs.2.1 Q) fun ⟨x0,x1,_⟩ hl hp=>Zae.spec x0 x1 hp
def ZaU.A:An:=.mk [] [(0,⟨[.t 23 tI],[],[37,36,35,34,33,32,31,30,29,28,27,26,5,25,24],[]⟩)] [] [] []
theorem ZaU.walk (x0:PS.den (.d tL)) (x1:PS.den (.d tL)) (Q:Zbf [.bool]→Prop):ZaU.wp x0 x1 Q=fnW τ0 (walk τ0 κ0 φA) ZaU.A (Zbq Tryz.f127) [.d tL,.d tL] [.bool] (x0,x1,()) Q:=by kernel_rfl
noncomputable def ZaU.con:Con:=⟨[.d tL,.d tL],none,fun x=>Zbv [.bool] (ZaU.fn x)⟩
theorem ZaU.ok:Zaj prog 127 ZaU.con:=Zg (Wp:=fun xs Q=>ZaU.wp xs.1 xs.2.1 Q) Zat (Zq Zat Zb2 ZbI mixed) (Zbp Tryz.func127 (by kernel_rfl) (by kernel_rfl)) (fun xs Q=>ZaU.walk xs.1 xs.2.1 Q) fun ⟨x0,x1,_⟩ hl hp=>ZaU.spec x0 x1 hl.1.1.1
def Zbi.A:An:=.mk [] [] [] [] []
theorem Zbi.walk (x0:PS.den (.d tI)) (x1:PS.den (.d (.sl tI))) (Q:Zbf [tC]→Prop):Zbi.wp x0 x1 Q=fnW τ0 (walk τ0 κ0 φA) Zbi.A (Zbq Tryz.f37) [.d tI,.d (.sl tI)] [tC] (x0,x1,()) Q:=by kernel_rfl
noncomputable def Zbi.con:Con:=⟨[.d tI,.d (.sl tI)],none,fun x=>Zbv [tC] (Zbi.fn x)⟩
theorem Zbi.ok:Zaj prog 37 Zbi.con:=Zg (Wp:=fun xs Q=>Zbi.wp xs.1 xs.2.1 Q) Zat (Zq Zat Zb2 ZbI mixed) (Zbp Tryz.func37 (by kernel_rfl) (by kernel_rfl)) (fun xs Q=>Zbi.walk xs.1 xs.2.1 Q) fun ⟨x0,x1,_⟩ hl hp=>Zbi.spec x0 x1
def Z7.A:An:=.mk [] [] [] [] []
theorem Z7.walk (x0:PS.den (.d tI)) (x1:PS.den (.d tI)) (Q:Zbf [(.sl tC)]→Prop):Z7.wp x0 x1 Q=fnW τ0 (walk τ0 κ0 φA) Z7.A (Zbq Tryz.f38) [.d tI,.d tI] [(.sl tC)] (x0,x1,()) Q:=by kernel_rfl
noncomputable def Z7.con:Con:=⟨[.d tI,.d tI],none,fun x=>Zbv [(.sl tC)] (Z7.fn x)⟩
theorem Z7.ok:Zaj prog 38 Z7.con:=Zg (Wp:=fun xs Q=>Z7.wp xs.1 xs.2.1 Q) Zat (Zq Zat Zb2 ZbI mixed) (Zbp Tryz.func38 (by kernel_rfl) (by kernel_rfl)) (fun xs Q=>Z7.walk xs.1 xs.2.1 Q) fun ⟨x0,x1,_⟩ hl hp=>Z7.spec x0 x1
def ZW.A:An:=.mk [] [(2,⟨[.t 26 tI],[],[34,33,32,31,30,11,29,28,27],[]⟩),(0,⟨[.t 14 tI,.t 7 tI],[],[35,27,34,33,32,31,30,11,29,28,26,25,24,23,22,21,20,19,18,9,17,16,15],[]⟩)] [] [] []
theorem ZW.walk (x0:PS.den (.d tI)) (x1:PS.den (.d tI)) (x2:PS.den (.d (.sl tS))) (Q:Zbf [.bool]→Prop):ZW.wp x0 x1 x2 Q=fnW τw (walk τw κ0 φA) ZW.A (Zbq Tryz.f12) [.d tI,.d tI,.d (.sl tS)] [.bool] (x0,x1,x2,()) Q:=by kernel_rfl
noncomputable def ZW.con:Con:=⟨[.d tI,.d tI,.d (.sl tS)],none,fun x=>Zbv [.bool] (ZW.fn x)⟩
theorem ZW.ok:Zaj prog 12 ZW.con:=Zg (Wp:=fun xs Q=>ZW.wp xs.1 xs.2.1 xs.2.2.1 Q) ZwN (Zq ZwN Zb2 ZbI mixed) (Zbp Tryz.func12 (by kernel_rfl) (by kernel_rfl)) (fun xs Q=>ZW.walk xs.1 xs.2.1 xs.2.2.1 Q) fun ⟨x0,x1,x2,_⟩ hl hp=>by first | exact ZW.spec x0 x1 x2  | exact ZW.spec x0 x1 x2 hp | exact ZW.spec x0 x1 x2 hl.1 | exact ZW.spec x0 x1 x2 hl.1 hp | exact ZW.spec x0 x1 x2 hl.1.1 | exact ZW.spec x0 x1 x2 hl.1.1 hp | exact ZW.spec x0 x1 x2 hl.1.1.1 | exact ZW.spec x0 x1 x2 hl.1.1.1 hp | exact ZW.spec x0 x1 x2 hl.1.2.1 | exact ZW.spec x0 x1 x2 hl.1.2.1 hp | exact ZW.spec x0 x1 x2 hl.2.1 | exact ZW.spec x0 x1 x2 hl.2.1 hp | exact ZW.spec x0 x1 x2 hl.2.1.1 | exact ZW.spec x0 x1 x2 hl.2.1.1 hp | exact ZW.spec x0 x1 x2 hl.2.1.1.1 | exact ZW.spec x0 x1 x2 hl.2.1.1.1 hp | exact ZW.spec x0 x1 x2 hl.2.2.1.1 (fun s hs=>(hl.2.2.1.2 s hs).2.1) | exact ZW.spec x0 x1 x2 hl.2.2.2.1.1 (fun s hs=>⟨(hl.2.2.2.1.2 s hs).2.1,fun p hp=>⟨((hl.2.2.2.1.2 s hs).2.2 p hp).1,fun c hc=>(((hl.2.2.2.1.2 s hs).2.2 p hp).2 c hc).2.2.1.1⟩⟩)
def ZaO.A:An:=.mk [] [] [] [] []
theorem ZaO.walk (x0:PS.den (.d tI)) (Q:Zbf [.bool]→Prop):ZaO.wp x0 Q=fnW τ0 (walk τ0 κ0 φA) ZaO.A (Zbq Tryz.f121) [.d tI] [.bool] (x0,()) Q:=by kernel_rfl
noncomputable def ZaO.con:Con:=⟨[.d tI],none,fun x=>Zbv [.bool] (ZaO.fn x)⟩
theorem ZaO.ok:Zaj prog 121 ZaO.con:=Zg (Wp:=fun xs Q=>ZaO.wp xs.1 Q) Zat (Zq Zat Zb2 ZbI mixed) (Zbp Tryz.func121 (by kernel_rfl) (by kernel_rfl)) (fun xs Q=>ZaO.walk xs.1 Q) fun ⟨x0,_⟩ hl hp=>ZaO.spec x0
def Zad.A:An:=.mk [] [] [] [] []
theorem Zad.walk (x0:PS.den (.d tI)) (x1:PS.den (.d tI)) (Q:Zbf [tI,tI]→Prop):Zad.wp x0 x1 Q=fnW τ0 (walk τ0 κ0 φA) Zad.A (Zbq Tryz.f51) [.d tI,.d tI] [tI,tI] (x0,x1,()) Q:=by kernel_rfl
noncomputable def Zad.con:Con:=⟨[.d tI,.d tI],some fun x=>Zad.pre x,fun x=>Zbv [tI,tI] (Zad.fn x)⟩
theorem Zad.ok:Zaj prog 51 Zad.con:=Zg (Wp:=fun xs Q=>Zad.wp xs.1 xs.2.1 Q) Zat (Zq Zat Zb2 ZbI mixed) (Zbp Tryz.func51 (by kernel_rfl) (by kernel_rfl)) (fun xs Q=>Zad.walk xs.1 xs.2.1 Q) fun ⟨x0,x1,_⟩ hl hp=>Zad.spec x0 x1 hp
def ZaE.A:An:=.mk [] [] [] [] []
theorem ZaE.walk (x0:PS.den (.d tI)) (x1:PS.den (.d tI)) (Q:Zbf [tI,tI]→Prop):ZaE.wp x0 x1 Q=fnW τ0 (walk τ0 κ0 φA) ZaE.A (Zbq Tryz.f53) [.d tI,.d tI] [tI,tI] (x0,x1,()) Q:=by kernel_rfl
noncomputable def ZaE.con:Con:=⟨[.d tI,.d tI],some fun x=>ZaE.pre x,fun x=>Zbv [tI,tI] (ZaE.fn x)⟩
theorem ZaE.ok:Zaj prog 53 ZaE.con:=Zg (Wp:=fun xs Q=>ZaE.wp xs.1 xs.2.1 Q) Zat (Zq Zat Zb2 ZbI mixed) (Zbp Tryz.func53 (by kernel_rfl) (by kernel_rfl)) (fun xs Q=>ZaE.walk xs.1 xs.2.1 Q) fun ⟨x0,x1,_⟩ hl hp=>ZaE.spec x0 x1 hp
def Za4.A:An:=.mk [] [] [] [] []
theorem Za4.walk (x0:PS.den (.d tI)) (Q:Zbf [(.int .u64)]→Prop):Za4.wp x0 Q=fnW τ0 (walk τ0 κ0 φA) Za4.A (Zbq Tryz.f164) [.d tI] [(.int .u64)] (x0,()) Q:=by kernel_rfl
noncomputable def Za4.con:Con:=⟨[.d tI],none,fun x=>Zbv [(.int .u64)] (Za4.fn x)⟩
theorem Za4.ok:Zaj prog 164 Za4.con:=Zg (Wp:=fun xs Q=>Za4.wp xs.1 Q) Zat (Zq Zat Zb2 ZbI mixed) (Zbp Tryz.func164 (by kernel_rfl) (by kernel_rfl)) (fun xs Q=>Za4.walk xs.1 Q) fun ⟨x0,_⟩ hl hp=>Za4.spec x0
def Zau.A:An:=.mk [] [] [] [] []
theorem Zau.walk (x0:PS.den (.d .bool)) (Q:Zbf [tC,tI]→Prop):Zau.wp x0 Q=fnW τ0 (walk τ0 κ0 φA) Zau.A (Zbq Tryz.f140) [.d .bool] [tC,tI] (x0,()) Q:=by kernel_rfl
noncomputable def Zau.con:Con:=⟨[.d .bool],none,fun x=>Zbv [tC,tI] (Zau.fn x)⟩
theorem Zau.ok:Zaj prog 140 Zau.con:=Zg (Wp:=fun xs Q=>Zau.wp xs.1 Q) Zat (Zq Zat Zb2 ZbI mixed) (Zbp Tryz.func140 (by kernel_rfl) (by kernel_rfl)) (fun xs Q=>Zau.walk xs.1 Q) fun ⟨x0,_⟩ hl hp=>Zau.spec x0
def Z6.A:An:=.mk [] [(0,⟨[.t 19 tI,.row 2 tI],[],[31,30,29,28,27,26,25,24,9,8,23,22,21,20],[]⟩)] [] [] []
theorem Z6.walk (x0:PS.den (.d tL)) (x1:PS.den (.d tI)) (x2:PS.den (.d tI)) (Q:Zbf [tL]→Prop):Z6.wp x0 x1 x2 Q=fnW τ0 (walk τ0 κ0 φA) Z6.A (Zbq Tryz.f141) [.d tL,.d tI,.d tI] [tL] (x0,x1,x2,()) Q:=by kernel_rfl
noncomputable def Z6.con:Con:=⟨[.d tL,.d tI,.d tI],some fun x=>Z6.pre x,fun x=>Zbv [tL] (Z6.fn x)⟩
theorem Z6.ok:Zaj prog 141 Z6.con:=Zg (Wp:=fun xs Q=>Z6.wp xs.1 xs.2.1 xs.2.2.1 Q) Zat (Zq Zat Zb2 ZbI mixed) (Zbp Tryz.func141 (by kernel_rfl) (by kernel_rfl)) (fun xs Q=>Z6.walk xs.1 xs.2.1 xs.2.2.1 Q) fun ⟨x0,x1,x2,_⟩ hl hp=>Z6.spec x0 x1 x2 hp
def ZK.A:An:=.mk [] [(0,⟨[.t 12 tI,.t 6 .bool,.t 5 .bool],[],[48,47,46,45,44,43,42,41,40,39,38,37,36,35,34,33,32,31,30,29,28,27,26,25,24,23,22,21,20,19,18,17,16,15,7,14,13],[]⟩)] [] [] []
theorem ZK.walk (x0:PS.den (.d tC)) (x1:PS.den (.d tC)) (Q:Zbf [tI]→Prop):ZK.wp x0 x1 Q=fnW τ0 (walk τ0 κ0 φA) ZK.A (Zbq Tryz.f125) [.d tC,.d tC] [tI] (x0,x1,()) Q:=by kernel_rfl
noncomputable def ZK.con:Con:=⟨[.d tC,.d tC],some fun x=>ZK.pre x,fun x=>Zbv [tI] (ZK.fn x)⟩
theorem ZK.ok:Zaj prog 125 ZK.con:=Zg (Wp:=fun xs Q=>ZK.wp xs.1 xs.2.1 Q) Zat (Zq Zat Zb2 ZbI mixed) (Zbp Tryz.func125 (by kernel_rfl) (by kernel_rfl)) (fun xs Q=>ZK.walk xs.1 xs.2.1 Q) fun ⟨x0,x1,_⟩ hl hp=>ZK.spec x0 x1 hp
def Z5.A:An:=.mk [] [(0,⟨[.t 8 tI],[],[31,21,30,29,28,27,26,25,24,23,22,11,20,19,18,17,16,15,14,13,12,5,10,9],[]⟩)] [] [] []
theorem Z5.walk (x0:PS.den (.d (.sl tI))) (x1:PS.den (.d (.sl tI))) (Q:Zbf [tI]→Prop):Z5.wp x0 x1 Q=fnW τ0 (walk τ0 κ0 φA) Z5.A (Zbq Tryz.f165) [.d (.sl tI),.d (.sl tI)] [tI] (x0,x1,()) Q:=by kernel_rfl
noncomputable def Z5.con:Con:=⟨[.d (.sl tI),.d (.sl tI)],some fun x=>Z5.pre x,fun x=>Zbv [tI] (Z5.fn x)⟩
theorem Z5.ok:Zaj prog 165 Z5.con:=Zg (Wp:=fun xs Q=>Z5.wp xs.1 xs.2.1 Q) Zat (Zq Zat Zb2 ZbI mixed) (Zbp Tryz.func165 (by kernel_rfl) (by kernel_rfl)) (fun xs Q=>Z5.walk xs.1 xs.2.1 Q) fun ⟨x0,x1,_⟩ hl hp=>Z5.spec x0 x1 hl.1.1 hp
def ZaP.A:An:=.mk [] [] [] [] []
theorem ZaP.walk (x0:PS.den (.d tI)) (Q:Zbf [tI]→Prop):ZaP.wp x0 Q=fnW τ0 (walk τ0 κ0 φA) ZaP.A (Zbq Tryz.f166) [.d tI] [tI] (x0,()) Q:=by kernel_rfl
noncomputable def ZaP.con:Con:=⟨[.d tI],none,fun x=>Zbv [tI] (ZaP.fn x)⟩
theorem ZaP.ok:Zaj prog 166 ZaP.con:=Zg (Wp:=fun xs Q=>ZaP.wp xs.1 Q) Zat (Zq Zat Zb2 ZbI mixed) (Zbp Tryz.func166 (by kernel_rfl) (by kernel_rfl)) (fun xs Q=>ZaP.walk xs.1 Q) fun ⟨x0,_⟩ hl hp=>ZaP.spec x0
def Zk.A:An:=.mk [(1000,[.ownc 2 0 tI])] [(0,⟨[.t 14 tI,.cell 2 1 tI,.row 3 tI],[],[28,27,26,23,25,24,22,21,20,19,7,6,18,17,16,15],[]⟩)] [] [] []
theorem Zk.walk (x0:PS.den (.d tL)) (x1:PS.den (.d tI)) (Q:Zbf [tL]→Prop):Zk.wp x0 x1 Q=fnW τ0 (walk τ0 κ0 φA) Zk.A (Zbq Tryz.f78) [.d tL,.d tI] [tL] (x0,x1,()) Q:=by kernel_rfl
noncomputable def Zk.con:Con:=⟨[.d tL,.d tI],some fun x=>Zk.pre x,fun x=>Zbv [tL] (Zk.fn x)⟩
theorem Zk.ok:Zaj prog 78 Zk.con:=Zg (Wp:=fun xs Q=>Zk.wp xs.1 xs.2.1 Q) Zat (Zq Zat Zb2 ZbI mixed) (Zbp Tryz.func78 (by kernel_rfl) (by kernel_rfl)) (fun xs Q=>Zk.walk xs.1 xs.2.1 Q) fun ⟨x0,x1,_⟩ hl hp=>Zk.spec x0 x1 hp
def Zm.A:An:=.mk [] [] [] [] []
theorem Zm.walk (x0:PS.den (.d tI)) (Q:Zbf [tI]→Prop):Zm.wp x0 Q=fnW τ0 (walk τ0 κ0 φA) Zm.A (Zbq Tryz.f79) [.d tI] [tI] (x0,()) Q:=by kernel_rfl
noncomputable def Zm.con:Con:=⟨[.d tI],some fun x=>Zm.pre x,fun x=>Zbv [tI] (Zm.fn x)⟩
theorem Zm.ok:Zaj prog 79 Zm.con:=Zg (Wp:=fun xs Q=>Zm.wp xs.1 Q) Zat (Zq Zat Zb2 ZbI mixed) (Zbp Tryz.func79 (by kernel_rfl) (by kernel_rfl)) (fun xs Q=>Zm.walk xs.1 Q) fun ⟨x0,_⟩ hl hp=>Zm.spec x0 hp
def ZE.A:An:=.mk [] [(0,⟨[.t 28 tI,.row 6 tI],[],[50,49,48,47,46,45,44,43,42,41,40,39,38,37,36,35,34,33,32,31,10,30,29],[]⟩)] [] [] []
theorem ZE.walk (x0:PS.den (.d tI)) (x1:PS.den (.d tL)) (x2:PS.den (.d tI)) (x3:PS.den (.d tL)) (Q:Zbf [tL]→Prop):ZE.wp x0 x1 x2 x3 Q=fnW τ0 (walk τ0 κ0 φA) ZE.A (Zbq Tryz.f82) [.d tI,.d tL,.d tI,.d tL] [tL] (x0,x1,x2,x3,()) Q:=by kernel_rfl
noncomputable def ZE.con:Con:=⟨[.d tI,.d tL,.d tI,.d tL],some fun x=>ZE.pre x,fun x=>Zbv [tL] (ZE.fn x)⟩
theorem ZE.ok:Zaj prog 82 ZE.con:=Zg (Wp:=fun xs Q=>ZE.wp xs.1 xs.2.1 xs.2.2.1 xs.2.2.2.1 Q) Zat (Zq Zat Zb2 ZbI mixed) (Zbp Tryz.func82 (by kernel_rfl) (by kernel_rfl)) (fun xs Q=>ZE.walk xs.1 xs.2.1 xs.2.2.1 xs.2.2.2.1 Q) fun ⟨x0,x1,x2,x3,_⟩ hl hp=>ZE.spec x0 x1 x2 x3 hp
def Zaq.A:An:=.mk [] [(0,⟨[.t 12 tI],[],[18,17,16,5,15,14,13],[]⟩),(4,⟨[.t 25 tI,.t 7 .bool],[],[36,35,34,33,32,31,30,29,9,28,27,26],[]⟩),(2,⟨[.t 6 tI],[],[22,21,37,26,36,35,34,33,32,31,30,29,9,28,27,25,7,24,23,20,19],[]⟩)] [] [] []
theorem Zaq.walk (x0:PS.den (.d (.sl tI))) (Q:Zbf [tI,tI]→Prop):Zaq.wp x0 Q=fnW τ0 (walk τ0 κ0 φA) Zaq.A (Zbq Tryz.f52) [.d (.sl tI)] [tI,tI] (x0,()) Q:=by kernel_rfl
noncomputable def Zaq.con:Con:=⟨[.d (.sl tI)],some fun x=>Zaq.pre x,fun x=>Zbv [tI,tI] (Zaq.fn x)⟩
theorem Zaq.ok:Zaj prog 52 Zaq.con:=Zg (Wp:=fun xs Q=>Zaq.wp xs.1 Q) Zat (Zq Zat Zb2 ZbI mixed) (Zbp Tryz.func52 (by kernel_rfl) (by kernel_rfl)) (fun xs Q=>Zaq.walk xs.1 Q) fun ⟨x0,_⟩ hl hp=>Zaq.spec x0 hl.1.1 hp
def ZM.A:An:=.mk [] [] [] [] []
theorem ZM.walk (x0:PS.den (.d tI)) (x1:PS.den (.d tI)) (Q:Zbf [tL]→Prop):ZM.wp x0 x1 Q=fnW τ0 (walk τ0 κ0 φA) ZM.A (Zbq Tryz.f118) [.d tI,.d tI] [tL] (x0,x1,()) Q:=by kernel_rfl
noncomputable def ZM.con:Con:=⟨[.d tI,.d tI],some fun x=>ZM.pre x,fun x=>Zbv [tL] (ZM.fn x)⟩
theorem ZM.ok:Zaj prog 118 ZM.con:=Zg (Wp:=fun xs Q=>ZM.wp xs.1 xs.2.1 Q) Zat (Zq Zat Zb2 ZbI mixed) (Zbp Tryz.func118 (by kernel_rfl) (by kernel_rfl)) (fun xs Q=>ZM.walk xs.1 xs.2.1 Q) fun ⟨x0,x1,_⟩ hl hp=>ZM.spec x0 x1 hp
noncomputable def κL1:List (Nat×CX):=(138,.con Zbj.con)::(43,.con ZU.con)::(122,.con Ze.con)::(146,.con ZA.con)::(148,.con Z8.con)::(184,.con Zba.con)::(170,.con ZaN.con)::(171,.con Zar.con)::(172,.con Zw.con)::(173,.con Za9.con)::(116,.con ZaJ.con)::(134,.con Za7.con)::(162,.con Z3.con)::(102,.con ZN.con)::(105,.con Zah.con)::(58,.con Zae.con)::(127,.con ZaU.con)::(37,.con Zbi.con)::(38,.con Z7.con)::(12,.con ZW.con)::(121,.con ZaO.con)::(51,.con Zad.con)::(53,.con ZaE.con)::(164,.con Za4.con)::(140,.con Zau.con)::(141,.con Z6.con)::(125,.con ZK.con)::(165,.con Z5.con)::(166,.con ZaP.con)::(78,.con Zk.con)::(79,.con Zm.con)::(82,.con ZE.con)::(52,.con Zaq.con)::(118,.con ZM.con)::κL0
theorem ZtF:Zay prog (fun n=>ZbU n κL1):=Zh Zbj.ok (Zh ZU.ok (Zh Ze.ok (Zh ZA.ok (Zh Z8.ok (Zh Zba.ok (Zh ZaN.ok (Zh Zar.ok (Zh Zw.ok (Zh Za9.ok (Zh ZaJ.ok (Zh Za7.ok (Zh Z3.ok (Zh ZN.ok (Zh Zah.ok (Zh Zae.ok (Zh ZaU.ok (Zh Zbi.ok (Zh Z7.ok (Zh ZW.ok (Zh ZaO.ok (Zh Zad.ok (Zh ZaE.ok (Zh Za4.ok (Zh Zau.ok (Zh Z6.ok (Zh ZK.ok (Zh Z5.ok (Zh ZaP.ok (Zh Zk.ok (Zh Zm.ok (Zh ZE.ok (Zh Zaq.ok (Zh ZM.ok ZtS)))))))))))))))))))))))))))))))))
noncomputable def κ1:Zaf:=fun n=>ZbU n κL1
theorem Zfh:Zay prog κ1:=ZtF
def Za1.A:An:=.mk [] [(0,⟨[.t 8 tI],[],[15,14,13,12,4,11,10,9],[]⟩)] [] [] []
theorem Za1.walk (x0:PS.den (.d tL)) (Q:Zbf [.bool]→Prop):Za1.wp x0 Q=fnW τ0 (walk τ0 κ1 φA) Za1.A (Zbq Tryz.f123) [.d tL] [.bool] (x0,()) Q:=by kernel_rfl
noncomputable def Za1.con:Con:=⟨[.d tL],none,fun x=>Zbv [.bool] (Za1.fn x)⟩
theorem Za1.ok:Zaj prog 123 Za1.con:=Zg (Wp:=fun xs Q=>Za1.wp xs.1 Q) Zat (Zq Zat Zfh ZbI mixed) (Zbp Tryz.func123 (by kernel_rfl) (by kernel_rfl)) (fun xs Q=>Za1.walk xs.1 Q) fun ⟨x0,_⟩ hl hp=>Za1.spec x0 hl.1.1.1
def Zd.A:An:=.mk [] [] [] [] []
theorem Zd.walk (x0:PS.den (.d (.sl tC))) (x1:PS.den (.f [tC] [.bool])) (Q:Zbf [.bool]→Prop):Zd.wp x0 x1 Q=fnW τ0 (walk τ0 κ1 φA) Zd.A (Zbq Tryz.f88) [.d (.sl tC),.f [tC] [.bool]] [.bool] (x0,x1,()) Q:=by kernel_rfl
noncomputable def Zd.con:Con:=⟨[.d (.sl tC),.f [tC] [.bool]],some fun x=>Zd.pre x,fun x=>Zbv [.bool] (Zd.fn x)⟩
theorem Zd.ok:Zaj prog 88 Zd.con:=Zg (Wp:=fun xs Q=>Zd.wp xs.1 xs.2.1 Q) Zat (Zq Zat Zfh ZbI mixed) (Zbp Tryz.func88 (by kernel_rfl) (by kernel_rfl)) (fun xs Q=>Zd.walk xs.1 xs.2.1 Q) fun ⟨x0,x1,_⟩ hl hp=>Zd.spec x0 x1 hp
def ZaD.A:An:=.mk [] [] [] [] []
theorem ZaD.walk (x0:PS.den (.d (.int .u64))) (x1:PS.den (.d tI)) (Q:Zbf [(.int .u64)]→Prop):ZaD.wp x0 x1 Q=fnW τ0 (walk τ0 κ1 φA) ZaD.A (Zbq Tryz.f183) [.d (.int .u64),.d tI] [(.int .u64)] (x0,x1,()) Q:=by kernel_rfl
noncomputable def ZaD.con:Con:=⟨[.d (.int .u64),.d tI],none,fun x=>Zbv [(.int .u64)] (ZaD.fn x)⟩
theorem ZaD.ok:Zaj prog 183 ZaD.con:=Zg (Wp:=fun xs Q=>ZaD.wp xs.1 xs.2.1 Q) Zat (Zq Zat Zfh ZbI mixed) (Zbp Tryz.func183 (by kernel_rfl) (by kernel_rfl)) (fun xs Q=>ZaD.walk xs.1 xs.2.1 Q) fun ⟨x0,x1,_⟩ hl hp=>ZaD.spec x0 x1
def ZaM.A:An:=.mk [(1000,[.own 3 tC])] [(0,⟨[.t 13 tI,.row 1 tC,.smap 0 tI],[3],[58,23,20,22,21,19,18,17,6,16,15,14,57,54,52,56,55,53,51,50,34,9,8,33,32,28,31,30,29,7,27,26,25,24,49,48,47,46,45,44,43,42,41,40,39,38,37,36,35],[]⟩)] [] [] []
theorem ZaM.walk (x0:PS.den (.d (.sl tC))) (Q:Zbf [(.sl tC)]→Prop):ZaM.wp x0 Q=fnW τ0 (walk τ0 κ1 φA) ZaM.A (Zbq Tryz.f109) [.d (.sl tC)] [(.sl tC)] (x0,()) Q:=by kernel_rfl
noncomputable def ZaM.con:Con:=⟨[.d (.sl tC)],some fun x=>ZaM.pre x,fun x=>Zbv [(.sl tC)] (ZaM.fn x)⟩
theorem ZaM.ok:Zaj prog 109 ZaM.con:=Zg (Wp:=fun xs Q=>ZaM.wp xs.1 Q) Zat (Zq Zat Zfh ZbI mixed) (Zbp Tryz.func109 (by kernel_rfl) (by kernel_rfl)) (fun xs Q=>ZaM.walk xs.1 Q) fun ⟨x0,_⟩ hl hp=>ZaM.spec x0 hp
def ZD.A:An:=.mk [] [] [] [] []
theorem ZD.walk (x0:PS.den (.d tI)) (x1:PS.den (.d tI)) (Q:Zbf [tI]→Prop):ZD.wp x0 x1 Q=fnW τ0 (walk τ0 κ1 φA) ZD.A (Zbq Tryz.f135) [.d tI,.d tI] [tI] (x0,x1,()) Q:=by kernel_rfl
noncomputable def ZD.con:Con:=⟨[.d tI,.d tI],none,fun x=>Zbv [tI] (ZD.fn x)⟩
theorem ZD.ok:Zaj prog 135 ZD.con:=Zg (Wp:=fun xs Q=>ZD.wp xs.1 xs.2.1 Q) Zat (Zq Zat Zfh ZbI mixed) (Zbp Tryz.func135 (by kernel_rfl) (by kernel_rfl)) (fun xs Q=>ZD.walk xs.1 xs.2.1 Q) fun ⟨x0,x1,_⟩ hl hp=>ZD.spec x0 x1
def Zp.A:An:=.mk [(1000,[.own 3 (.int .u8)])] [(0,⟨[.t 8 tI,.row 0 (.int .u8)],[3],[40,39,37,36,38,32,31,35,34,33,26,25,30,29,28,27,23,22,24,19,18,21,20,16,15,17,12,14,13,5,11,10,9],[]⟩)] [] [] []
theorem Zp.walk (x0:PS.den (.d (.sl tC))) (Q:Zbf [.str]→Prop):Zp.wp x0 Q=fnW τ0 (walk τ0 κ1 φC) Zp.A (Zbq Tryz.f76) [.d (.sl tC)] [.str] (x0,()) Q:=by kernel_rfl
noncomputable def Zp.con:Con:=⟨[.d (.sl tC)],some fun x=>Zp.pre x,fun x=>Zbv [.str] (Zp.fn x)⟩
theorem Zp.ok:Zaj prog 76 Zp.con:=Zg (Wp:=fun xs Q=>Zp.wp xs.1 Q) Zat (Zq Zat Zfh ZwR mixed) (Zbp Tryz.func76 (by kernel_rfl) (by kernel_rfl)) (fun xs Q=>Zp.walk xs.1 Q) fun ⟨x0,_⟩ hl hp=>Zp.spec x0 hp
def Zu.A:An:=.mk [(1000,[.own 6 tC])] [(0,⟨[.t 29 tI,.row 6 tC],[6],[61,60,38,59,58,57,56,55,54,53,52,51,50,49,48,47,46,45,44,43,42,41,40,39,37,36,35,34,7,8,33,32,31,30,25],[]⟩)] [(5,⟨[.t 5 tI,.t 4 tI,.t 19 .bool,.t 18 tI],[],[22,21,20,17],[]⟩)] [] []
theorem Zu.walk (x0:PS.den (.d (.pair tI (.pair (.sl tC) (.pair (.sl (.pair tC (.pair tI tL))) (.pair tI (.pair (.sl (.pair tC (.pair tI tL))) (.pair (.sl (.pair tC (.pair tI tL))) (.sl (.pair tC (.pair tI tL))))))))))) (Q:Zbf [(.sl (.sl tC))]→Prop):Zu.wp x0 Q=fnW τ0 (walk τ0 κ1 φA) Zu.A (Zbq Tryz.f70) [.d (.pair tI (.pair (.sl tC) (.pair (.sl (.pair tC (.pair tI tL))) (.pair tI (.pair (.sl (.pair tC (.pair tI tL))) (.pair (.sl (.pair tC (.pair tI tL))) (.sl (.pair tC (.pair tI tL)))))))))] [(.sl (.sl tC))] (x0,()) Q:=by kernel_rfl
noncomputable def Zu.con:Con:=⟨[.d (.pair tI (.pair (.sl tC) (.pair (.sl (.pair tC (.pair tI tL))) (.pair tI (.pair (.sl (.pair tC (.pair tI tL))) (.pair (.sl (.pair tC (.pair tI tL))) (.sl (.pair tC (.pair tI tL)))))))))],some fun x=>Zu.pre x,fun x=>Zbv [(.sl (.sl tC))] (Zu.fn x)⟩
theorem Zu.ok:Zaj prog 70 Zu.con:=Zg (Wp:=fun xs Q=>Zu.wp xs.1 Q) Zat (Zq Zat Zfh ZbI mixed) (Zbp Tryz.func70 (by kernel_rfl) (by kernel_rfl)) (fun xs Q=>Zu.walk xs.1 Q) fun ⟨x0,_⟩ hl hp=>Zu.spec x0 hp
def Zs.A:An:=.mk [(1000,[.own 3 tC])] [(2,⟨[.t 21 tI,.row 1 tC],[3],[39,38,25,37,36,35,34,33,32,31,30,29,28,27,26,7,24,23,22,10],[]⟩),(0,⟨[.t 14 tI,.row 1 tC],[],[40,22,39,38,25,37,36,35,34,33,32,31,30,29,28,27,26,7,24,23,21,20,19,18,5,17,16,15,10],[]⟩)] [] [] []
theorem Zs.walk (x0:PS.den (.d (.pair tI (.pair (.sl tC) (.pair (.sl (.pair tC (.pair tI tL))) (.pair tI (.pair (.sl (.pair tC (.pair tI tL))) (.pair (.sl (.pair tC (.pair tI tL))) (.sl (.pair tC (.pair tI tL))))))))))) (Q:Zbf [(.sl (.sl tC))]→Prop):Zs.wp x0 Q=fnW τ0 (walk τ0 κ1 φA) Zs.A (Zbq Tryz.f71) [.d (.pair tI (.pair (.sl tC) (.pair (.sl (.pair tC (.pair tI tL))) (.pair tI (.pair (.sl (.pair tC (.pair tI tL))) (.pair (.sl (.pair tC (.pair tI tL))) (.sl (.pair tC (.pair tI tL)))))))))] [(.sl (.sl tC))] (x0,()) Q:=by kernel_rfl
noncomputable def Zs.con:Con:=⟨[.d (.pair tI (.pair (.sl tC) (.pair (.sl (.pair tC (.pair tI tL))) (.pair tI (.pair (.sl (.pair tC (.pair tI tL))) (.pair (.sl (.pair tC (.pair tI tL))) (.sl (.pair tC (.pair tI tL)))))))))],some fun x=>Zs.pre x,fun x=>Zbv [(.sl (.sl tC))] (Zs.fn x)⟩
theorem Zs.ok:Zaj prog 71 Zs.con:=Zg (Wp:=fun xs Q=>Zs.wp xs.1 Q) Zat (Zq Zat Zfh ZbI mixed) (Zbp Tryz.func71 (by kernel_rfl) (by kernel_rfl)) (fun xs Q=>Zs.walk xs.1 Q) fun ⟨x0,_⟩ hl hp=>Zs.spec x0 hp
def Zap.A:An:=.mk [] [] [] [] []
theorem Zap.walk (x0:PS.den (.d (.int .u64))) (x1:PS.den (.d tI)) (Q:Zbf [(.int .u64)]→Prop):Zap.wp x0 x1 Q=fnW τ0 (walk τ0 κ1 φA) Zap.A (Zbq Tryz.f147) [.d (.int .u64),.d tI] [(.int .u64)] (x0,x1,()) Q:=by kernel_rfl
noncomputable def Zap.con:Con:=⟨[.d (.int .u64),.d tI],some fun x=>Zap.pre x,fun x=>Zbv [(.int .u64)] (Zap.fn x)⟩
theorem Zap.ok:Zaj prog 147 Zap.con:=Zg (Wp:=fun xs Q=>Zap.wp xs.1 xs.2.1 Q) Zat (Zq Zat Zfh ZbI mixed) (Zbp Tryz.func147 (by kernel_rfl) (by kernel_rfl)) (fun xs Q=>Zap.walk xs.1 xs.2.1 Q) fun ⟨x0,x1,_⟩ hl hp=>Zap.spec x0 x1 hp
def Zl.A:An:=.mk [(1000,[.own 9 tC])] [(0,⟨[.t 18 tI,.row 2 tC],[9],[47,46,29,45,44,43,42,41,40,39,38,37,36,35,34,33,32,31,30,28,27,26,25,24,23,22,11,21,20,19,14],[]⟩)] [] [] []
theorem Zl.walk (x0:PS.den (.d (.pair tI (.pair (.sl tC) (.pair (.sl (.pair tC (.pair tI tL))) (.pair tI (.pair (.sl (.pair tC (.pair tI tL))) (.pair (.sl (.pair tC (.pair tI tL))) (.sl (.pair tC (.pair tI tL))))))))))) (x1:PS.den (.d tI)) (x2:PS.den (.d tL)) (x3:PS.den (.d .bool)) (Q:Zbf [(.sl tC)]→Prop):Zl.wp x0 x1 x2 x3 Q=fnW τ0 (walk τ0 κ1 φA) Zl.A (Zbq Tryz.f104) [.d (.pair tI (.pair (.sl tC) (.pair (.sl (.pair tC (.pair tI tL))) (.pair tI (.pair (.sl (.pair tC (.pair tI tL))) (.pair (.sl (.pair tC (.pair tI tL))) (.sl (.pair tC (.pair tI tL))))))))),.d tI,.d tL,.d .bool] [(.sl tC)] (x0,x1,x2,x3,()) Q:=by kernel_rfl
noncomputable def Zl.con:Con:=⟨[.d (.pair tI (.pair (.sl tC) (.pair (.sl (.pair tC (.pair tI tL))) (.pair tI (.pair (.sl (.pair tC (.pair tI tL))) (.pair (.sl (.pair tC (.pair tI tL))) (.sl (.pair tC (.pair tI tL))))))))),.d tI,.d tL,.d .bool],some fun x=>Zl.pre x,fun x=>Zbv [(.sl tC)] (Zl.fn x)⟩
theorem Zl.ok:Zaj prog 104 Zl.con:=Zg (Wp:=fun xs Q=>Zl.wp xs.1 xs.2.1 xs.2.2.1 xs.2.2.2.1 Q) Zat (Zq Zat Zfh ZbI mixed) (Zbp Tryz.func104 (by kernel_rfl) (by kernel_rfl)) (fun xs Q=>Zl.walk xs.1 xs.2.1 xs.2.2.1 xs.2.2.2.1 Q) fun ⟨x0,x1,x2,x3,_⟩ hl hp=>Zl.spec x0 x1 x2 x3 hp
def ZaG.A:An:=.mk [] [] [] [] []
theorem ZaG.walk (x0:PS.den (.d tC)) (x1:PS.den (.d tC)) (Q:Zbf [.bool]→Prop):ZaG.wp x0 x1 Q=fnW τ0 (walk τ0 κ1 φA) ZaG.A (Zbq Tryz.f93) [.d tC,.d tC] [.bool] (x0,x1,()) Q:=by kernel_rfl
noncomputable def ZaG.con:Con:=⟨[.d tC,.d tC],none,fun x=>Zbv [.bool] (ZaG.fn x)⟩
theorem ZaG.ok:Zaj prog 93 ZaG.con:=Zg (Wp:=fun xs Q=>ZaG.wp xs.1 xs.2.1 Q) Zat (Zq Zat Zfh ZbI mixed) (Zbp Tryz.func93 (by kernel_rfl) (by kernel_rfl)) (fun xs Q=>ZaG.walk xs.1 xs.2.1 Q) fun ⟨x0,x1,_⟩ hl hp=>ZaG.spec x0 x1
def ZaB.A:An:=.mk [] [(0,⟨[.t 8 tI],[],[15,14,13,12,4,11,10,9],[]⟩)] [] [] []
theorem ZaB.walk (x0:PS.den (.d tL)) (Q:Zbf [.bool]→Prop):ZaB.wp x0 Q=fnW τ0 (walk τ0 κ1 φA) ZaB.A (Zbq Tryz.f87) [.d tL] [.bool] (x0,()) Q:=by kernel_rfl
noncomputable def ZaB.con:Con:=⟨[.d tL],none,fun x=>Zbv [.bool] (ZaB.fn x)⟩
theorem ZaB.ok:Zaj prog 87 ZaB.con:=Zg (Wp:=fun xs Q=>ZaB.wp xs.1 Q) Zat (Zq Zat Zfh ZbI mixed) (Zbp Tryz.func87 (by kernel_rfl) (by kernel_rfl)) (fun xs Q=>ZaB.walk xs.1 Q) fun ⟨x0,_⟩ hl hp=>ZaB.spec x0 hl.1.1.1
def ZaR.A:An:=.mk [] [(2,⟨[.t 7 (.int .u64),.t 4 (.int .u64)],[],[21,20,19,18,17,16],[]⟩),(0,⟨[.t 10 tI,.t 4 (.int .u64)],[],[22,17,16,21,20,19,18,7,15,14,6,13,12,11],[]⟩)] [] [] []
theorem ZaR.walk (x0:PS.den (.d (.sl tI))) (Q:Zbf [tI,tI]→Prop):ZaR.wp x0 Q=fnW τ0 (walk τ0 κ1 φA) ZaR.A (Zbq Tryz.f139) [.d (.sl tI)] [tI,tI] (x0,()) Q:=by kernel_rfl
noncomputable def ZaR.con:Con:=⟨[.d (.sl tI)],some fun x=>ZaR.pre x,fun x=>Zbv [tI,tI] (ZaR.fn x)⟩
theorem ZaR.ok:Zaj prog 139 ZaR.con:=Zg (Wp:=fun xs Q=>ZaR.wp xs.1 Q) Zat (Zq Zat Zfh ZbI mixed) (Zbp Tryz.func139 (by kernel_rfl) (by kernel_rfl)) (fun xs Q=>ZaR.walk xs.1 Q) fun ⟨x0,_⟩ hl hp=>ZaR.spec x0 hl.1.1 hp
def ZaZ.A:An:=.mk [] [] [] [] []
theorem ZaZ.walk (x0:PS.den (.d tL)) (x1:PS.den (.d tL)) (Q:Zbf [tI]→Prop):ZaZ.wp x0 x1 Q=fnW τ0 (walk τ0 κ1 φA) ZaZ.A (Zbq Tryz.f167) [.d tL,.d tL] [tI] (x0,x1,()) Q:=by kernel_rfl
noncomputable def ZaZ.con:Con:=⟨[.d tL,.d tL],some fun x=>ZaZ.pre x,fun x=>Zbv [tI] (ZaZ.fn x)⟩
theorem ZaZ.ok:Zaj prog 167 ZaZ.con:=Zg (Wp:=fun xs Q=>ZaZ.wp xs.1 xs.2.1 Q) Zat (Zq Zat Zfh ZbI mixed) (Zbp Tryz.func167 (by kernel_rfl) (by kernel_rfl)) (fun xs Q=>ZaZ.walk xs.1 xs.2.1 Q) fun ⟨x0,x1,_⟩ hl hp=>ZaZ.spec x0 x1 hp
def Zaa.A:An:=.mk [] [] [] [] []
theorem Zaa.walk (x0:PS.den (.d tC)) (x1:PS.den (.d tI)) (x2:PS.den (.d tI)) (x3:PS.den (.d tI)) (x4:PS.den (.d tL)) (Q:Zbf [tC]→Prop):Zaa.wp x0 x1 x2 x3 x4 Q=fnW τ0 (walk τ0 κ1 φA) Zaa.A (Zbq Tryz.f117) [.d tC,.d tI,.d tI,.d tI,.d tL] [tC] (x0,x1,x2,x3,x4,()) Q:=by kernel_rfl
noncomputable def Zaa.con:Con:=⟨[.d tC,.d tI,.d tI,.d tI,.d tL],some fun x=>Zaa.pre x,fun x=>Zbv [tC] (Zaa.fn x)⟩
theorem Zaa.ok:Zaj prog 117 Zaa.con:=Zg (Wp:=fun xs Q=>Zaa.wp xs.1 xs.2.1 xs.2.2.1 xs.2.2.2.1 xs.2.2.2.2.1 Q) Zat (Zq Zat Zfh ZbI mixed) (Zbp Tryz.func117 (by kernel_rfl) (by kernel_rfl)) (fun xs Q=>Zaa.walk xs.1 xs.2.1 xs.2.2.1 xs.2.2.2.1 xs.2.2.2.2.1 Q) fun ⟨x0,x1,x2,x3,x4,_⟩ hl hp=>Zaa.spec x0 x1 x2 x3 x4 hp
def ZY.A:An:=.mk [] [(2,⟨[.t 31 tI,.t 5 tI,.t 6 tI],[],[47,46,45,44,43,42,41,40,39,38,37,36,10,9,35,34,33,32],[]⟩),(0,⟨[.t 20 tI,.t 5 tI,.t 6 tI],[],[48,26,25,24,8,23,22,21,32,47,46,45,44,43,42,41,40,39,38,37,36,10,9,35,34,33,31,30,29,28,27],[]⟩),(6,⟨[.t 62 tI,.t 14 tI,.t 15 tI],[],[91,68,80,79,78,77,76,75,74,73,72,71,70,69,17,65,64,63,90,89,81,88,87,86,85,84,83,82,67,66],[]⟩),(4,⟨[.t 13 tI,.t 12 tI,.t 11 tI],[],[59,58,104,103,102,101,100,99,98,97,96,95,94,93,92,63,91,68,80,79,78,77,76,75,74,73,72,71,70,69,17,65,64,90,89,81,88,87,86,85,84,83,82,67,66,62,14,15,61,60,57,56,55],[]⟩)] [] [] []
theorem ZY.walk (x0:PS.den (.d (.sl tC))) (x1:PS.den (.d tI)) (Q:Zbf [tI]→Prop):ZY.wp x0 x1 Q=fnW τ0 (walk τ0 κ1 φA) ZY.A (Zbq Tryz.f60) [.d (.sl tC),.d tI] [tI] (x0,x1,()) Q:=by kernel_rfl
noncomputable def ZY.con:Con:=⟨[.d (.sl tC),.d tI],some fun x=>ZY.pre x,fun x=>Zbv [tI] (ZY.fn x)⟩
theorem ZY.ok:Zaj prog 60 ZY.con:=Zg (Wp:=fun xs Q=>ZY.wp xs.1 xs.2.1 Q) Zat (Zq Zat Zfh ZbI mixed) (Zbp Tryz.func60 (by kernel_rfl) (by kernel_rfl)) (fun xs Q=>ZY.walk xs.1 xs.2.1 Q) fun ⟨x0,x1,_⟩ hl hp=>ZY.spec x0 x1 hp
noncomputable def κL2:List (Nat×CX):=(123,.con Za1.con)::(88,.con Zd.con)::(183,.con ZaD.con)::(109,.con ZaM.con)::(135,.con ZD.con)::(76,.con Zp.con)::(70,.con Zu.con)::(71,.con Zs.con)::(147,.con Zap.con)::(104,.con Zl.con)::(93,.con ZaG.con)::(87,.con ZaB.con)::(139,.con ZaR.con)::(167,.con ZaZ.con)::(117,.con Zaa.con)::(60,.con ZY.con)::κL1
theorem ZtH:Zay prog (fun n=>ZbU n κL2):=Zh Za1.ok (Zh Zd.ok (Zh ZaD.ok (Zh ZaM.ok (Zh ZD.ok (Zh Zp.ok (Zh Zu.ok (Zh Zs.ok (Zh Zap.ok (Zh Zl.ok (Zh ZaG.ok (Zh ZaB.ok (Zh ZaR.ok (Zh ZaZ.ok (Zh Zaa.ok (Zh ZY.ok ZtF)))))))))))))))
noncomputable def κ2:Zaf:=fun n=>ZbU n κL2
theorem Zla:Zay prog κ2:=ZtH
def ZH.A:An:=.mk [] [] [] [] []
theorem ZH.walk (x0:PS.den (.d tC)) (Q:Zbf [.bool]→Prop):ZH.wp x0 Q=fnW τ0 (walk τ0 κ2 φA) ZH.A (Zbq Tryz.f90) [.d tC] [.bool] (x0,()) Q:=by kernel_rfl
noncomputable def ZH.con:Con:=⟨[.d tC],none,fun x=>Zbv [.bool] (ZH.fn x)⟩
theorem ZH.ok:Zaj prog 90 ZH.con:=Zg (Wp:=fun xs Q=>ZH.wp xs.1 Q) Zat (Zq Zat Zla ZbI mixed) (Zbp Tryz.func90 (by kernel_rfl) (by kernel_rfl)) (fun xs Q=>ZH.walk xs.1 Q) fun ⟨x0,_⟩ hl hp=>ZH.spec x0
def Zbb.A:An:=.mk [] [] [] [] []
theorem Zbb.walk (x0:PS.den (.d (.sl tI))) (Q:Zbf [tI,tI]→Prop):Zbb.wp x0 Q=fnW τ0 (walk τ0 κ2 φA) Zbb.A (Zbq Tryz.f169) [.d (.sl tI)] [tI,tI] (x0,()) Q:=by kernel_rfl
noncomputable def Zbb.con:Con:=⟨[.d (.sl tI)],some fun x=>Zbb.pre x,fun x=>Zbv [tI,tI] (Zbb.fn x)⟩
theorem Zbb.ok:Zaj prog 169 Zbb.con:=Zg (Wp:=fun xs Q=>Zbb.wp xs.1 Q) Zat (Zq Zat Zla ZbI mixed) (Zbp Tryz.func169 (by kernel_rfl) (by kernel_rfl)) (fun xs Q=>Zbb.walk xs.1 Q) fun ⟨x0,_⟩ hl hp=>Zbb.spec x0 hp
def Zn.A:An:=.mk [] [(0,⟨[.t 11 tI],[],[30,28,27,8,26,25,24,7,23,22,21,20,19,18,17,16,6,5,15,14,13,12],[]⟩)] [] [] []
theorem Zn.walk (x0:PS.den (.d (.sl tI))) (x1:PS.den (.d (.sl tI))) (Q:Zbf [tI]→Prop):Zn.wp x0 x1 Q=fnW τ0 (walk τ0 κ2 φA) Zn.A (Zbq Tryz.f136) [.d (.sl tI),.d (.sl tI)] [tI] (x0,x1,()) Q:=by kernel_rfl
noncomputable def Zn.con:Con:=⟨[.d (.sl tI),.d (.sl tI)],none,fun x=>Zbv [tI] (Zn.fn x)⟩
theorem Zn.ok:Zaj prog 136 Zn.con:=Zg (Wp:=fun xs Q=>Zn.wp xs.1 xs.2.1 Q) Zat (Zq Zat Zla ZbI mixed) (Zbp Tryz.func136 (by kernel_rfl) (by kernel_rfl)) (fun xs Q=>Zn.walk xs.1 xs.2.1 Q) fun ⟨x0,x1,_⟩ hl hp=>Zn.spec x0 x1 hl.1.1
def ZS.A:An:=.mk [] [(0,⟨[.t 9 tI],[],[15,14,13,5,12,11,10],[]⟩)] [] [] []
theorem ZS.walk (x0:PS.den (.d (.sl tI))) (Q:Zbf [tI,tI]→Prop):ZS.wp x0 Q=fnW τ0 (walk τ0 κ2 φA) ZS.A (Zbq Tryz.f130) [.d (.sl tI)] [tI,tI] (x0,()) Q:=by kernel_rfl
noncomputable def ZS.con:Con:=⟨[.d (.sl tI)],some fun x=>ZS.pre x,fun x=>Zbv [tI,tI] (ZS.fn x)⟩
theorem ZS.ok:Zaj prog 130 ZS.con:=Zg (Wp:=fun xs Q=>ZS.wp xs.1 Q) Zat (Zq Zat Zla ZbI mixed) (Zbp Tryz.func130 (by kernel_rfl) (by kernel_rfl)) (fun xs Q=>ZS.walk xs.1 Q) fun ⟨x0,_⟩ hl hp=>ZS.spec x0 hl.1.1 hp
def ZF.A:An:=.mk [] [(0,⟨[.t 13 tI],[],[26,25,24,23,22,21,20,19,18,17,16,5,15,14],[]⟩)] [] [] []
theorem ZF.walk (x0:PS.den (.d (.sl tC))) (x1:PS.den (.d (.sl tC))) (Q:Zbf [.bool]→Prop):ZF.wp x0 x1 Q=fnW τ0 (walk τ0 κ2 φA) ZF.A (Zbq Tryz.f62) [.d (.sl tC),.d (.sl tC)] [.bool] (x0,x1,()) Q:=by kernel_rfl
noncomputable def ZF.con:Con:=⟨[.d (.sl tC),.d (.sl tC)],none,fun x=>Zbv [.bool] (ZF.fn x)⟩
theorem ZF.ok:Zaj prog 62 ZF.con:=Zg (Wp:=fun xs Q=>ZF.wp xs.1 xs.2.1 Q) Zat (Zq Zat Zla ZbI mixed) (Zbp Tryz.func62 (by kernel_rfl) (by kernel_rfl)) (fun xs Q=>ZF.walk xs.1 xs.2.1 Q) fun ⟨x0,x1,_⟩ hl hp=>ZF.spec x0 x1 hl.1.1
def Zan.A:An:=.mk [] [] [] [] []
theorem Zan.walk (x0:PS.den (.d tC)) (Q:Zbf [.bool]→Prop):Zan.wp x0 Q=fnW τ0 (walk τ0 κ2 φA) Zan.A (Zbq Tryz.f55) [.d tC] [.bool] (x0,()) Q:=by kernel_rfl
noncomputable def Zan.con:Con:=⟨[.d tC],none,fun x=>Zbv [.bool] (Zan.fn x)⟩
theorem Zan.ok:Zaj prog 55 Zan.con:=Zg (Wp:=fun xs Q=>Zan.wp xs.1 Q) Zat (Zq Zat Zla ZbI mixed) (Zbp Tryz.func55 (by kernel_rfl) (by kernel_rfl)) (fun xs Q=>Zan.walk xs.1 Q) fun ⟨x0,_⟩ hl hp=>Zan.spec x0
def ZQ.A:An:=.mk [] [(1,⟨[.t 73 tI],[],[83,78,77,9,76,75,74],[]⟩),(3,⟨[.t 104 tI,.row 2 tI],[],[120,119,118,117,109,116,115,114,113,112,111,110,12,11,108,107,106,105],[]⟩)] [] [] []
theorem ZQ.walk (x0:PS.den (.d tC)) (Q:Zbf [tC,tI]→Prop):ZQ.wp x0 Q=fnW τ0 (walk τ0 κ2 φA) ZQ.A (Zbq Tryz.f124) [.d tC] [tC,tI] (x0,()) Q:=by kernel_rfl
noncomputable def ZQ.con:Con:=⟨[.d tC],some fun x=>ZQ.pre x,fun x=>Zbv [tC,tI] (ZQ.fn x)⟩
theorem ZQ.ok:Zaj prog 124 ZQ.con:=Zg (Wp:=fun xs Q=>ZQ.wp xs.1 Q) Zat (Zq Zat Zla ZbI mixed) (Zbp Tryz.func124 (by kernel_rfl) (by kernel_rfl)) (fun xs Q=>ZQ.walk xs.1 Q) fun ⟨x0,_⟩ hl hp=>ZQ.spec x0 hp
def ZaQ.A:An:=.mk [] [] [] [] []
theorem ZaQ.walk (x0:PS.den (.d tC)) (x1:PS.den (.d tC)) (Q:Zbf [tI]→Prop):ZaQ.wp x0 x1 Q=fnW τ0 (walk τ0 κ2 φA) ZaQ.A (Zbq Tryz.f142) [.d tC,.d tC] [tI] (x0,x1,()) Q:=by kernel_rfl
noncomputable def ZaQ.con:Con:=⟨[.d tC,.d tC],some fun x=>ZaQ.pre x,fun x=>Zbv [tI] (ZaQ.fn x)⟩
theorem ZaQ.ok:Zaj prog 142 ZaQ.con:=Zg (Wp:=fun xs Q=>ZaQ.wp xs.1 xs.2.1 Q) Zat (Zq Zat Zla ZbI mixed) (Zbp Tryz.func142 (by kernel_rfl) (by kernel_rfl)) (fun xs Q=>ZaQ.walk xs.1 xs.2.1 Q) fun ⟨x0,x1,_⟩ hl hp=>ZaQ.spec x0 x1 hp
def Z0.A:An:=.mk [(1000,[.own 10 tC])] [(0,⟨[.t 33 tI,.row 1 tC],[10],[71,40,39,38,11,12,37,36,35,34,59,48,58,57,56,55,54,53,52,51,50,49,47,46,45,44,43,42,41,70,60,69,68,67,66,65,64,63,62,61],[]⟩)] [] [] []
theorem Z0.walk (x0:PS.den (.d (.sl tC))) (x1:PS.den (.d tI)) (x2:PS.den (.d tI)) (Q:Zbf [(.sl tC)]→Prop):Z0.wp x0 x1 x2 Q=fnW τ0 (walk τ0 κ2 φA) Z0.A (Zbq Tryz.f81) [.d (.sl tC),.d tI,.d tI] [(.sl tC)] (x0,x1,x2,()) Q:=by kernel_rfl
noncomputable def Z0.con:Con:=⟨[.d (.sl tC),.d tI,.d tI],some fun x=>Z0.pre x,fun x=>Zbv [(.sl tC)] (Z0.fn x)⟩
theorem Z0.ok:Zaj prog 81 Z0.con:=Zg (Wp:=fun xs Q=>Z0.wp xs.1 xs.2.1 xs.2.2.1 Q) Zat (Zq Zat Zla ZbI mixed) (Zbp Tryz.func81 (by kernel_rfl) (by kernel_rfl)) (fun xs Q=>Z0.walk xs.1 xs.2.1 xs.2.2.1 Q) fun ⟨x0,x1,x2,_⟩ hl hp=>Z0.spec x0 x1 x2 hp
noncomputable def κL3:List (Nat×CX):=(90,.con ZH.con)::(169,.con Zbb.con)::(136,.con Zn.con)::(130,.con ZS.con)::(62,.con ZF.con)::(55,.con Zan.con)::(124,.con ZQ.con)::(142,.con ZaQ.con)::(81,.con Z0.con)::κL2
theorem ZtO:Zay prog (fun n=>ZbU n κL3):=Zh ZH.ok (Zh Zbb.ok (Zh Zn.ok (Zh ZS.ok (Zh ZF.ok (Zh Zan.ok (Zh ZQ.ok (Zh ZaQ.ok (Zh Z0.ok ZtH))))))))
noncomputable def κ3:Zaf:=fun n=>ZbU n κL3
theorem Zjk:Zay prog κ3:=ZtO
def Zbn.A:An:=.mk [] [(0,⟨[.t 9 tI],[],[24,23,22,21,20,19,18,17,16,15,14,13,6,12,11,10],[]⟩)] [] [] []
theorem Zbn.walk (x0:PS.den (.d (.sl tC))) (x1:PS.den (.d tI)) (Q:Zbf [.bool]→Prop):Zbn.wp x0 x1 Q=fnW τ0 (walk τ0 κ3 φA) Zbn.A (Zbq Tryz.f65) [.d (.sl tC),.d tI] [.bool] (x0,x1,()) Q:=by kernel_rfl
noncomputable def Zbn.con:Con:=⟨[.d (.sl tC),.d tI],none,fun x=>Zbv [.bool] (Zbn.fn x)⟩
theorem Zbn.ok:Zaj prog 65 Zbn.con:=Zg (Wp:=fun xs Q=>Zbn.wp xs.1 xs.2.1 Q) Zat (Zq Zat Zjk ZbI mixed) (Zbp Tryz.func65 (by kernel_rfl) (by kernel_rfl)) (fun xs Q=>Zbn.walk xs.1 xs.2.1 Q) fun ⟨x0,x1,_⟩ hl hp=>Zbn.spec x0 x1 hl.1.1
def ZP.A:An:=.mk [] [] [] [] []
theorem ZP.walk (x0:PS.den (.d tC)) (Q:Zbf [tC,tI]→Prop):ZP.wp x0 Q=fnW τ0 (walk τ0 κ3 φA) ZP.A (Zbq Tryz.f149) [.d tC] [tC,tI] (x0,()) Q:=by kernel_rfl
noncomputable def ZP.con:Con:=⟨[.d tC],some fun x=>ZP.pre x,fun x=>Zbv [tC,tI] (ZP.fn x)⟩
theorem ZP.ok:Zaj prog 149 ZP.con:=Zg (Wp:=fun xs Q=>ZP.wp xs.1 Q) Zat (Zq Zat Zjk ZbI mixed) (Zbp Tryz.func149 (by kernel_rfl) (by kernel_rfl)) (fun xs Q=>ZP.walk xs.1 Q) fun ⟨x0,_⟩ hl hp=>ZP.spec x0 hp
def ZO.A:An:=.mk [] [(0,⟨[.t 44 tI],[],[54,49,48,7,47,46,45],[]⟩)] [] [] []
theorem ZO.walk (x0:PS.den (.d tC)) (Q:Zbf [tC,tI]→Prop):ZO.wp x0 Q=fnW τ0 (walk τ0 κ3 φA) ZO.A (Zbq Tryz.f150) [.d tC] [tC,tI] (x0,()) Q:=by kernel_rfl
noncomputable def ZO.con:Con:=⟨[.d tC],some fun x=>ZO.pre x,fun x=>Zbv [tC,tI] (ZO.fn x)⟩
theorem ZO.ok:Zaj prog 150 ZO.con:=Zg (Wp:=fun xs Q=>ZO.wp xs.1 Q) Zat (Zq Zat Zjk ZbI mixed) (Zbp Tryz.func150 (by kernel_rfl) (by kernel_rfl)) (fun xs Q=>ZO.walk xs.1 Q) fun ⟨x0,_⟩ hl hp=>ZO.spec x0 hp
def ZG.A:An:=.mk [] [(0,⟨[.t 25 tI,.t 6 tI,.row 2 tI],[],[51,50,49,40,48,47,46,45,44,43,42,41,39,38,37,30,36,35,34,33,32,31,8,7,29,28,27,26],[]⟩)] [] [] []
theorem ZG.walk (x0:PS.den (.d tC)) (Q:Zbf [tC,tI]→Prop):ZG.wp x0 Q=fnW τ0 (walk τ0 κ3 φA) ZG.A (Zbq Tryz.f151) [.d tC] [tC,tI] (x0,()) Q:=by kernel_rfl
noncomputable def ZG.con:Con:=⟨[.d tC],some fun x=>ZG.pre x,fun x=>Zbv [tC,tI] (ZG.fn x)⟩
theorem ZG.ok:Zaj prog 151 ZG.con:=Zg (Wp:=fun xs Q=>ZG.wp xs.1 Q) Zat (Zq Zat Zjk ZbI mixed) (Zbp Tryz.func151 (by kernel_rfl) (by kernel_rfl)) (fun xs Q=>ZG.walk xs.1 Q) fun ⟨x0,_⟩ hl hp=>ZG.spec x0 hp
def ZaW.A:An:=.mk [] [] [] [] []
theorem ZaW.walk (x0:PS.den (.d tC)) (Q:Zbf [.bool]→Prop):ZaW.wp x0 Q=fnW τ0 (walk τ0 κ3 φA) ZaW.A (Zbq Tryz.f107) [.d tC] [.bool] (x0,()) Q:=by kernel_rfl
noncomputable def ZaW.con:Con:=⟨[.d tC],none,fun x=>Zbv [.bool] (ZaW.fn x)⟩
theorem ZaW.ok:Zaj prog 107 ZaW.con:=Zg (Wp:=fun xs Q=>ZaW.wp xs.1 Q) Zat (Zq Zat Zjk ZbI mixed) (Zbp Tryz.func107 (by kernel_rfl) (by kernel_rfl)) (fun xs Q=>ZaW.walk xs.1 Q) fun ⟨x0,_⟩ hl hp=>ZaW.spec x0
def Zao.A:An:=.mk [] [] [] [] []
theorem Zao.walk (x0:PS.den (.d tC)) (x1:PS.den (.d tC)) (Q:Zbf [tI]→Prop):Zao.wp x0 x1 Q=fnW τ0 (walk τ0 κ3 φA) Zao.A (Zbq Tryz.f112) [.d tC,.d tC] [tI] (x0,x1,()) Q:=by kernel_rfl
noncomputable def Zao.con:Con:=⟨[.d tC,.d tC],some fun x=>Zao.pre x,fun x=>Zbv [tI] (Zao.fn x)⟩
theorem Zao.ok:Zaj prog 112 Zao.con:=Zg (Wp:=fun xs Q=>Zao.wp xs.1 xs.2.1 Q) Zat (Zq Zat Zjk ZbI mixed) (Zbp Tryz.func112 (by kernel_rfl) (by kernel_rfl)) (fun xs Q=>Zao.walk xs.1 xs.2.1 Q) fun ⟨x0,x1,_⟩ hl hp=>Zao.spec x0 x1 hp
def ZaI.A:An:=.mk [] [(0,⟨[.t 23 tI],[],[38,37,36,35,34,33,32,31,30,29,28,27,26,5,25,24],[]⟩)] [] [] []
theorem ZaI.walk (x0:PS.den (.d tS)) (x1:PS.den (.d tS)) (Q:Zbf [.bool]→Prop):ZaI.wp x0 x1 Q=fnW τ0 (walk τ0 κ3 φA) ZaI.A (Zbq Tryz.f29) [.d tS,.d tS] [.bool] (x0,x1,()) Q:=by kernel_rfl
noncomputable def ZaI.con:Con:=⟨[.d tS,.d tS],none,fun x=>Zbv [.bool] (ZaI.fn x)⟩
theorem ZaI.ok:Zaj prog 29 ZaI.con:=Zg (Wp:=fun xs Q=>ZaI.wp xs.1 xs.2.1 Q) Zat (Zq Zat Zjk ZbI mixed) (Zbp Tryz.func29 (by kernel_rfl) (by kernel_rfl)) (fun xs Q=>ZaI.walk xs.1 xs.2.1 Q) fun ⟨x0,x1,_⟩ hl hp=>ZaI.spec x0 x1 hl.1.2.1
def Z9.A:An:=.mk [] [(2,⟨[.t 33 tI],[],[49,48,47,46,45,44,43,42,41,40,39,38,37,6,36,35,34],[]⟩),(0,⟨[.t 24 tI],[],[50,34,49,48,47,46,45,44,43,42,41,40,39,38,37,6,36,35,33,32,31,30,29,28,4,27,26,25],[]⟩)] [] [] []
theorem Z9.walk (x0:PS.den (.d tS)) (Q:Zbf [.bool]→Prop):Z9.wp x0 Q=fnW τ0 (walk τ0 κ3 φA) Z9.A (Zbq Tryz.f24) [.d tS] [.bool] (x0,()) Q:=by kernel_rfl
noncomputable def Z9.con:Con:=⟨[.d tS],none,fun x=>Zbv [.bool] (Z9.fn x)⟩
theorem Z9.ok:Zaj prog 24 Z9.con:=Zg (Wp:=fun xs Q=>Z9.wp xs.1 Q) Zat (Zq Zat Zjk ZbI mixed) (Zbp Tryz.func24 (by kernel_rfl) (by kernel_rfl)) (fun xs Q=>Z9.walk xs.1 Q) fun ⟨x0,_⟩ hl hp=>Z9.spec x0 hl.1.2.1
def Z1.A:An:=.mk [(1000,[.own 3 tC])] [(2,⟨[.t 6 tI],[],[28,27,26,25,24,23,22,21,20,19,18,17,16,15,14],[]⟩),(0,⟨[.t 10 tI,.t 3 (.sl tC)],[],[55,54,50,7,49,53,52,51,46,45,48,47,41,44,43,42,40,39,38,37,36,35,34,33,32,31,30,29,26,25,24,23,22,21,20,19,18,17,16,15,14,6,5,13,12,11,28,27],[]⟩)] [] [] []
theorem Z1.walk (x0:PS.den (.d (.sl tC))) (Q:Zbf [(.sl tC)]→Prop):Z1.wp x0 Q=fnW τ0 (walk τ0 κ3 φA) Z1.A (Zbq Tryz.f126) [.d (.sl tC)] [(.sl tC)] (x0,()) Q:=by kernel_rfl
noncomputable def Z1.con:Con:=⟨[.d (.sl tC)],some fun x=>Z1.pre x,fun x=>Zbv [(.sl tC)] (Z1.fn x)⟩
theorem Z1.ok:Zaj prog 126 Z1.con:=Zg (Wp:=fun xs Q=>Z1.wp xs.1 Q) Zat (Zq Zat Zjk ZbI mixed) (Zbp Tryz.func126 (by kernel_rfl) (by kernel_rfl)) (fun xs Q=>Z1.walk xs.1 Q) fun ⟨x0,_⟩ hl hp=>Z1.spec x0 hp
def Zaz.A:An:=.mk [] [(0,⟨[.t 9 tI],[],[16,15,14,13,6,12,11,10],[]⟩)] [] [] []
theorem Zaz.walk (x0:PS.den (.d (.sl (.sl tC)))) (x1:PS.den (.d (.sl tC))) (Q:Zbf [.bool]→Prop):Zaz.wp x0 x1 Q=fnW τ0 (walk τ0 κ3 φA) Zaz.A (Zbq Tryz.f119) [.d (.sl (.sl tC)),.d (.sl tC)] [.bool] (x0,x1,()) Q:=by kernel_rfl
noncomputable def Zaz.con:Con:=⟨[.d (.sl (.sl tC)),.d (.sl tC)],none,fun x=>Zbv [.bool] (Zaz.fn x)⟩
theorem Zaz.ok:Zaj prog 119 Zaz.con:=Zg (Wp:=fun xs Q=>Zaz.wp xs.1 xs.2.1 Q) Zat (Zq Zat Zjk ZbI mixed) (Zbp Tryz.func119 (by kernel_rfl) (by kernel_rfl)) (fun xs Q=>Zaz.walk xs.1 xs.2.1 Q) fun ⟨x0,x1,_⟩ hl hp=>Zaz.spec x0 x1 hl.1.1
noncomputable def κL4:List (Nat×CX):=(65,.con Zbn.con)::(149,.con ZP.con)::(150,.con ZO.con)::(151,.con ZG.con)::(107,.con ZaW.con)::(112,.con Zao.con)::(29,.con ZaI.con)::(24,.con Z9.con)::(126,.con Z1.con)::(119,.con Zaz.con)::κL3
theorem Ztx:Zay prog (fun n=>ZbU n κL4):=Zh Zbn.ok (Zh ZP.ok (Zh ZO.ok (Zh ZG.ok (Zh ZaW.ok (Zh Zao.ok (Zh ZaI.ok (Zh Z9.ok (Zh Z1.ok (Zh Zaz.ok ZtO)))))))))
noncomputable def κ4:Zaf:=fun n=>ZbU n κL4
theorem Zq4:Zay prog κ4:=Ztx
def ZaS.A:An:=.mk [] [(0,⟨[.t 22 tI],[],[36,35,34,33,32,31,30,29,28,27,26,4,25,24,23],[]⟩)] [] [] []
theorem ZaS.walk (x0:PS.den (.d tS)) (Q:Zbf [.bool]→Prop):ZaS.wp x0 Q=fnW τ0 (walk τ0 κ4 φA) ZaS.A (Zbq Tryz.f39) [.d tS] [.bool] (x0,()) Q:=by kernel_rfl
noncomputable def ZaS.con:Con:=⟨[.d tS],none,fun x=>Zbv [.bool] (ZaS.fn x)⟩
theorem ZaS.ok:Zaj prog 39 ZaS.con:=Zg (Wp:=fun xs Q=>ZaS.wp xs.1 Q) Zat (Zq Zat Zq4 ZbI mixed) (Zbp Tryz.func39 (by kernel_rfl) (by kernel_rfl)) (fun xs Q=>ZaS.walk xs.1 Q) fun ⟨x0,_⟩ hl hp=>ZaS.spec x0 hl.1.2.1
noncomputable def Zcd.con:Con:=⟨[],none,fun _=>.agg [.fn (.func 149) [] [],.fn (.func 150) [] [],.fn (.func 151) [] []]⟩
theorem Zcd.val (xs:Zb9 []) (Q:V→Prop):Q (Zcd.con.res xs)=fnV τ0 (walk τ0 κ4 φA) An.none (Zbq Tryz.f131) [] xs Q:=by kernel_rfl
theorem Zcd.ok:Zaj prog 131 Zcd.con:=Zmb Zat (Zq Zat Zq4 ZbI mixed) (Zbp Tryz.func131 (by kernel_rfl) (by kernel_rfl)) fun xs _ _=>Eq.mp (Zcd.val xs _) rfl
def Zai.A:An:=.mk [] [] [] [] []
theorem Zai.walk (x0:PS.den (.d tC)) (x1:PS.den (.d tC)) (Q:Zbf [.bool]→Prop):Zai.wp x0 x1 Q=fnW τ0 (walk τ0 κ4 φA) Zai.A (Zbq Tryz.f114) [.d tC,.d tC] [.bool] (x0,x1,()) Q:=by kernel_rfl
noncomputable def Zai.con:Con:=⟨[.d tC,.d tC],some fun x=>Zai.pre x,fun x=>Zbv [.bool] (Zai.fn x)⟩
theorem Zai.ok:Zaj prog 114 Zai.con:=Zg (Wp:=fun xs Q=>Zai.wp xs.1 xs.2.1 Q) Zat (Zq Zat Zq4 ZbI mixed) (Zbp Tryz.func114 (by kernel_rfl) (by kernel_rfl)) (fun xs Q=>Zai.walk xs.1 xs.2.1 Q) fun ⟨x0,x1,_⟩ hl hp=>Zai.spec x0 x1 hp
def ZC.A:An:=.mk [] [(2,⟨[.t 34 tI,.t 11 tI],[],[42,41,40,39,38,13,37,36,35],[]⟩),(8,⟨[.t 73 tI],[],[87,86,85,84,83,82,81,80,79,78,77,19,76,75,74],[]⟩),(6,⟨[.t 65 tI],[],[95,94,93,92,91,90,89,88,74,87,86,85,84,83,82,81,80,79,78,77,19,76,75,73,72,71,70,69,17,68,67,66],[]⟩),(4,⟨[.t 59 tI],[],[96,66,95,94,93,92,91,90,89,88,74,87,86,85,84,83,82,81,80,79,78,77,19,76,75,73,72,71,70,69,17,68,67,65,64,63,15,62,61,60],[]⟩),(0,⟨[.t 27 tI],[],[97,60,96,66,95,94,93,92,91,90,89,88,74,87,86,85,84,83,82,81,80,79,78,77,19,76,75,73,72,71,70,69,17,68,67,65,64,63,15,62,61,59,58,57,56,55,54,53,52,51,50,49,48,47,46,45,44,43,35,42,41,40,39,38,13,37,36,34,11,33,32,31,10,30,29,28],[]⟩)] [] [] []
theorem ZC.walk (x0:PS.den (.d tI)) (x1:PS.den (.d tI)) (x2:PS.den (.d tI)) (x3:PS.den (.d (.sl tS))) (Q:Zbf [.bool]→Prop):ZC.wp x0 x1 x2 x3 Q=fnW τ0 (walk τ0 κ4 φA) ZC.A (Zbq Tryz.f17) [.d tI,.d tI,.d tI,.d (.sl tS)] [.bool] (x0,x1,x2,x3,()) Q:=by kernel_rfl
noncomputable def ZC.con:Con:=⟨[.d tI,.d tI,.d tI,.d (.sl tS)],none,fun x=>Zbv [.bool] (ZC.fn x)⟩
theorem ZC.ok:Zaj prog 17 ZC.con:=Zg (Wp:=fun xs Q=>ZC.wp xs.1 xs.2.1 xs.2.2.1 xs.2.2.2.1 Q) Zat (Zq Zat Zq4 ZbI mixed) (Zbp Tryz.func17 (by kernel_rfl) (by kernel_rfl)) (fun xs Q=>ZC.walk xs.1 xs.2.1 xs.2.2.1 xs.2.2.2.1 Q) fun ⟨x0,x1,x2,x3,_⟩ hl hp=>by first | exact ZC.spec x0 x1 x2 x3  | exact ZC.spec x0 x1 x2 x3 hp | exact ZC.spec x0 x1 x2 x3 hl.1 | exact ZC.spec x0 x1 x2 x3 hl.1 hp | exact ZC.spec x0 x1 x2 x3 hl.1.1 | exact ZC.spec x0 x1 x2 x3 hl.1.1 hp | exact ZC.spec x0 x1 x2 x3 hl.1.1.1 | exact ZC.spec x0 x1 x2 x3 hl.1.1.1 hp | exact ZC.spec x0 x1 x2 x3 hl.1.2.1 | exact ZC.spec x0 x1 x2 x3 hl.1.2.1 hp | exact ZC.spec x0 x1 x2 x3 hl.2.1 | exact ZC.spec x0 x1 x2 x3 hl.2.1 hp | exact ZC.spec x0 x1 x2 x3 hl.2.1.1 | exact ZC.spec x0 x1 x2 x3 hl.2.1.1 hp | exact ZC.spec x0 x1 x2 x3 hl.2.1.1.1 | exact ZC.spec x0 x1 x2 x3 hl.2.1.1.1 hp | exact ZC.spec x0 x1 x2 x3 hl.2.2.1.1 (fun s hs=>(hl.2.2.1.2 s hs).2.1) | exact ZC.spec x0 x1 x2 x3 hl.2.2.2.1.1 (fun s hs=>⟨(hl.2.2.2.1.2 s hs).2.1,fun p hp=>⟨((hl.2.2.2.1.2 s hs).2.2 p hp).1,fun c hc=>(((hl.2.2.2.1.2 s hs).2.2 p hp).2 c hc).2.2.1.1⟩⟩)
def Zac.A:An:=.mk [(1000,[.own 6 tC,.own 7 tC,.own 8 tC]),(1003,[.own 13 tC])] [(0,⟨[.t 36 tI,.t 5 .bool,.row 0 tC,.row 1 tC,.row 2 tC],[6,7,8],[73,48,47,46,45,12,11,44,43,40,42,41,10,39,38,37,66,63,65,64,61,62,56,55,54,53,52,51,50,49,72,69,71,70,67,68,60,57,59,58],[]⟩),(5,⟨[.t 82 tI,.t 16 .bool,.row 3 tC],[],[107,106,105,104,103,102,101,100,99,98,97,96,95,94,93,92,91,90,89,88,87,86,85,17,84,83],[]⟩),(3,⟨[.t 76 tI,.row 3 tC],[13],[114,113,110,80,112,111,109,108,83,82,81,16,15,79,78,77,107,106,105,104,103,102,101,100,99,98,97,96,95,94,93,92,91,90,89,88,87,86,85,17,84],[]⟩),(9,⟨[.t 21 tI,.row 1 tC,.row 4 .bool],[7],[132,131,140,139,138,137,22,136,135,134,133,130,129,128,127,173,170,172,171,24,23,169,168,163,167,166,165,164,162,161,160,159,158,157,156,155,154,153,152,151,150,149,148,147,146,145,144,143,142,141],[]⟩),(7,⟨[.t 120 tI,.row 1 tC,.row 4 .bool],[],[174,130,129,128,127,132,131,140,139,138,137,22,136,135,134,133,173,170,172,171,24,23,169,168,163,167,166,165,164,162,161,160,159,158,157,156,155,154,153,152,151,150,149,148,147,146,145,144,143,142,141,21,126,125,19,20,124,123,122,121],[]⟩),(15,⟨[.t 206 tI,.row 4 .bool],[],[236,220,219,218,217,216,215,214,213,212,211,29,30,210,209,208,207,235,234,233,232,231,230,229,228,227,226,225,224,223,222,221],[]⟩),(13,⟨[.t 186 tI],[],[203,202,201,200,199,198,197,196,195,194,193,192,191,190,28,189,188,187],[]⟩),(11,⟨[.t 177 tI,.row 4 .bool],[],[237,207,236,220,219,218,217,216,215,214,213,212,211,29,30,210,209,208,235,234,233,232,231,230,229,228,227,226,225,224,223,222,221,206,205,204,187,186,185,184,183,182,25,26,181,180,179,178,203,202,201,200,199,198,197,196,195,194,193,192,191,190,28,189,188],[]⟩),(17,⟨[.t 241 tI,.row 1 tC],[31],[255,254,251,238,175,7,253,252,250,249,248,247,246,32,33,245,244,243,242],[]⟩)] [] [] []
theorem Zac.walk (x0:PS.den (.d (.sl tC))) (Q:Zbf [(.sl tC),.bool,tI]→Prop):Zac.wp x0 Q=fnW τ0 (walk τ0 κ4 φA) Zac.A (Zbq Tryz.f91) [.d (.sl tC)] [(.sl tC),.bool,tI] (x0,()) Q:=by kernel_rfl
noncomputable def Zac.con:Con:=⟨[.d (.sl tC)],some fun x=>Zac.pre x,fun x=>Zbv [(.sl tC),.bool,tI] (Zac.fn x)⟩
theorem Zac.ok:Zaj prog 91 Zac.con:=Zg (Wp:=fun xs Q=>Zac.wp xs.1 Q) Zat (Zq Zat Zq4 ZbI mixed) (Zbp Tryz.func91 (by kernel_rfl) (by kernel_rfl)) (fun xs Q=>Zac.walk xs.1 Q) fun ⟨x0,_⟩ hl hp=>Zac.spec x0 hp
noncomputable def κL5:List (Nat×CX):=(39,.con ZaS.con)::(131,.con Zcd.con)::(114,.con Zai.con)::(17,.con ZC.con)::(91,.con Zac.con)::κL4
theorem ZtV:Zay prog (fun n=>ZbU n κL5):=Zh ZaS.ok (Zh Zcd.ok (Zh Zai.ok (Zh ZC.ok (Zh Zac.ok Ztx))))
noncomputable def κ5:Zaf:=fun n=>ZbU n κL5
theorem ZvN:Zay prog κ5:=ZtV
def ZaK.A:An:=.mk [(1,[.cases 1 0 3])] [] [] [] []
theorem ZaK.walk (x0:PS.den (.d tC)) (Q:Zbf [tC,tI]→Prop):ZaK.wp x0 Q=fnW τ0 (walk τ0 κ5 φA) ZaK.A (Zbq Tryz.f106) [.d tC] [tC,tI] (x0,()) Q:=by kernel_rfl
noncomputable def ZaK.con:Con:=⟨[.d tC],some fun x=>ZaK.pre x,fun x=>Zbv [tC,tI] (ZaK.fn x)⟩
theorem ZaK.ok:Zaj prog 106 ZaK.con:=Zg (Wp:=fun xs Q=>ZaK.wp xs.1 Q) Zat (Zq Zat ZvN ZbI mixed) (Zbp Tryz.func106 (by kernel_rfl) (by kernel_rfl)) (fun xs Q=>ZaK.walk xs.1 Q) fun ⟨x0,_⟩ hl hp=>ZaK.spec x0 hp
def ZJ.A:An:=.mk [(1000,[.own 4 (.sl tC)])] [(0,⟨[.t 12 tI,.row 0 (.sl tC)],[4],[37,36,33,28,35,34,32,31,30,29,27,26,25,23,22,9,8,7,21,20,19,16,18,17,6,15,14,13],[]⟩)] [] [] []
theorem ZJ.walk (x0:PS.den (.d (.sl (.sl tC)))) (Q:Zbf [(.sl (.sl tC)),tI]→Prop):ZJ.wp x0 Q=fnW τ0 (walk τ0 κ5 φA) ZJ.A (Zbq Tryz.f84) [.d (.sl (.sl tC))] [(.sl (.sl tC)),tI] (x0,()) Q:=by kernel_rfl
noncomputable def ZJ.con:Con:=⟨[.d (.sl (.sl tC))],some fun x=>ZJ.pre x,fun x=>Zbv [(.sl (.sl tC)),tI] (ZJ.fn x)⟩
theorem ZJ.ok:Zaj prog 84 ZJ.con:=Zg (Wp:=fun xs Q=>ZJ.wp xs.1 Q) Zat (Zq Zat ZvN ZbI mixed) (Zbp Tryz.func84 (by kernel_rfl) (by kernel_rfl)) (fun xs Q=>ZJ.walk xs.1 Q) fun ⟨x0,_⟩ hl hp=>ZJ.spec x0 hp
noncomputable def κL6:List (Nat×CX):=(106,.con ZaK.con)::(84,.con ZJ.con)::κL5
theorem ZtM:Zay prog (fun n=>ZbU n κL6):=Zh ZaK.ok (Zh ZJ.ok ZtV)
noncomputable def κ6:Zaf:=fun n=>ZbU n κL6
theorem Zuw:Zay prog κ6:=ZtM
def Zam.A:An:=.mk [(1002,[.own 7 tC])] [(0,⟨[.t 19 tI,.smap 0 tI],[],[33,32,31,30,29,28,27,26,25,24,5,6,23,22,21,20],[]⟩),(2,⟨[.t 37 tI,.row 2 tC,.imap 1 .bool],[7],[98,64,61,63,62,60,59,58,57,56,55,54,12,11,53,52,45,51,50,49,48,47,46,44,43,42,9,10,41,40,39,38,97,94,96,95,93,92,15,14,91,90,85,89,88,87,86,82,84,83,79,81,80,13,74,73,72,71,70,69,68,67,66,65,78,75,77,76],[]⟩)] [] [] []
theorem Zam.walk (x0:PS.den (.d (.sl tC))) (Q:Zbf [(.sl tC),.bool]→Prop):Zam.wp x0 Q=fnW τ0 (walk τ0 κ6 φA) Zam.A (Zbq Tryz.f108) [.d (.sl tC)] [(.sl tC),.bool] (x0,()) Q:=by kernel_rfl
noncomputable def Zam.con:Con:=⟨[.d (.sl tC)],some fun x=>Zam.pre x,fun x=>Zbv [(.sl tC),.bool] (Zam.fn x)⟩
theorem Zam.ok:Zaj prog 108 Zam.con:=Zg (Wp:=fun xs Q=>Zam.wp xs.1 Q) Zat (Zq Zat Zuw ZbI mixed) (Zbp Tryz.func108 (by kernel_rfl) (by kernel_rfl)) (fun xs Q=>Zam.walk xs.1 Q) fun ⟨x0,_⟩ hl hp=>Zam.spec x0 hp
def Zav.A:An:=.mk [] [] [] [] []
theorem Zav.walk (x0:PS.den (.d tI)) (x1:PS.den (.d (.sl (.sl tC)))) (Q:Zbf [tS,tI]→Prop):Zav.wp x0 x1 Q=fnW τ0 (walk τ0 κ6 φA) Zav.A (Zbq Tryz.f46) [.d tI,.d (.sl (.sl tC))] [tS,tI] (x0,x1,()) Q:=by kernel_rfl
noncomputable def Zav.con:Con:=⟨[.d tI,.d (.sl (.sl tC))],some fun x=>Zav.pre x,fun x=>Zbv [tS,tI] (Zav.fn x)⟩
theorem Zav.ok:Zaj prog 46 Zav.con:=Zg (Wp:=fun xs Q=>Zav.wp xs.1 xs.2.1 Q) Zat (Zq Zat Zuw ZbI mixed) (Zbp Tryz.func46 (by kernel_rfl) (by kernel_rfl)) (fun xs Q=>Zav.walk xs.1 xs.2.1 Q) fun ⟨x0,x1,_⟩ hl hp=>Zav.spec x0 x1 hp
def ZI.A:An:=.mk [] [] [] [] []
theorem ZI.walk (x0:PS.den (.d (.sl (.sl tC)))) (Q:Zbf [(.sl (.sl tC)),tI]→Prop):ZI.wp x0 Q=fnW τ0 (walk τ0 κ6 φA) ZI.A (Zbq Tryz.f80) [.d (.sl (.sl tC))] [(.sl (.sl tC)),tI] (x0,()) Q:=by kernel_rfl
noncomputable def ZI.con:Con:=⟨[.d (.sl (.sl tC))],some fun x=>ZI.pre x,fun x=>Zbv [(.sl (.sl tC)),tI] (ZI.fn x)⟩
theorem ZI.ok:Zaj prog 80 ZI.con:=Zg (Wp:=fun xs Q=>ZI.wp xs.1 Q) Zat (Zq Zat Zuw ZbI mixed) (Zbp Tryz.func80 (by kernel_rfl) (by kernel_rfl)) (fun xs Q=>ZI.walk xs.1 Q) fun ⟨x0,_⟩ hl hp=>ZI.spec x0 hp
noncomputable def κL7:List (Nat×CX):=(108,.con Zam.con)::(46,.con Zav.con)::(80,.con ZI.con)::κL6
theorem ZrY:Zay prog (fun n=>ZbU n κL7):=Zh Zam.ok (Zh Zav.ok (Zh ZI.ok ZtM))
noncomputable def κ7:Zaf:=fun n=>ZbU n κL7
theorem Zv4:Zay prog κ7:=ZrY
theorem ZvJ:Sp.Ok prog 111 (.sort tC 112 (fun a b=>Zao.pre (a,b,())) (fun a b=>Zao.fn (a,b,()))):=ZwT Zw6 Zw4 fun h=>ZuD (T:=tC) laysF6 rfl Zw2 Zxe h Zao.ok ZcI.1 ZcI.2
noncomputable def φB:Nat→Option FX:=fun n=>Zch n ((111,.sp (.sort tC 112 (fun a b=>Zao.pre (a,b,())) (fun a b=>Zao.fn (a,b,()))))::Zu2)
theorem ZwY:∀ g fx,φB g=some fx→fx.Ok prog g:=Zbs ZvJ ZrZ
def Zb.A:An:=.mk [(20,[.part 5]),(1000,[.own 5 tC])] [(0,⟨[.t 14 tI,.row 0 tC],[5],[31,30,27,29,28,26,25,24,23,9,8,22,21,18,20,19,7,17,16,15],[]⟩)] [] [] [(50,.mk [] [(2,⟨[.t 7 tI,.t 5 tI,.row 2 tC],[],[37,36,58,57,56,55,54,53,52,51,50,49,48,47,46,45,44,43,42,41,40,39,38,35,34,33,32],[]⟩),(0,⟨[.t 5 tI],[],[17,16,28,27,26,25,24,23,22,21,20,19,18,15,14,13,12],[]⟩)] [] [] []),(43,.mk [(1002,[.own 10 tC])] [(0,⟨[.t 20 tI,.smap 1 tI],[],[50,26,25,24,6,23,22,21,49,48,47,46,45,44,43,42,41,40,39,38,37,9,8,36,35,31,34,33,32,7,30,29,28,27],[]⟩),(2,⟨[.t 53 tI,.row 2 tC],[10],[95,74,73,72,71,70,69,14,13,68,67,60,66,65,64,63,62,61,59,58,57,12,56,55,54,90,89,88,87,86,85,84,16,15,83,82,75,81,80,79,78,77,76,94,91,93,92],[]⟩)] [] [] [])]
theorem Zb.walk (x0:PS.den (.d (.sl tC))) (Q:Zbf [(.sl tC),.bool,tI]→Prop):Zb.wp x0 Q=fnW τ0 (walk τ0 κ7 φB) Zb.A (Zbq Tryz.f75) [.d (.sl tC)] [(.sl tC),.bool,tI] (x0,()) Q:=by kernel_rfl
noncomputable def Zb.con:Con:=⟨[.d (.sl tC)],some fun x=>Zb.pre x,fun x=>Zbv [(.sl tC),.bool,tI] (Zb.fn x)⟩
theorem Zb.ok:Zaj prog 75 Zb.con:=Zg (Wp:=fun xs Q=>Zb.wp xs.1 Q) Zat (Zq Zat Zv4 ZwY mixed) (Zbp Tryz.func75 (by kernel_rfl) (by kernel_rfl)) (fun xs Q=>Zb.walk xs.1 Q) fun ⟨x0,_⟩ hl hp=>Zb.spec x0 hp
def Zal.A:An:=.mk [] [] [] [] []
theorem Zal.walk (x0:PS.den (.d tS)) (Q:Zbf [tS,tI]→Prop):Zal.wp x0 Q=fnW τ0 (walk τ0 κ7 φA) Zal.A (Zbq Tryz.f44) [.d tS] [tS,tI] (x0,()) Q:=by kernel_rfl
noncomputable def Zal.con:Con:=⟨[.d tS],none,fun x=>Zbv [tS,tI] (Zal.fn x)⟩
theorem Zal.ok:Zaj prog 44 Zal.con:=Zg (Wp:=fun xs Q=>Zal.wp xs.1 Q) Zat (Zq Zat Zv4 ZbI mixed) (Zbp Tryz.func44 (by kernel_rfl) (by kernel_rfl)) (fun xs Q=>Zal.walk xs.1 Q) fun ⟨x0,_⟩ hl hp=>Zal.spec x0
def Zt.A:An:=.mk [(1000,[.own 8 tI]),(1002,[.own 13 tC]),(1005,[.own 25 (.sl tC)]),(1009,[.own 25 (.sl tC)])] [(0,⟨[.t 41 tI,.row 0 tI],[8],[62,61,52,60,59,58,57,56,55,54,53,51,50,49,48,47,46,45,10,44,43,42],[]⟩),(2,⟨[.t 74 tI,.t 17 tI,.t 15 tI,.t 16 tI,.row 1 tI,.row 2 tC],[14,13],[136,85,84,20,83,82,81,80,79,78,19,77,76,75,130,126,71,129,128,127,122,125,124,123,119,116,118,117,114,111,105,102,101,115,113,112,110,109,108,107,106,104,103,22,100,99,98,97,96,95,94,93,92,91,90,21,89,88,87,86,135,134,131,133,132,121,120],[]⟩),(7,⟨[.t 174 tI,.row 7 tC],[27],[191,190,181,171,189,188,187,186,185,184,183,182,180,179,178,29,177,176,175],[]⟩),(5,⟨[.t 26 tI,.row 6 (.sl tC)],[25],[168,167,195,192,194,193,27,171,175,191,190,181,189,188,187,186,185,184,183,182,180,179,178,29,177,176,174,173,172,169,170,166,165,164],[]⟩),(13,⟨[.t 245 tI,.t 239 tL,.row 20 tC,.cell 18 0 (.sl tI),.cell 18 1 tI],[36],[256,255,249,242,254,253,252,251,250,38,248,247,246],[17]⟩),(11,⟨[.t 34 tI,.row 6 (.sl tC)],[25],[230,229,260,257,259,258,36,242,246,256,255,249,254,253,252,251,250,38,248,247,245,239,244,243,240,241,35,238,237,236,235,234,233,232,231,228,227,226],[]⟩),(9,⟨[.t 205 tI,.row 6 (.sl tC)],[],[261,221,220,219,218,217,216,215,214,213,212,211,210,209,32,208,207,206,228,227,226,230,229,260,257,259,258,36,242,246,256,255,249,254,253,252,251,250,38,248,247,245,239,244,243,240,241,35,238,237,236,235,234,233,232,231,34,33,225,224,223,222],[]⟩)] [] [] []
theorem Zih (x0:PS.den (.d tI)) (x1:PS.den (.d tL)) (x2:PS.den (.d tI)) (x3:PS.den (.d tL)) (Q:List Int×Int→Prop):ZE.wp x0 x1 x2 x3 Q=fnL τ0 (walk τ0 κ0 φA) ZE.A (Zbq Tryz.f82) [.d tI,.d tL,.d tI,.d tL] (x0,x1,x2,x3,()) Q:=by kernel_rfl
theorem Zk8:Zqw prog 82 ⟨[.d tI,.d tL,.d tI,.d tL],ZE.pre,ZE.fn⟩:=Zta (A:=ZE.A) Zat (Zq Zat Zb2 ZbI mixed) (Zbp Tryz.func82 (by kernel_rfl) (by kernel_rfl)) fun ⟨x0,x1,x2,x3,_⟩ hl hp=>Eq.mp (Zih x0 x1 x2 x3 _) (ZE.spec x0 x1 x2 x3 hp)
noncomputable def Zt.κL:List (Nat×CX):=(82,.lin ⟨[.d tI,.d tL,.d tI,.d tL],ZE.pre,ZE.fn⟩)::κL7
noncomputable def Zt.κ:Zaf:=fun n=>ZbU n Zt.κL
theorem Zt.κok:Zay prog Zt.κ:=ZkD (c:=.lin ⟨[.d tI,.d tL,.d tI,.d tL],ZE.pre,ZE.fn⟩) Zk8 (ZrY)
theorem Zt.walk (x0:PS.den (.d (.sl tC))) (x1:PS.den (.d (.sl tC))) (x2:PS.den (.d tI)) (Q:Zbf [(.sl (.sl tC)),tI]→Prop):Zt.wp x0 x1 x2 Q=fnW τ0 (walk τ0 Zt.κ φA) Zt.A (Zbq Tryz.f83) [.d (.sl tC),.d (.sl tC),.d tI] [(.sl (.sl tC)),tI] (x0,x1,x2,()) Q:=by kernel_rfl
noncomputable def Zt.con:Con:=⟨[.d (.sl tC),.d (.sl tC),.d tI],some fun x=>Zt.pre x,fun x=>Zbv [(.sl (.sl tC)),tI] (Zt.fn x)⟩
theorem Zt.ok:Zaj prog 83 Zt.con:=Zg (Wp:=fun xs Q=>Zt.wp xs.1 xs.2.1 xs.2.2.1 Q) Zat (Zq Zat Zt.κok ZbI mixed) (Zbp Tryz.func83 (by kernel_rfl) (by kernel_rfl)) (fun xs Q=>Zt.walk xs.1 xs.2.1 xs.2.2.1 Q) fun ⟨x0,x1,x2,_⟩ hl hp=>Zt.spec x0 x1 x2 hp
noncomputable def κL8:List (Nat×CX):=(75,.con Zb.con)::(44,.con Zal.con)::(83,.con Zt.con)::κL7
theorem ZtD:Zay prog (fun n=>ZbU n κL8):=Zh Zb.ok (Zh Zal.ok (Zh Zt.ok ZrY))
noncomputable def κ8:Zaf:=fun n=>ZbU n κL8
theorem Zt3:Zay prog κ8:=ZtD
def Zab.A:An:=.mk [] [] [] [] [(13,.mk [] [] [] [] [(10,.mk [] [] [] [] [(5000,.mk [(1000,[.ownc 15 0 (.sl tC)])] [(0,⟨[.t 7 tI,.row 20 (.sl tC),.smap 16 .bool],[],[15,14,13,12,11,4,10,9,8],[]⟩)] [] [] [])])])]
theorem Zab.walk (x0:PS.den (.d tS)) (Q:Zbf [tS,tI]→Prop):Zab.wp x0 Q=fnW τ0 (walk τ0 κ8 φA) Zab.A (Zbq Tryz.f40) [.d tS] [tS,tI] (x0,()) Q:=by kernel_rfl
noncomputable def Zab.con:Con:=⟨[.d tS],none,fun x=>Zbv [tS,tI] (Zab.fn x)⟩
theorem Zab.ok:Zaj prog 40 Zab.con:=Zg (Wp:=fun xs Q=>Zab.wp xs.1 Q) Zat (Zq Zat Zt3 ZbI mixed) (Zbp Tryz.func40 (by kernel_rfl) (by kernel_rfl)) (fun xs Q=>Zab.walk xs.1 Q) fun ⟨x0,_⟩ hl hp=>Zab.spec x0
def ZR.A:An:=.mk [(10,[.nxt 60]),(2,[.frzl 2,.frzl 4,.frzl 5,.frzl 6])] [] [] [] [(41,.mk [] [] [] [] [(5000,.mk [(1000,[.ownc 62 0 (.sl tC)])] [(0,⟨[.t 8 tI,.row 67 (.sl tC),.smap 63 .bool],[],[16,15,14,13,12,4,11,10,9],[]⟩)] [] [] [(6,.mk [(4,[.frzl 3]),(1000,[.ownc 62 0 (.sl tC)]),(1002,[.ownc 62 0 (.sl tC)])] [(0,⟨[.t 40 tI,.row 70 (.sl tC),.smap 63 .bool],[],[54,53,52,51,50,49,48,47,46,45,44,43,9,42,41],[]⟩),(4,⟨[.t 74 tI,.row 70 (.sl tC),.smap 63 .bool],[],[98,97,96,95,94,93,92,91,90,89,88,87,86,85,84,13,83,82,81,80,79,78,77,12,76,75],[]⟩),(2,⟨[.t 58 tI,.row 70 (.sl tC),.smap 63 .bool],[],[99,72,71,70,69,68,67,66,65,64,63,62,11,61,60,59,75,98,97,96,95,94,93,92,91,90,89,88,87,86,85,84,13,83,82,81,80,79,78,77,12,76,74,73],[]⟩)] [] [] [(15,.mk [(1000,[.own 5 tI])] [(0,⟨[.t 17 tI,.row 68 tI],[5],[30,29,21,28,27,26,25,24,23,22,7,20,19,18],[]⟩),(2,⟨[.t 45 tI,.row 69 tI,.row 3 (.pair tC (.pair tI tL))],[8],[96,95,88,39,94,93,92,91,90,89,87,86,85,84,83,82,81,80,79,78,77,76,75,74,73,72,71,70,69,68,67,66,65,64,63,62,61,60,59,58,11,57,56,55,54,53,52,51,50,9,10,49,48,47,46],[]⟩)] [] [] [])])])]),(18,.mk [(1000,[.ownc 1 1 tC,.ownc 1 2 (.pair tC (.pair tI tL)),.ownc 1 4 (.pair tC (.pair tI tL)),.ownc 1 5 (.pair tC (.pair tI tL)),.ownc 1 6 (.pair tC (.pair tI tL))])] [(0,⟨[.t 18 tI,.cell 1 0 tI,.cell 1 3 tI,.row 2 tC,.row 3 (.pair tC (.pair tI tL)),.row 6 (.pair tC (.pair tI tL)),.row 4 (.pair tC (.pair tI tL)),.row 5 (.pair tC (.pair tI tL))],[],[122,52,51,43,50,49,48,33,29,47,46,45,44,42,41,40,11,39,38,37,36,35,34,10,32,31,30,28,27,26,25,24,23,22,9,21,20,19,121,120,117,94,87,86,83,80,79,76,119,118,56,55,116,96,95,93,92,91,90,89,88,85,84,82,81,78,77,75,74,73,72,71,70,69,68,67,63,66,65,64,12,54,53,106,105,102,104,103,101,97,100,99,98,115,114,111,113,112,110,107,109,108,62,61,58,60,59,57],[]⟩)] [] [] []),(35,.mk [] [(2,⟨[.t 21 tI],[],[33,32,31,30,29,28,27,26,25,6,24,23,22],[]⟩),(0,⟨[.t 14 tI],[],[34,22,33,32,31,30,29,28,27,26,25,6,24,23,21,20,19,18,4,17,16,15],[]⟩)] [] [] [])]
theorem ZR.walk (x0:PS.den (.d (.sl tC))) (x1:PS.den (.d tI)) (x2:PS.den (.d tI)) (Q:Zbf [(.sl (.sl tC)),tI]→Prop):ZR.wp x0 x1 x2 Q=fnW τ0 (walk τ0 κ8 φA) ZR.A (Zbq Tryz.f41) [.d (.sl tC),.d tI,.d tI] [(.sl (.sl tC)),tI] (x0,x1,x2,()) Q:=by kernel_rfl
noncomputable def ZR.con:Con:=⟨[.d (.sl tC),.d tI,.d tI],some fun x=>ZR.pre x,fun x=>Zbv [(.sl (.sl tC)),tI] (ZR.fn x)⟩
theorem ZR.ok:Zaj prog 41 ZR.con:=Zg (Wp:=fun xs Q=>ZR.wp xs.1 xs.2.1 xs.2.2.1 Q) Zat (Zq Zat Zt3 ZbI mixed) (Zbp Tryz.func41 (by kernel_rfl) (by kernel_rfl)) (fun xs Q=>ZR.walk xs.1 xs.2.1 xs.2.2.1 Q) fun ⟨x0,x1,x2,_⟩ hl hp=>ZR.spec x0 x1 x2 hp
def Z2.A:An:=.mk [(1000,[.own 8 tC,.own 11 tC,.own 9 tC,.own 10 tC])] [(0,⟨[.t 28 tI,.t 12 tI,.row 0 tC,.row 1 tC,.row 2 tC,.row 3 tC],[8,11,9,10],[95,57,46,56,55,54,53,52,51,50,49,48,47,43,45,44,15,38,37,36,35,34,33,13,14,32,31,30,29,79,78,77,76,75,74,73,72,71,70,69,68,67,66,65,64,63,62,58,61,60,59,87,84,86,85,80,83,82,81,94,91,93,92,88,90,89,42,39,41,40],[]⟩),(5,⟨[.t 135 tI,.t 16 .bool],[],[158,157,156,155,154,153,152,151,150,149,148,147,146,145,144,143,142,141,140,139,20,138,137,136],[]⟩),(3,⟨[.t 129 tI,.t 16 .bool],[],[159,136,158,157,156,155,154,153,152,151,150,149,148,147,146,145,144,143,142,141,140,139,20,138,137,135,134,133,18,132,131,130],[]⟩),(9,⟨[.t 170 tI,.row 0 tC],[21],[200,199,174,161,8,198,197,196,195,194,193,192,191,190,189,188,187,186,185,184,183,182,181,180,179,178,177,176,175,25,173,172,171],[]⟩),(7,⟨[.t 164 tI,.row 0 tC],[],[201,171,200,199,174,161,8,198,197,196,195,194,193,192,191,190,189,188,187,186,185,184,183,182,181,180,179,178,177,176,175,25,173,172,170,169,168,23,167,166,165],[]⟩)] [] [] []
theorem Z2.walk (x0:PS.den (.d (.sl tC))) (x1:PS.den (.d tI)) (x2:PS.den (.d tI)) (Q:Zbf [(.sl (.sl tC)),tI]→Prop):Z2.wp x0 x1 x2 Q=fnW τ0 (walk τ0 κ8 φA) Z2.A (Zbq Tryz.f45) [.d (.sl tC),.d tI,.d tI] [(.sl (.sl tC)),tI] (x0,x1,x2,()) Q:=by kernel_rfl
noncomputable def Z2.con:Con:=⟨[.d (.sl tC),.d tI,.d tI],some fun x=>Z2.pre x,fun x=>Zbv [(.sl (.sl tC)),tI] (Z2.fn x)⟩
theorem Z2.ok:Zaj prog 45 Z2.con:=Zg (Wp:=fun xs Q=>Z2.wp xs.1 xs.2.1 xs.2.2.1 Q) Zat (Zq Zat Zt3 ZbI mixed) (Zbp Tryz.func45 (by kernel_rfl) (by kernel_rfl)) (fun xs Q=>Z2.walk xs.1 xs.2.1 xs.2.2.1 Q) fun ⟨x0,x1,x2,_⟩ hl hp=>Z2.spec x0 x1 x2 hp
noncomputable def κL9:List (Nat×CX):=(40,.con Zab.con)::(41,.con ZR.con)::(45,.con Z2.con)::κL8
theorem Zqx:Zay prog (fun n=>ZbU n κL9):=Zh Zab.ok (Zh ZR.ok (Zh Z2.ok ZtD))
noncomputable def κ9:Zaf:=fun n=>ZbU n κL9
theorem Zvt:Zay prog κ9:=Zqx
def Za8.A:An:=.mk [(1000,[.own 8 (.sl tC)])] [(0,⟨[.t 39 tI,.row 3 (.sl tC)],[8],[58,57,55,56,52,51,12,11,50,49,43,48,47,46,45,44,10,42,41,40],[]⟩)] [] [] [(62,.mk [] [] [] [] [(5000,.mk [(1000,[.ownc 6 0 (.sl tC)])] [(0,⟨[.t 7 tI,.row 11 (.sl tC),.smap 7 .bool],[],[15,14,13,12,11,4,10,9,8],[]⟩)] [] [] [])])]
theorem Za8.walk (x0:PS.den (.d tS)) (x1:PS.den (.d tI)) (Q:Zbf [tS,tI]→Prop):Za8.wp x0 x1 Q=fnW τ0 (walk τ0 κ9 φA) Za8.A (Zbq Tryz.f14) [.d tS,.d tI] [tS,tI] (x0,x1,()) Q:=by kernel_rfl
noncomputable def Za8.con:Con:=⟨[.d tS,.d tI],none,fun x=>Zbv [tS,tI] (Za8.fn x)⟩
theorem Za8.ok:Zaj prog 14 Za8.con:=Zg (Wp:=fun xs Q=>Za8.wp xs.1 xs.2.1 Q) Zat (Zq Zat Zvt ZbI mixed) (Zbp Tryz.func14 (by kernel_rfl) (by kernel_rfl)) (fun xs Q=>Za8.walk xs.1 xs.2.1 Q) fun ⟨x0,x1,_⟩ hl hp=>Za8.spec x0 x1
def Zv.A:An:=.mk [] [(0,⟨[.t 28 tI],[],[46,43,42,41,40,39,11,10,38,37,32,36,35,34,33,9,31,30,29],[]⟩)] [] [] []
noncomputable def Zv.conN (N:Nat):Con:=⟨[.d (.sl tC),.d tI],some fun x=>Zv.preN N x,fun x=>Zbv [.bool,tI] (Zv.fn x)⟩
noncomputable def Zv.κs (N:Nat):Zaf:=fun n=>ZbU n ((48,.con (Zv.conN N))::κL9)
theorem Zv.walk (N:Nat) (x0:PS.den (.d (.sl tC))) (x1:PS.den (.d tI)) (Q:Zbf [.bool,tI]→Prop):Zv.wp N x0 x1 Q=fnW τ0 (walk τ0 (Zv.κs N) φA) Zv.A (Zbq Tryz.f48) [.d (.sl tC),.d tI] [.bool,tI] (x0,x1,()) Q:=by kernel_rfl
theorem Zv.okN:∀ N,Zaj prog 48 (Zv.conN N)
 | 0=>⟨(Zbp Tryz.func48 (by kernel_rfl) (by kernel_rfl)).call,fun w S xs hS hp=>absurd (show Zv.preN 0 xs from hp) (Zv.none xs)⟩
 | N+1=>Zg (Wp:=fun xs Q=>Zv.wp N xs.1 xs.2.1 Q) Zat (Zq Zat (Zh (Zv.okN N) Zqx) ZbI mixed) (Zbp Tryz.func48 (by kernel_rfl) (by kernel_rfl)) (fun xs Q=>Zv.walk N xs.1 xs.2.1 Q) fun ⟨x0,x1,_⟩ hl hp=>Zv.spec N x0 x1 hp
noncomputable def Zv.con:Con:=⟨[.d (.sl tC),.d tI],some fun x=>Zv.pre x,fun x=>Zbv [.bool,tI] (Zv.fn x)⟩
theorem Zv.ok:Zaj prog 48 Zv.con:=⟨(Zv.okN 0).1,fun w S xs hS hp=>let ⟨N,h⟩:=Zv.some_ xs hp;(Zv.okN N).2 w S xs hS h⟩
noncomputable def φR (N:Nat):Nat→Option FX:=fun n=>Zch n ((85,.sp (.self (Zr3 85 (Zd5 N) ZcZ)))::Zu2)
def Za6.A:An:=.mk [] [(0,⟨[.t 44 tI,.smap 2 .bool],[],[62,60,61,56,58,57,17,16,55,54,48,53,23,52,51,50,49,15,47,46,45],[]⟩)] [] [] []
theorem Za6.walk (N:Nat) (x0:List Zc) (x1:Int) (x2:ByteArray→Option Bool) (Q:Bool×Int→(ByteArray→Option Bool)→Prop):Za6.wp N x0 x1 x2 Q=Zwk τ0 (walk τ0 κ9 (φR N)) Za6.A (Zbq Tryz.f85) (Zr3 85 (Zd5 (N+1)) ZcZ) (x0,x1) x2 (fun r b=>Q r b):=by kernel_rfl
theorem Za6.okN:∀ N,Sp.Ok prog 85 (.self (Zr3 85 (Zd5 N) ZcZ))
 | 0=>⟨Zk4 _ _ _,(Zbp Tryz.func85 (by kernel_rfl) (by kernel_rfl)).call,fun E objs vs ks a b g hg hp=>absurd (show Zd5 0 a b from hp) (Zsc a b)⟩
 | N+1=>Ztc Zat (Zq Zat Zvt (Zbs (f:=85) (x:=.sp (.self (Zr3 85 (Zd5 N) ZcZ))) (Za6.okN N) ZrZ) mixed) (Zbp Tryz.func85 (by kernel_rfl) (by kernel_rfl)) (Zk4 _ _ _) fun a b hp=>Eq.mp (Za6.walk N a.1 a.2 b _) (Za6.spec N a.1 a.2 b hp)
theorem Za6.ok:Sp.Ok prog 85 (.self (Zr3 85 ZjG ZcZ)):=⟨Zk4 _ _ _,(Za6.okN 0).2.1,fun E objs vs ks a b g hg hp cs rv=>let ⟨N,h⟩:=Zse a b hp;(Za6.okN N).2.2 E objs vs ks a b g hg h cs rv⟩
noncomputable def φE:Nat→Option FX:=fun n=>Zch n ((85,.sp (.self (Zr3 85 ZjG ZcZ)))::Zu2)
theorem Zxa:∀ g fx,φE g=some fx→fx.Ok prog g:=Zbs (f:=85) (x:=.sp (.self (Zr3 85 ZjG ZcZ))) Za6.ok ZrZ
noncomputable def Zwu:List (Nat×CX):=(14,.con Za8.con)::(48,.con Zv.con)::κL9
theorem Zqz:Zay prog (fun n=>ZbU n Zwu):=Zh Za8.ok (Zh Zv.ok Zqx)
noncomputable def κ10:Zaf:=fun n=>ZbU n Zwu
theorem ZtE:Zay prog κ10:=Zqz
def ZV.A:An:=.mk [] [(0,⟨[.t 26 tI,.smap 2 .bool],[],[44,42,41,40,39,38,10,9,37,36,30,35,34,33,32,31,8,29,28,27],[]⟩)] [] [] []
theorem ZV.walk (x0:PS.den (.d tS)) (Q:Zbf [.bool,tI]→Prop):ZV.wp x0 Q=fnW τ0 (walk τ0 κ10 φE) ZV.A (Zbq Tryz.f18) [.d tS] [.bool,tI] (x0,()) Q:=by kernel_rfl
noncomputable def ZV.con:Con:=⟨[.d tS],none,fun x=>Zbv [.bool,tI] (ZV.fn x)⟩
theorem ZV.ok:Zaj prog 18 ZV.con:=Zg (Wp:=fun xs Q=>ZV.wp xs.1 Q) Zat (Zq Zat ZtE Zxa mixed) (Zbp Tryz.func18 (by kernel_rfl) (by kernel_rfl)) (fun xs Q=>ZV.walk xs.1 Q) fun ⟨x0,_⟩ hl hp=>ZV.spec x0
def ZT.A:An:=.mk [] [(0,⟨[.t 24 tI],[],[41,39,38,37,36,35,9,8,34,33,28,32,31,30,29,7,27,26,25],[]⟩)] [] [] []
theorem ZT.walk (x0:PS.den (.d tS)) (Q:Zbf [.bool,tI]→Prop):ZT.wp x0 Q=fnW τ0 (walk τ0 κ10 φA) ZT.A (Zbq Tryz.f19) [.d tS] [.bool,tI] (x0,()) Q:=by kernel_rfl
noncomputable def ZT.con:Con:=⟨[.d tS],none,fun x=>Zbv [.bool,tI] (ZT.fn x)⟩
theorem ZT.ok:Zaj prog 19 ZT.con:=Zg (Wp:=fun xs Q=>ZT.wp xs.1 Q) Zat (Zq Zat ZtE ZbI mixed) (Zbp Tryz.func19 (by kernel_rfl) (by kernel_rfl)) (fun xs Q=>ZT.walk xs.1 Q) fun ⟨x0,_⟩ hl hp=>ZT.spec x0
noncomputable def Zws:List (Nat×CX):=(18,.con ZV.con)::(19,.con ZT.con)::Zwu
theorem ZqE:Zay prog (fun n=>ZbU n Zws):=Zh ZV.ok (Zh ZT.ok Zqz)
noncomputable def κ11:Zaf:=fun n=>ZbU n Zws
theorem Zv6:Zay prog κ11:=ZqE
def ZB.A:An:=.mk [] [] [] [] []
theorem ZB.walk  (Q:Zbf [.bool]→Prop):ZB.wp  Q=fnW τ0 (walk τ0 κ11 φA) ZB.A (Zbq Tryz.f13) [] [.bool] (()) Q:=by kernel_rfl
noncomputable def ZB.con:Con:=⟨[],none,fun x=>Zbv [.bool] (ZB.fn x)⟩
theorem ZB.ok:Zaj prog 13 ZB.con:=Zg (Wp:=fun xs Q=>ZB.wp  Q) Zat (Zq Zat Zv6 ZbI mixed) (Zbp Tryz.func13 (by kernel_rfl) (by kernel_rfl)) (fun xs Q=>ZB.walk  Q) fun () hl hp=>by first | exact ZB.spec   | exact ZB.spec  hp | exact ZB.spec  hl.1 | exact ZB.spec  hl.1 hp | exact ZB.spec  hl.1.1 | exact ZB.spec  hl.1.1 hp | exact ZB.spec  hl.1.1.1 | exact ZB.spec  hl.1.1.1 hp | exact ZB.spec  hl.1.2.1 | exact ZB.spec  hl.1.2.1 hp | exact ZB.spec  hl.2.1 | exact ZB.spec  hl.2.1 hp | exact ZB.spec  hl.2.1.1 | exact ZB.spec  hl.2.1.1 hp | exact ZB.spec  hl.2.1.1.1 | exact ZB.spec  hl.2.1.1.1 hp | exact ZB.spec  hl.2.2.1.1 (fun s hs=>(hl.2.2.1.2 s hs).2.1) | exact ZB.spec  hl.2.2.2.1.1 (fun s hs=>⟨(hl.2.2.2.1.2 s hs).2.1,fun p hp=>⟨((hl.2.2.2.1.2 s hs).2.2 p hp).1,fun c hc=>(((hl.2.2.2.1.2 s hs).2.2 p hp).2 c hc).2.2.1.1⟩⟩)
noncomputable def ZwQ:List (Nat×CX):=(13,.con ZB.con)::Zws
theorem Zt5:Zay prog (fun n=>ZbU n ZwQ):=Zh ZB.ok ZqE
noncomputable def κ12:Zaf:=fun n=>ZbU n ZwQ
theorem Zv7:Zay prog κ12:=Zt5
def law05_ElimEmpty.A:An:=.mk [] [] [] [] []
theorem law05_ElimEmpty.walk (x0:PS.den (.d tS)) (Q:Zbf [.bool]→Prop):law05_ElimEmpty.wp x0 Q=fnW τ0 (walk τ0 κ12 φA) law05_ElimEmpty.A (Zbq Tryz.f4) [.d tS] [.bool] (x0,()) Q:=by kernel_rfl
theorem law05_ElimEmpty.calls (x0:PS.den (.d tS)) {W:World} (hS:Sok prog W (ZtZ W)) {args:Array Value} (hr:Zbr prog (Zst W) (Zjw [.d tS] (x0,())) args.toList):Calls prog 4 args W fun e w'=>e=.returned (.bool true)∧RowKit.Below W.heap.size W w' :=
 Zqb Zat (Zq Zat Zv7 ZbI mixed) (Zbp Tryz.func4 (by kernel_rfl) (by kernel_rfl)) (law05_ElimEmpty.walk x0 _) (law05_ElimEmpty.spec x0) hS hr
end Go.Proofs.YtgpdnmfpgkkgcaaGreatDoor
