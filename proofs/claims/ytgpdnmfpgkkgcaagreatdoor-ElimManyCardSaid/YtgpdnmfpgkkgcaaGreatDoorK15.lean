/- Part of a proof that a law of the program holds for every input: printed by a program of this work: how the functions are walked. No conditions. -/
import Derived.Test.YtgpdnmfpgkkgcaaGreatDoorP14
namespace Go.Proofs.YtgpdnmfpgkkgcaaGreatDoor
open Go
set_option linter.unusedVariables false
set_option maxRecDepth 8000
set_option maxHeartbeats 4000000
abbrev tI:Ty:=.int .i64
abbrev tC:Ty:=(.pair (.int .i64) (.pair (.int .i64) (.pair (.sl (.int .i64)) (.int .i64))))
abbrev tS:Ty:=.pair (.int .i64) (.sl (.sl tC))
abbrev tL:Ty:=.pair (.sl (.int .i64)) (.int .i64)
noncomputable def φL0:List (Nat×FX):=[]
theorem ZxM:∀ g fx,(fun n=>Zcj n φL0) g=some fx→fx.Ok prog g:=ZsL
noncomputable def φL1:List (Nat×FX):=(77,.fi (ZjB Tryz.f77))::φL0
theorem Zxu:∀ g fx,(fun n=>Zcj n φL1) g=some fx→fx.Ok prog g:=Zbj (Zbd Tryz.func77 (by kernel_rfl) (by kernel_rfl)) ZxM
noncomputable def φL2:List (Nat×FX):=(110,.fi (ZjB Tryz.f110))::φL1
theorem ZxD:∀ g fx,(fun n=>Zcj n φL2) g=some fx→fx.Ok prog g:=Zbj (Zbd Tryz.func110 (by kernel_rfl) (by kernel_rfl)) Zxu
noncomputable def φL3:List (Nat×FX):=(113,.fi (ZjB Tryz.f113))::φL2
theorem Zxt:∀ g fx,(fun n=>Zcj n φL3) g=some fx→fx.Ok prog g:=Zbj (Zbd Tryz.func113 (by kernel_rfl) (by kernel_rfl)) ZxD
noncomputable def φL4:List (Nat×FX):=(42,.fi (ZjB Tryz.f42))::φL3
theorem ZxK:∀ g fx,(fun n=>Zcj n φL4) g=some fx→fx.Ok prog g:=Zbj (Zbd Tryz.func42 (by kernel_rfl) (by kernel_rfl)) Zxt
noncomputable def φL5:List (Nat×FX):=(66,.fi (ZjB Tryz.f66))::φL4
theorem ZxC:∀ g fx,(fun n=>Zcj n φL5) g=some fx→fx.Ok prog g:=Zbj (Zbd Tryz.func66 (by kernel_rfl) (by kernel_rfl)) ZxK
noncomputable def φL6:List (Nat×FX):=(67,.fi (ZjB Tryz.f67))::φL5
theorem ZxQ:∀ g fx,(fun n=>Zcj n φL6) g=some fx→fx.Ok prog g:=Zbj (Zbd Tryz.func67 (by kernel_rfl) (by kernel_rfl)) ZxC
noncomputable def φL7:List (Nat×FX):=(69,.fi (ZjB Tryz.f69))::φL6
theorem ZxP:∀ g fx,(fun n=>Zcj n φL7) g=some fx→fx.Ok prog g:=Zbj (Zbd Tryz.func69 (by kernel_rfl) (by kernel_rfl)) ZxQ
noncomputable def φL8:List (Nat×FX):=(101,.fi (ZjB Tryz.f101))::φL7
theorem ZxE:∀ g fx,(fun n=>Zcj n φL8) g=some fx→fx.Ok prog g:=Zbj (Zbd Tryz.func101 (by kernel_rfl) (by kernel_rfl)) ZxP
noncomputable def φL9:List (Nat×FX):=(103,.fi (ZjB Tryz.f103))::φL8
theorem Zxy:∀ g fx,(fun n=>Zcj n φL9) g=some fx→fx.Ok prog g:=Zbj (Zbd Tryz.func103 (by kernel_rfl) (by kernel_rfl)) ZxE
noncomputable def Zxh:List (Nat×FX):=(73,.fi (ZjB Tryz.f73))::φL9
theorem ZwO:∀ g fx,(fun n=>Zcj n Zxh) g=some fx→fx.Ok prog g:=Zbj (Zbd Tryz.func73 (by kernel_rfl) (by kernel_rfl)) Zxy
noncomputable def Zxo:List (Nat×FX):=(72,.fi (ZjB Tryz.f72))::Zxh
theorem ZwR:∀ g fx,(fun n=>Zcj n Zxo) g=some fx→fx.Ok prog g:=Zbj (Zbd Tryz.func72 (by kernel_rfl) (by kernel_rfl)) ZwO
noncomputable def Zxf:List (Nat×FX):=(74,.fi (ZjB Tryz.f74))::Zxo
theorem ZwM:∀ g fx,(fun n=>Zcj n Zxf) g=some fx→fx.Ok prog g:=Zbj (Zbd Tryz.func74 (by kernel_rfl) (by kernel_rfl)) ZwR
noncomputable def Zvt:List (Nat×FX):=(47,.fi (ZjB Tryz.f47))::Zxf
theorem Zrg:∀ g fx,(fun n=>Zcj n Zvt) g=some fx→fx.Ok prog g:=Zbj (Zbd Tryz.func47 (by kernel_rfl) (by kernel_rfl)) ZwM
noncomputable def φA:Nat→Option FX:=fun n=>Zcj n Zvt
theorem ZlH:∀ g fx,φA g=some fx→fx.Ok prog g:=Zrg
noncomputable def φC:Nat→Option FX:=fun n=>Zcj n ((115,.sp .appInt)::Zvt)
theorem Zxb:∀ g fx,φC g=some fx→fx.Ok prog g:=Zbj ZwV Zrg
noncomputable def κL0:List (Nat×CX):=(68,.clo 69)::κR
theorem ZtV:Zad prog (fun n=>ZbW n κL0):=ZkH (c:=.clo 69) (Zti (Zbd Tryz.func68 (by kernel_rfl) (by kernel_rfl)) rfl) (ZwS)
noncomputable def κ0:ZY:=fun n=>ZbW n κL0
theorem ZrC:Zad prog κ0:=ZtV
theorem Zfm:Zcb prog (walk τ0 κ0 φA):=Zby Za7 ZrC ZlH mixed
theorem ZxB:Zcb prog (walk τ0 κ0 φC):=Zby Za7 ZrC Zxb mixed
theorem Zxs:Zcb prog (walk τw κ0 φA):=Zby Zxj ZrC ZlH mixed
noncomputable def ZbF.con:Con:=⟨[.d tI],none,fun x=>Zbl [.bool] (ZbF.fn x)⟩
theorem ZbF.ok:ZW prog 138 ZbF.con:=Zf (A:=.mk [] [] [] [] []) (Wp:=fun xs Q=>ZbF.wp xs.1 Q) Za7 Zfm (Zbd Tryz.func138 (by kernel_rfl) (by kernel_rfl)) (fun xs Q=>by kernel_rfl) fun ⟨x0,_⟩ hl hp=>ZbF.spec x0
noncomputable def ZF.con:Con:=⟨[.d (.sl (.sl tC))],none,fun x=>.fn (.func 77) [] [.er [.d (.sl (.sl tC)) x.1]]⟩
theorem ZF.val(xs:Zb9 [.d (.sl (.sl tC))])(Q:V→Prop):Q (ZF.con.res xs)=fnV τ0 (walk τ0 κ0 φA) An.none (ZjB Tryz.f43) [.d (.sl (.sl tC))] xs Q:=by kernel_rfl
theorem ZF.ok:ZW prog 43 ZF.con:=Zmi Za7 (Zby Za7 ZrC ZlH mixed) (Zbd Tryz.func43 (by kernel_rfl) (by kernel_rfl)) fun xs _ _=>Eq.mp (ZF.val xs _) rfl
noncomputable def Zg.con:Con:=⟨[.d (.sl tC),.f [tC] [.bool]],some fun x=>Zg.pre x,fun x=>Zbl [tI] (Zg.fn x)⟩
theorem Zg.ok:ZW prog 122 Zg.con:=Zf (A:=.mk [] [(0,⟨[.t 8 tI],[],[18,16,15,14,13,12,11,5,10,9],[]⟩)] [] [] []) (Wp:=fun xs Q=>Zg.wp xs.1 xs.2.1 Q) Za7 Zfm (Zbd Tryz.func122 (by kernel_rfl) (by kernel_rfl)) (fun xs Q=>by kernel_rfl) fun ⟨x0,x1,_⟩ hl hp=>Zg.spec x0 x1 hl.1.1 hp
noncomputable def ZC.con:Con:=⟨[.d (.sl tI),.d (.int .u64),.f [(.int .u64),tI] [(.int .u64)]],some fun x=>ZC.pre x,fun x=>Zbl [(.int .u64)] (ZC.fn x)⟩
theorem ZC.ok:ZW prog 146 ZC.con:=Zf (A:=.mk [] [(0,⟨[.t 11 tI,.t 1 (.int .u64)],[],[19,18,17,16,15,8,14,13,12],[]⟩)] [] [] []) (Wp:=fun xs Q=>ZC.wp xs.1 xs.2.1 xs.2.2.1 Q) Za7 Zfm (Zbd Tryz.func146 (by kernel_rfl) (by kernel_rfl)) (fun xs Q=>by kernel_rfl) fun ⟨x0,x1,x2,_⟩ hl hp=>ZC.spec x0 x1 x2 hl.1.1 hp
noncomputable def Z8.con:Con:=⟨[.d (.int .u64),.d (.int .u64)],none,fun x=>Zbl [(.int .u64)] (Z8.fn x)⟩
theorem Z8.ok:ZW prog 148 Z8.con:=Zf (A:=.mk [] [(0,⟨[.t 1 (.int .u64),.t 0 (.int .u64)],[],[10,9,8,7,6,5],[]⟩)] [] [] []) (Wp:=fun xs Q=>Z8.wp xs.1 xs.2.1 Q) Za7 Zfm (Zbd Tryz.func148 (by kernel_rfl) (by kernel_rfl)) (fun xs Q=>by kernel_rfl) fun ⟨x0,x1,_⟩ hl hp=>Z8.spec x0 x1
noncomputable def Zbh.con:Con:=⟨[.d tI],none,fun x=>Zbl [(.int .u64)] (Zbh.fn x)⟩
theorem Zbh.ok:ZW prog 184 Zbh.con:=Zf (A:=.mk [] [] [] [] []) (Wp:=fun xs Q=>Zbh.wp xs.1 Q) Za7 Zfm (Zbd Tryz.func184 (by kernel_rfl) (by kernel_rfl)) (fun xs Q=>by kernel_rfl) fun ⟨x0,_⟩ hl hp=>Zbh.spec x0
noncomputable def ZaS.con:Con:=⟨[.d .bool],none,fun x=>Zbl [tC,tI] (ZaS.fn x)⟩
theorem ZaS.ok:ZW prog 170 ZaS.con:=Zf (A:=.mk [] [] [] [] []) (Wp:=fun xs Q=>ZaS.wp xs.1 Q) Za7 Zfm (Zbd Tryz.func170 (by kernel_rfl) (by kernel_rfl)) (fun xs Q=>by kernel_rfl) fun ⟨x0,_⟩ hl hp=>ZaS.spec x0
noncomputable def Zas.con:Con:=⟨[.d tI,.d tI],some fun x=>Zas.pre x,fun x=>Zbl [tI,tI] (Zas.fn x)⟩
theorem Zas.ok:ZW prog 171 Zas.con:=Zf (A:=.mk [] [] [] [] []) (Wp:=fun xs Q=>Zas.wp xs.1 xs.2.1 Q) Za7 Zfm (Zbd Tryz.func171 (by kernel_rfl) (by kernel_rfl)) (fun xs Q=>by kernel_rfl) fun ⟨x0,x1,_⟩ hl hp=>Zas.spec x0 x1 hp
noncomputable def Zx.con:Con:=⟨[.d tC,.d tI],some fun x=>Zx.pre x,fun x=>Zbl [(.sl tI)] (Zx.fn x)⟩
theorem Zx.ok:ZW prog 172 Zx.con:=Zf (A:=.mk [] [(0,⟨[.t 19 tI,.row 1 tI],[],[30,29,28,27,26,25,24,7,6,23,22,21,20],[]⟩)] [] [] []) (Wp:=fun xs Q=>Zx.wp xs.1 xs.2.1 Q) Za7 Zfm (Zbd Tryz.func172 (by kernel_rfl) (by kernel_rfl)) (fun xs Q=>by kernel_rfl) fun ⟨x0,x1,_⟩ hl hp=>Zx.spec x0 x1 hp
noncomputable def Zba.con:Con:=⟨[.d tI,.d tI],some fun x=>Zba.pre x,fun x=>Zbl [tI,tI] (Zba.fn x)⟩
theorem Zba.ok:ZW prog 173 Zba.con:=Zf (A:=.mk [] [] [] [] []) (Wp:=fun xs Q=>Zba.wp xs.1 xs.2.1 Q) Za7 Zfm (Zbd Tryz.func173 (by kernel_rfl) (by kernel_rfl)) (fun xs Q=>by kernel_rfl) fun ⟨x0,x1,_⟩ hl hp=>Zba.spec x0 x1 hp
noncomputable def ZaE.con:Con:=⟨[.d (.sl tI),.d tI],some fun x=>ZaE.pre x,fun x=>Zbl [.str] (ZaE.fn x)⟩
theorem ZaE.ok:ZW prog 116 ZaE.con:=Zf (A:=.mk [(1000,[.own 5 (.int .u8)])] [(0,⟨[.t 10 tI,.row 0 (.int .u8)],[5],[22,21,19,18,20,14,17,16,15,7,13,12,11],[]⟩)] [] [] []) (Wp:=fun xs Q=>ZaE.wp xs.1 xs.2.1 Q) Za7 ZxB (Zbd Tryz.func116 (by kernel_rfl) (by kernel_rfl)) (fun xs Q=>by kernel_rfl) fun ⟨x0,x1,_⟩ hl hp=>ZaE.spec x0 x1 hp
noncomputable def Zbm.con:Con:=⟨[.d (.sl tI)],none,fun x=>Zbl [tI] (Zbm.fn x)⟩
theorem Zbm.ok:ZW prog 134 Zbm.con:=Zf (A:=.mk [] [(0,⟨[.t 8 tI],[],[16,14,13,12,5,11,10,9],[]⟩)] [] [] []) (Wp:=fun xs Q=>Zbm.wp xs.1 Q) Za7 Zfm (Zbd Tryz.func134 (by kernel_rfl) (by kernel_rfl)) (fun xs Q=>by kernel_rfl) fun ⟨x0,_⟩ hl hp=>Zbm.spec x0 hl.1.1
noncomputable def Zab.con:Con:=⟨[.d tI],none,fun x=>Zbl [.bool] (Zab.fn x)⟩
theorem Zab.ok:ZW prog 162 Zab.con:=Zf (A:=.mk [] [] [] [] []) (Wp:=fun xs Q=>Zab.wp xs.1 Q) Za7 Zfm (Zbd Tryz.func162 (by kernel_rfl) (by kernel_rfl)) (fun xs Q=>by kernel_rfl) fun ⟨x0,_⟩ hl hp=>Zab.spec x0
noncomputable def ZJ.con:Con:=⟨[.d tI,.d tL,.d tI,.d tL],some fun x=>ZJ.pre x,fun x=>Zbl [tL] (ZJ.fn x)⟩
theorem ZJ.ok:ZW prog 102 ZJ.con:=Zf (A:=.mk [] [(0,⟨[.t 28 tI,.row 6 tI],[],[50,49,48,47,46,45,44,43,42,41,40,39,38,37,36,35,34,33,32,31,10,30,29],[]⟩)] [] [] []) (Wp:=fun xs Q=>ZJ.wp xs.1 xs.2.1 xs.2.2.1 xs.2.2.2.1 Q) Za7 Zfm (Zbd Tryz.func102 (by kernel_rfl) (by kernel_rfl)) (fun xs Q=>by kernel_rfl) fun ⟨x0,x1,x2,x3,_⟩ hl hp=>ZJ.spec x0 x1 x2 x3 hp
noncomputable def Zah.con:Con:=⟨[.d tL,.d tI],some fun x=>Zah.pre x,fun x=>Zbl [tL] (Zah.fn x)⟩
theorem Zah.ok:ZW prog 105 Zah.con:=Zf (A:=.mk [] [] [] [] []) (Wp:=fun xs Q=>Zah.wp xs.1 xs.2.1 Q) Za7 Zfm (Zbd Tryz.func105 (by kernel_rfl) (by kernel_rfl)) (fun xs Q=>by kernel_rfl) fun ⟨x0,x1,_⟩ hl hp=>Zah.spec x0 x1 hp
noncomputable def Zan.con:Con:=⟨[.d (.sl tC),.d tI],some fun x=>Zan.pre x,fun x=>Zbl [tI] (Zan.fn x)⟩
theorem Zan.ok:ZW prog 58 Zan.con:=Zf (A:=.mk [] [(2,⟨[.t 29 tI,.t 5 tI,.t 6 tI,.row 1 tI,.row 3 tI],[],[77,34,36,35,12,11,33,32,31,30,52,51,50,49,48,47,46,45,44,43,42,41,37,40,39,38,66,65,64,63,62,61,53,60,59,58,57,56,55,54,76,75,74,73,72,71,67,70,69,68],[]⟩),(0,⟨[.t 21 tI,.t 5 tI,.t 6 tI,.row 1 tI,.row 3 tI],[],[78,30,77,34,36,35,12,11,33,32,31,52,51,50,49,48,47,46,45,44,43,42,41,37,40,39,38,66,65,64,63,62,61,53,60,59,58,57,56,55,54,76,75,74,73,72,71,67,70,69,68,29,28,27,26,25,10,24,23,22],[]⟩),(5,⟨[.t 86 tI,.t 13 tI],[],[109,108,107,106,105,104,103,102,101,100,99,98,97,96,95,94,93,92,91,90,89,14,88,87],[]⟩)] [] [] []) (Wp:=fun xs Q=>Zan.wp xs.1 xs.2.1 Q) Za7 Zfm (Zbd Tryz.func58 (by kernel_rfl) (by kernel_rfl)) (fun xs Q=>by kernel_rfl) fun ⟨x0,x1,_⟩ hl hp=>Zan.spec x0 x1 hp
noncomputable def Za8.con:Con:=⟨[.d tL,.d tL],none,fun x=>Zbl [.bool] (Za8.fn x)⟩
theorem Za8.ok:ZW prog 127 Za8.con:=Zf (A:=.mk [] [(0,⟨[.t 23 tI],[],[37,36,35,34,33,32,31,30,29,28,27,26,5,25,24],[]⟩)] [] [] []) (Wp:=fun xs Q=>Za8.wp xs.1 xs.2.1 Q) Za7 Zfm (Zbd Tryz.func127 (by kernel_rfl) (by kernel_rfl)) (fun xs Q=>by kernel_rfl) fun ⟨x0,x1,_⟩ hl hp=>Za8.spec x0 x1 hl.1.1.1
noncomputable def ZbA.con:Con:=⟨[.d tI,.d (.sl tI)],none,fun x=>Zbl [tC] (ZbA.fn x)⟩
theorem ZbA.ok:ZW prog 37 ZbA.con:=Zf (A:=.mk [] [] [] [] []) (Wp:=fun xs Q=>ZbA.wp xs.1 xs.2.1 Q) Za7 Zfm (Zbd Tryz.func37 (by kernel_rfl) (by kernel_rfl)) (fun xs Q=>by kernel_rfl) fun ⟨x0,x1,_⟩ hl hp=>ZbA.spec x0 x1
noncomputable def Zai.con:Con:=⟨[.d tI,.d tI],none,fun x=>Zbl [(.sl tC)] (Zai.fn x)⟩
theorem Zai.ok:ZW prog 38 Zai.con:=Zf (A:=.mk [] [] [] [] []) (Wp:=fun xs Q=>Zai.wp xs.1 xs.2.1 Q) Za7 Zfm (Zbd Tryz.func38 (by kernel_rfl) (by kernel_rfl)) (fun xs Q=>by kernel_rfl) fun ⟨x0,x1,_⟩ hl hp=>Zai.spec x0 x1
noncomputable def ZU.con:Con:=⟨[.d tI,.d tI,.d (.sl tS)],none,fun x=>Zbl [.bool] (ZU.fn x)⟩
theorem ZU.ok:ZW prog 12 ZU.con:=Zf (A:=.mk [] [(2,⟨[.t 26 tI],[],[34,33,32,31,30,11,29,28,27],[]⟩),(0,⟨[.t 14 tI,.t 7 tI],[],[35,27,34,33,32,31,30,11,29,28,26,25,24,23,22,21,20,19,18,9,17,16,15],[]⟩)] [] [] []) (Wp:=fun xs Q=>ZU.wp xs.1 xs.2.1 xs.2.2.1 Q) Zxj Zxs (Zbd Tryz.func12 (by kernel_rfl) (by kernel_rfl)) (fun xs Q=>by kernel_rfl) fun ⟨x0,x1,x2,_⟩ hl hp=>by first | exact ZU.spec x0 x1 x2  | exact ZU.spec x0 x1 x2 hp | exact ZU.spec x0 x1 x2 hl.1 | exact ZU.spec x0 x1 x2 hl.1 hp | exact ZU.spec x0 x1 x2 hl.1.1 | exact ZU.spec x0 x1 x2 hl.1.1 hp | exact ZU.spec x0 x1 x2 hl.1.1.1 | exact ZU.spec x0 x1 x2 hl.1.1.1 hp | exact ZU.spec x0 x1 x2 hl.1.2.1 | exact ZU.spec x0 x1 x2 hl.1.2.1 hp | exact ZU.spec x0 x1 x2 hl.2.1 | exact ZU.spec x0 x1 x2 hl.2.1 hp | exact ZU.spec x0 x1 x2 hl.2.1.1 | exact ZU.spec x0 x1 x2 hl.2.1.1 hp | exact ZU.spec x0 x1 x2 hl.2.1.1.1 | exact ZU.spec x0 x1 x2 hl.2.1.1.1 hp | exact ZU.spec x0 x1 x2 hl.2.2.1.1 (fun s hs=>(hl.2.2.1.2 s hs).2.1) | exact ZU.spec x0 x1 x2 hl.2.2.2.1.1 (fun s hs=>⟨(hl.2.2.2.1.2 s hs).2.1,fun p hp=>⟨((hl.2.2.2.1.2 s hs).2.2 p hp).1,fun c hc=>(((hl.2.2.2.1.2 s hs).2.2 p hp).2 c hc).2.2.1.1⟩⟩)
noncomputable def ZaX.con:Con:=⟨[.d tI],none,fun x=>Zbl [.bool] (ZaX.fn x)⟩
theorem ZaX.ok:ZW prog 121 ZaX.con:=Zf (A:=.mk [] [] [] [] []) (Wp:=fun xs Q=>ZaX.wp xs.1 Q) Za7 Zfm (Zbd Tryz.func121 (by kernel_rfl) (by kernel_rfl)) (fun xs Q=>by kernel_rfl) fun ⟨x0,_⟩ hl hp=>ZaX.spec x0
noncomputable def Zbn.con:Con:=⟨[.d (.sl tC)],some fun x=>Zbn.pre x,fun x=>Zbl [(.sl tC)] (Zbn.fn x)⟩
theorem Zbn.ok:ZW prog 61 Zbn.con:=Zf (A:=.mk [] [(0,⟨[.t 11 tI,.row 0 tC],[],[32,30,29,25,31,28,27,26,24,23,22,21,20,19,18,17,16,4,5,15,14,13,12],[]⟩)] [] [] []) (Wp:=fun xs Q=>Zbn.wp xs.1 Q) Za7 Zfm (Zbd Tryz.func61 (by kernel_rfl) (by kernel_rfl)) (fun xs Q=>by kernel_rfl) fun ⟨x0,_⟩ hl hp=>Zbn.spec x0 hp
noncomputable def Zal.con:Con:=⟨[.d tI,.d tI],some fun x=>Zal.pre x,fun x=>Zbl [tI,tI] (Zal.fn x)⟩
theorem Zal.ok:ZW prog 51 Zal.con:=Zf (A:=.mk [] [] [] [] []) (Wp:=fun xs Q=>Zal.wp xs.1 xs.2.1 Q) Za7 Zfm (Zbd Tryz.func51 (by kernel_rfl) (by kernel_rfl)) (fun xs Q=>by kernel_rfl) fun ⟨x0,x1,_⟩ hl hp=>Zal.spec x0 x1 hp
noncomputable def ZaM.con:Con:=⟨[.d tI,.d tI],some fun x=>ZaM.pre x,fun x=>Zbl [tI,tI] (ZaM.fn x)⟩
theorem ZaM.ok:ZW prog 53 ZaM.con:=Zf (A:=.mk [] [] [] [] []) (Wp:=fun xs Q=>ZaM.wp xs.1 xs.2.1 Q) Za7 Zfm (Zbd Tryz.func53 (by kernel_rfl) (by kernel_rfl)) (fun xs Q=>by kernel_rfl) fun ⟨x0,x1,_⟩ hl hp=>ZaM.spec x0 x1 hp
noncomputable def Zbf.con:Con:=⟨[.d tI],none,fun x=>Zbl [(.int .u64)] (Zbf.fn x)⟩
theorem Zbf.ok:ZW prog 164 Zbf.con:=Zf (A:=.mk [] [] [] [] []) (Wp:=fun xs Q=>Zbf.wp xs.1 Q) Za7 Zfm (Zbd Tryz.func164 (by kernel_rfl) (by kernel_rfl)) (fun xs Q=>by kernel_rfl) fun ⟨x0,_⟩ hl hp=>Zbf.spec x0
noncomputable def ZaL.con:Con:=⟨[.d .bool],none,fun x=>Zbl [tC,tI] (ZaL.fn x)⟩
theorem ZaL.ok:ZW prog 140 ZaL.con:=Zf (A:=.mk [] [] [] [] []) (Wp:=fun xs Q=>ZaL.wp xs.1 Q) Za7 Zfm (Zbd Tryz.func140 (by kernel_rfl) (by kernel_rfl)) (fun xs Q=>by kernel_rfl) fun ⟨x0,_⟩ hl hp=>ZaL.spec x0
noncomputable def Z4.con:Con:=⟨[.d tL,.d tI,.d tI],some fun x=>Z4.pre x,fun x=>Zbl [tL] (Z4.fn x)⟩
theorem Z4.ok:ZW prog 141 Z4.con:=Zf (A:=.mk [] [(0,⟨[.t 19 tI,.row 2 tI],[],[31,30,29,28,27,26,25,24,9,8,23,22,21,20],[]⟩)] [] [] []) (Wp:=fun xs Q=>Z4.wp xs.1 xs.2.1 xs.2.2.1 Q) Za7 Zfm (Zbd Tryz.func141 (by kernel_rfl) (by kernel_rfl)) (fun xs Q=>by kernel_rfl) fun ⟨x0,x1,x2,_⟩ hl hp=>Z4.spec x0 x1 x2 hp
noncomputable def ZP.con:Con:=⟨[.d tC,.d tC],some fun x=>ZP.pre x,fun x=>Zbl [tI] (ZP.fn x)⟩
theorem ZP.ok:ZW prog 125 ZP.con:=Zf (A:=.mk [] [(0,⟨[.t 12 tI,.t 6 .bool,.t 5 .bool],[],[48,47,46,45,44,43,42,41,40,39,38,37,36,35,34,33,32,31,30,29,28,27,26,25,24,23,22,21,20,19,18,17,16,15,7,14,13],[]⟩)] [] [] []) (Wp:=fun xs Q=>ZP.wp xs.1 xs.2.1 Q) Za7 Zfm (Zbd Tryz.func125 (by kernel_rfl) (by kernel_rfl)) (fun xs Q=>by kernel_rfl) fun ⟨x0,x1,_⟩ hl hp=>ZP.spec x0 x1 hp
noncomputable def Z7.con:Con:=⟨[.d (.sl tI),.d (.sl tI)],some fun x=>Z7.pre x,fun x=>Zbl [tI] (Z7.fn x)⟩
theorem Z7.ok:ZW prog 165 Z7.con:=Zf (A:=.mk [] [(0,⟨[.t 8 tI],[],[31,21,30,29,28,27,26,25,24,23,22,11,20,19,18,17,16,15,14,13,12,5,10,9],[]⟩)] [] [] []) (Wp:=fun xs Q=>Z7.wp xs.1 xs.2.1 Q) Za7 Zfm (Zbd Tryz.func165 (by kernel_rfl) (by kernel_rfl)) (fun xs Q=>by kernel_rfl) fun ⟨x0,x1,_⟩ hl hp=>Z7.spec x0 x1 hl.1.1 hp
noncomputable def ZaV.con:Con:=⟨[.d tI],none,fun x=>Zbl [tI] (ZaV.fn x)⟩
theorem ZaV.ok:ZW prog 166 ZaV.con:=Zf (A:=.mk [] [] [] [] []) (Wp:=fun xs Q=>ZaV.wp xs.1 Q) Za7 Zfm (Zbd Tryz.func166 (by kernel_rfl) (by kernel_rfl)) (fun xs Q=>by kernel_rfl) fun ⟨x0,_⟩ hl hp=>ZaV.spec x0
noncomputable def Zm.con:Con:=⟨[.d tL,.d tI],some fun x=>Zm.pre x,fun x=>Zbl [tL] (Zm.fn x)⟩
theorem Zm.ok:ZW prog 78 Zm.con:=Zf (A:=.mk [(1000,[.ownc 2 0 tI])] [(0,⟨[.t 14 tI,.cell 2 1 tI,.row 3 tI],[],[28,27,26,23,25,24,22,21,20,19,7,6,18,17,16,15],[]⟩)] [] [] []) (Wp:=fun xs Q=>Zm.wp xs.1 xs.2.1 Q) Za7 Zfm (Zbd Tryz.func78 (by kernel_rfl) (by kernel_rfl)) (fun xs Q=>by kernel_rfl) fun ⟨x0,x1,_⟩ hl hp=>Zm.spec x0 x1 hp
noncomputable def Zq.con:Con:=⟨[.d tI],some fun x=>Zq.pre x,fun x=>Zbl [tI] (Zq.fn x)⟩
theorem Zq.ok:ZW prog 79 Zq.con:=Zf (A:=.mk [] [] [] [] []) (Wp:=fun xs Q=>Zq.wp xs.1 Q) Za7 Zfm (Zbd Tryz.func79 (by kernel_rfl) (by kernel_rfl)) (fun xs Q=>by kernel_rfl) fun ⟨x0,_⟩ hl hp=>Zq.spec x0 hp
def ZB.A:An:=.mk [] [(0,⟨[.t 28 tI,.row 6 tI],[],[50,49,48,47,46,45,44,43,42,41,40,39,38,37,36,35,34,33,32,31,10,30,29],[]⟩)] [] [] []
noncomputable def ZB.con:Con:=⟨[.d tI,.d tL,.d tI,.d tL],some fun x=>ZB.pre x,fun x=>Zbl [tL] (ZB.fn x)⟩
theorem ZB.ok:ZW prog 82 ZB.con:=Zf (A:=ZB.A) (Wp:=fun xs Q=>ZB.wp xs.1 xs.2.1 xs.2.2.1 xs.2.2.2.1 Q) Za7 Zfm (Zbd Tryz.func82 (by kernel_rfl) (by kernel_rfl)) (fun xs Q=>by kernel_rfl) fun ⟨x0,x1,x2,x3,_⟩ hl hp=>ZB.spec x0 x1 x2 x3 hp
noncomputable def Zat.con:Con:=⟨[.d (.sl tI)],some fun x=>Zat.pre x,fun x=>Zbl [tI,tI] (Zat.fn x)⟩
theorem Zat.ok:ZW prog 52 Zat.con:=Zf (A:=.mk [] [(0,⟨[.t 12 tI],[],[18,17,16,5,15,14,13],[]⟩),(4,⟨[.t 25 tI,.t 7 .bool],[],[36,35,34,33,32,31,30,29,9,28,27,26],[]⟩),(2,⟨[.t 6 tI],[],[22,21,37,26,36,35,34,33,32,31,30,29,9,28,27,25,7,24,23,20,19],[]⟩)] [] [] []) (Wp:=fun xs Q=>Zat.wp xs.1 Q) Za7 Zfm (Zbd Tryz.func52 (by kernel_rfl) (by kernel_rfl)) (fun xs Q=>by kernel_rfl) fun ⟨x0,_⟩ hl hp=>Zat.spec x0 hl.1.1 hp
noncomputable def ZR.con:Con:=⟨[.d tI,.d tI],some fun x=>ZR.pre x,fun x=>Zbl [tL] (ZR.fn x)⟩
theorem ZR.ok:ZW prog 118 ZR.con:=Zf (A:=.mk [] [] [] [] []) (Wp:=fun xs Q=>ZR.wp xs.1 xs.2.1 Q) Za7 Zfm (Zbd Tryz.func118 (by kernel_rfl) (by kernel_rfl)) (fun xs Q=>by kernel_rfl) fun ⟨x0,x1,_⟩ hl hp=>ZR.spec x0 x1 hp
noncomputable def κL1:List (Nat×CX):=(138,.con ZbF.con)::(43,.con ZF.con)::(122,.con Zg.con)::(146,.con ZC.con)::(148,.con Z8.con)::(184,.con Zbh.con)::(170,.con ZaS.con)::(171,.con Zas.con)::(172,.con Zx.con)::(173,.con Zba.con)::(116,.con ZaE.con)::(134,.con Zbm.con)::(162,.con Zab.con)::(102,.con ZJ.con)::(105,.con Zah.con)::(58,.con Zan.con)::(127,.con Za8.con)::(37,.con ZbA.con)::(38,.con Zai.con)::(12,.con ZU.con)::(121,.con ZaX.con)::(61,.con Zbn.con)::(51,.con Zal.con)::(53,.con ZaM.con)::(164,.con Zbf.con)::(140,.con ZaL.con)::(141,.con Z4.con)::(125,.con ZP.con)::(165,.con Z7.con)::(166,.con ZaV.con)::(78,.con Zm.con)::(79,.con Zq.con)::(82,.con ZB.con)::(52,.con Zat.con)::(118,.con ZR.con)::κL0
theorem Zue:Zad prog (fun n=>ZbW n κL1):=Zh ZbF.ok (Zh ZF.ok (Zh Zg.ok (Zh ZC.ok (Zh Z8.ok (Zh Zbh.ok (Zh ZaS.ok (Zh Zas.ok (Zh Zx.ok (Zh Zba.ok (Zh ZaE.ok (Zh Zbm.ok (Zh Zab.ok (Zh ZJ.ok (Zh Zah.ok (Zh Zan.ok (Zh Za8.ok (Zh ZbA.ok (Zh Zai.ok (Zh ZU.ok (Zh ZaX.ok (Zh Zbn.ok (Zh Zal.ok (Zh ZaM.ok (Zh Zbf.ok (Zh ZaL.ok (Zh Z4.ok (Zh ZP.ok (Zh Z7.ok (Zh ZaV.ok (Zh Zm.ok (Zh Zq.ok (Zh ZB.ok (Zh Zat.ok (Zh ZR.ok ZtV))))))))))))))))))))))))))))))))))
noncomputable def κ1:ZY:=fun n=>ZbW n κL1
theorem ZvW:Zad prog κ1:=Zue
theorem ZoV:Zcb prog (walk τ0 κ1 φA):=Zby Za7 ZvW ZlH mixed
theorem ZxG:Zcb prog (walk τ0 κ1 φC):=Zby Za7 ZvW Zxb mixed
noncomputable def Za2.con:Con:=⟨[.d tL],none,fun x=>Zbl [.bool] (Za2.fn x)⟩
theorem Za2.ok:ZW prog 123 Za2.con:=Zf (A:=.mk [] [(0,⟨[.t 8 tI],[],[15,14,13,12,4,11,10,9],[]⟩)] [] [] []) (Wp:=fun xs Q=>Za2.wp xs.1 Q) Za7 ZoV (Zbd Tryz.func123 (by kernel_rfl) (by kernel_rfl)) (fun xs Q=>by kernel_rfl) fun ⟨x0,_⟩ hl hp=>Za2.spec x0 hl.1.1.1
noncomputable def Ze.con:Con:=⟨[.d (.sl tC),.f [tC] [.bool]],some fun x=>Ze.pre x,fun x=>Zbl [.bool] (Ze.fn x)⟩
theorem Ze.ok:ZW prog 88 Ze.con:=Zf (A:=.mk [] [] [] [] []) (Wp:=fun xs Q=>Ze.wp xs.1 xs.2.1 Q) Za7 ZoV (Zbd Tryz.func88 (by kernel_rfl) (by kernel_rfl)) (fun xs Q=>by kernel_rfl) fun ⟨x0,x1,_⟩ hl hp=>Ze.spec x0 x1 hp
noncomputable def ZaH.con:Con:=⟨[.d (.int .u64),.d tI],none,fun x=>Zbl [(.int .u64)] (ZaH.fn x)⟩
theorem ZaH.ok:ZW prog 183 ZaH.con:=Zf (A:=.mk [] [] [] [] []) (Wp:=fun xs Q=>ZaH.wp xs.1 xs.2.1 Q) Za7 ZoV (Zbd Tryz.func183 (by kernel_rfl) (by kernel_rfl)) (fun xs Q=>by kernel_rfl) fun ⟨x0,x1,_⟩ hl hp=>ZaH.spec x0 x1
noncomputable def ZaR.con:Con:=⟨[.d (.sl tC)],some fun x=>ZaR.pre x,fun x=>Zbl [(.sl tC)] (ZaR.fn x)⟩
theorem ZaR.ok:ZW prog 109 ZaR.con:=Zf (A:=.mk [(1000,[.own 3 tC])] [(0,⟨[.t 13 tI,.row 1 tC,.smap 0 tI],[3],[58,23,20,22,21,19,18,17,6,16,15,14,57,54,52,56,55,53,51,50,34,9,8,33,32,28,31,30,29,7,27,26,25,24,49,48,47,46,45,44,43,42,41,40,39,38,37,36,35],[]⟩)] [] [] []) (Wp:=fun xs Q=>ZaR.wp xs.1 Q) Za7 ZoV (Zbd Tryz.func109 (by kernel_rfl) (by kernel_rfl)) (fun xs Q=>by kernel_rfl) fun ⟨x0,_⟩ hl hp=>ZaR.spec x0 hp
noncomputable def ZE.con:Con:=⟨[.d tI,.d tI],none,fun x=>Zbl [tI] (ZE.fn x)⟩
theorem ZE.ok:ZW prog 135 ZE.con:=Zf (A:=.mk [] [] [] [] []) (Wp:=fun xs Q=>ZE.wp xs.1 xs.2.1 Q) Za7 ZoV (Zbd Tryz.func135 (by kernel_rfl) (by kernel_rfl)) (fun xs Q=>by kernel_rfl) fun ⟨x0,x1,_⟩ hl hp=>ZE.spec x0 x1
noncomputable def Zp.con:Con:=⟨[.d (.sl tC)],some fun x=>Zp.pre x,fun x=>Zbl [.str] (Zp.fn x)⟩
theorem Zp.ok:ZW prog 76 Zp.con:=Zf (A:=.mk [(1000,[.own 3 (.int .u8)])] [(0,⟨[.t 8 tI,.row 0 (.int .u8)],[3],[40,39,37,36,38,32,31,35,34,33,26,25,30,29,28,27,23,22,24,19,18,21,20,16,15,17,12,14,13,5,11,10,9],[]⟩)] [] [] []) (Wp:=fun xs Q=>Zp.wp xs.1 Q) Za7 ZxG (Zbd Tryz.func76 (by kernel_rfl) (by kernel_rfl)) (fun xs Q=>by kernel_rfl) fun ⟨x0,_⟩ hl hp=>Zp.spec x0 hp
noncomputable def Zz.con:Con:=⟨[.d (.pair tI (.pair (.sl tC) (.pair (.sl (.pair tC (.pair tI tL))) (.pair tI (.pair (.sl (.pair tC (.pair tI tL))) (.pair (.sl (.pair tC (.pair tI tL))) (.sl (.pair tC (.pair tI tL)))))))))],some fun x=>Zz.pre x,fun x=>Zbl [(.sl (.sl tC))] (Zz.fn x)⟩
theorem Zz.ok:ZW prog 70 Zz.con:=Zf (A:=.mk [(1000,[.own 6 tC])] [(0,⟨[.t 29 tI,.row 6 tC],[6],[61,60,38,59,58,57,56,55,54,53,52,51,50,49,48,47,46,45,44,43,42,41,40,39,37,36,35,34,7,8,33,32,31,30,25],[]⟩)] [(5,⟨[.t 5 tI,.t 4 tI,.t 19 .bool,.t 18 tI],[],[22,21,20,17],[]⟩)] [] []) (Wp:=fun xs Q=>Zz.wp xs.1 Q) Za7 ZoV (Zbd Tryz.func70 (by kernel_rfl) (by kernel_rfl)) (fun xs Q=>by kernel_rfl) fun ⟨x0,_⟩ hl hp=>Zz.spec x0 hp
noncomputable def Zw.con:Con:=⟨[.d (.pair tI (.pair (.sl tC) (.pair (.sl (.pair tC (.pair tI tL))) (.pair tI (.pair (.sl (.pair tC (.pair tI tL))) (.pair (.sl (.pair tC (.pair tI tL))) (.sl (.pair tC (.pair tI tL)))))))))],some fun x=>Zw.pre x,fun x=>Zbl [(.sl (.sl tC))] (Zw.fn x)⟩
theorem Zw.ok:ZW prog 71 Zw.con:=Zf (A:=.mk [(1000,[.own 3 tC])] [(2,⟨[.t 21 tI,.row 1 tC],[3],[39,38,25,37,36,35,34,33,32,31,30,29,28,27,26,7,24,23,22,10],[]⟩),(0,⟨[.t 14 tI,.row 1 tC],[],[40,22,39,38,25,37,36,35,34,33,32,31,30,29,28,27,26,7,24,23,21,20,19,18,5,17,16,15,10],[]⟩)] [] [] []) (Wp:=fun xs Q=>Zw.wp xs.1 Q) Za7 ZoV (Zbd Tryz.func71 (by kernel_rfl) (by kernel_rfl)) (fun xs Q=>by kernel_rfl) fun ⟨x0,_⟩ hl hp=>Zw.spec x0 hp
noncomputable def Zau.con:Con:=⟨[.d (.int .u64),.d tI],some fun x=>Zau.pre x,fun x=>Zbl [(.int .u64)] (Zau.fn x)⟩
theorem Zau.ok:ZW prog 147 Zau.con:=Zf (A:=.mk [] [] [] [] []) (Wp:=fun xs Q=>Zau.wp xs.1 xs.2.1 Q) Za7 ZoV (Zbd Tryz.func147 (by kernel_rfl) (by kernel_rfl)) (fun xs Q=>by kernel_rfl) fun ⟨x0,x1,_⟩ hl hp=>Zau.spec x0 x1 hp
noncomputable def Zn.con:Con:=⟨[.d (.pair tI (.pair (.sl tC) (.pair (.sl (.pair tC (.pair tI tL))) (.pair tI (.pair (.sl (.pair tC (.pair tI tL))) (.pair (.sl (.pair tC (.pair tI tL))) (.sl (.pair tC (.pair tI tL))))))))),.d tI,.d tL,.d .bool],some fun x=>Zn.pre x,fun x=>Zbl [(.sl tC)] (Zn.fn x)⟩
theorem Zn.ok:ZW prog 104 Zn.con:=Zf (A:=.mk [(1000,[.own 9 tC])] [(0,⟨[.t 18 tI,.row 2 tC],[9],[47,46,29,45,44,43,42,41,40,39,38,37,36,35,34,33,32,31,30,28,27,26,25,24,23,22,11,21,20,19,14],[]⟩)] [] [] []) (Wp:=fun xs Q=>Zn.wp xs.1 xs.2.1 xs.2.2.1 xs.2.2.2.1 Q) Za7 ZoV (Zbd Tryz.func104 (by kernel_rfl) (by kernel_rfl)) (fun xs Q=>by kernel_rfl) fun ⟨x0,x1,x2,x3,_⟩ hl hp=>Zn.spec x0 x1 x2 x3 hp
noncomputable def ZaQ.con:Con:=⟨[.d tC,.d tC],none,fun x=>Zbl [.bool] (ZaQ.fn x)⟩
theorem ZaQ.ok:ZW prog 93 ZaQ.con:=Zf (A:=.mk [] [] [] [] []) (Wp:=fun xs Q=>ZaQ.wp xs.1 xs.2.1 Q) Za7 ZoV (Zbd Tryz.func93 (by kernel_rfl) (by kernel_rfl)) (fun xs Q=>by kernel_rfl) fun ⟨x0,x1,_⟩ hl hp=>ZaQ.spec x0 x1
noncomputable def ZaO.con:Con:=⟨[.d tL],none,fun x=>Zbl [.bool] (ZaO.fn x)⟩
theorem ZaO.ok:ZW prog 87 ZaO.con:=Zf (A:=.mk [] [(0,⟨[.t 8 tI],[],[15,14,13,12,4,11,10,9],[]⟩)] [] [] []) (Wp:=fun xs Q=>ZaO.wp xs.1 Q) Za7 ZoV (Zbd Tryz.func87 (by kernel_rfl) (by kernel_rfl)) (fun xs Q=>by kernel_rfl) fun ⟨x0,_⟩ hl hp=>ZaO.spec x0 hl.1.1.1
noncomputable def ZaY.con:Con:=⟨[.d (.sl tI)],some fun x=>ZaY.pre x,fun x=>Zbl [tI,tI] (ZaY.fn x)⟩
theorem ZaY.ok:ZW prog 139 ZaY.con:=Zf (A:=.mk [] [(2,⟨[.t 7 (.int .u64),.t 4 (.int .u64)],[],[21,20,19,18,17,16],[]⟩),(0,⟨[.t 10 tI,.t 4 (.int .u64)],[],[22,17,16,21,20,19,18,7,15,14,6,13,12,11],[]⟩)] [] [] []) (Wp:=fun xs Q=>ZaY.wp xs.1 Q) Za7 ZoV (Zbd Tryz.func139 (by kernel_rfl) (by kernel_rfl)) (fun xs Q=>by kernel_rfl) fun ⟨x0,_⟩ hl hp=>ZaY.spec x0 hl.1.1 hp
noncomputable def Za3.con:Con:=⟨[.d tL,.d tL],some fun x=>Za3.pre x,fun x=>Zbl [tI] (Za3.fn x)⟩
theorem Za3.ok:ZW prog 167 Za3.con:=Zf (A:=.mk [] [] [] [] []) (Wp:=fun xs Q=>Za3.wp xs.1 xs.2.1 Q) Za7 ZoV (Zbd Tryz.func167 (by kernel_rfl) (by kernel_rfl)) (fun xs Q=>by kernel_rfl) fun ⟨x0,x1,_⟩ hl hp=>Za3.spec x0 x1 hp
noncomputable def Z6.con:Con:=⟨[.d tC,.d tI,.d tI,.d tI,.d tL],some fun x=>Z6.pre x,fun x=>Zbl [tC] (Z6.fn x)⟩
theorem Z6.ok:ZW prog 117 Z6.con:=Zf (A:=.mk [] [] [] [] []) (Wp:=fun xs Q=>Z6.wp xs.1 xs.2.1 xs.2.2.1 xs.2.2.2.1 xs.2.2.2.2.1 Q) Za7 ZoV (Zbd Tryz.func117 (by kernel_rfl) (by kernel_rfl)) (fun xs Q=>by kernel_rfl) fun ⟨x0,x1,x2,x3,x4,_⟩ hl hp=>Z6.spec x0 x1 x2 x3 x4 hp
noncomputable def κL2:List (Nat×CX):=(123,.con Za2.con)::(88,.con Ze.con)::(183,.con ZaH.con)::(109,.con ZaR.con)::(135,.con ZE.con)::(76,.con Zp.con)::(70,.con Zz.con)::(71,.con Zw.con)::(147,.con Zau.con)::(104,.con Zn.con)::(93,.con ZaQ.con)::(87,.con ZaO.con)::(139,.con ZaY.con)::(167,.con Za3.con)::(117,.con Z6.con)::κL1
theorem Zua:Zad prog (fun n=>ZbW n κL2):=Zh Za2.ok (Zh Ze.ok (Zh ZaH.ok (Zh ZaR.ok (Zh ZE.ok (Zh Zp.ok (Zh Zz.ok (Zh Zw.ok (Zh Zau.ok (Zh Zn.ok (Zh ZaQ.ok (Zh ZaO.ok (Zh ZaY.ok (Zh Za3.ok (Zh Z6.ok Zue))))))))))))))
noncomputable def κ2:ZY:=fun n=>ZbW n κL2
theorem ZwQ:Zad prog κ2:=Zua
theorem ZsB:Zcb prog (walk τ0 κ2 φA):=Zby Za7 ZwQ ZlH mixed
noncomputable def ZG.con:Con:=⟨[.d tC],none,fun x=>Zbl [.bool] (ZG.fn x)⟩
theorem ZG.ok:ZW prog 90 ZG.con:=Zf (A:=.mk [] [] [] [] []) (Wp:=fun xs Q=>ZG.wp xs.1 Q) Za7 ZsB (Zbd Tryz.func90 (by kernel_rfl) (by kernel_rfl)) (fun xs Q=>by kernel_rfl) fun ⟨x0,_⟩ hl hp=>ZG.spec x0
noncomputable def Zbe.con:Con:=⟨[.d (.sl tI)],some fun x=>Zbe.pre x,fun x=>Zbl [tI,tI] (Zbe.fn x)⟩
theorem Zbe.ok:ZW prog 169 Zbe.con:=Zf (A:=.mk [] [] [] [] []) (Wp:=fun xs Q=>Zbe.wp xs.1 Q) Za7 ZsB (Zbd Tryz.func169 (by kernel_rfl) (by kernel_rfl)) (fun xs Q=>by kernel_rfl) fun ⟨x0,_⟩ hl hp=>Zbe.spec x0 hp
noncomputable def Zt.con:Con:=⟨[.d (.sl tI),.d (.sl tI)],none,fun x=>Zbl [tI] (Zt.fn x)⟩
theorem Zt.ok:ZW prog 136 Zt.con:=Zf (A:=.mk [] [(0,⟨[.t 11 tI],[],[30,28,27,8,26,25,24,7,23,22,21,20,19,18,17,16,6,5,15,14,13,12],[]⟩)] [] [] []) (Wp:=fun xs Q=>Zt.wp xs.1 xs.2.1 Q) Za7 ZsB (Zbd Tryz.func136 (by kernel_rfl) (by kernel_rfl)) (fun xs Q=>by kernel_rfl) fun ⟨x0,x1,_⟩ hl hp=>Zt.spec x0 x1 hl.1.1
noncomputable def ZI.con:Con:=⟨[.d (.sl tI)],some fun x=>ZI.pre x,fun x=>Zbl [tI,tI] (ZI.fn x)⟩
theorem ZI.ok:ZW prog 130 ZI.con:=Zf (A:=.mk [] [(0,⟨[.t 9 tI],[],[15,14,13,5,12,11,10],[]⟩)] [] [] []) (Wp:=fun xs Q=>ZI.wp xs.1 Q) Za7 ZsB (Zbd Tryz.func130 (by kernel_rfl) (by kernel_rfl)) (fun xs Q=>by kernel_rfl) fun ⟨x0,_⟩ hl hp=>ZI.spec x0 hl.1.1 hp
noncomputable def ZM.con:Con:=⟨[.d (.sl tC),.d (.sl tC)],none,fun x=>Zbl [.bool] (ZM.fn x)⟩
theorem ZM.ok:ZW prog 62 ZM.con:=Zf (A:=.mk [] [(0,⟨[.t 13 tI],[],[26,25,24,23,22,21,20,19,18,17,16,5,15,14],[]⟩)] [] [] []) (Wp:=fun xs Q=>ZM.wp xs.1 xs.2.1 Q) Za7 ZsB (Zbd Tryz.func62 (by kernel_rfl) (by kernel_rfl)) (fun xs Q=>by kernel_rfl) fun ⟨x0,x1,_⟩ hl hp=>ZM.spec x0 x1 hl.1.1
noncomputable def Zay.con:Con:=⟨[.d tC],none,fun x=>Zbl [.bool] (Zay.fn x)⟩
theorem Zay.ok:ZW prog 55 Zay.con:=Zf (A:=.mk [] [] [] [] []) (Wp:=fun xs Q=>Zay.wp xs.1 Q) Za7 ZsB (Zbd Tryz.func55 (by kernel_rfl) (by kernel_rfl)) (fun xs Q=>by kernel_rfl) fun ⟨x0,_⟩ hl hp=>Zay.spec x0
noncomputable def ZO.con:Con:=⟨[.d tC],some fun x=>ZO.pre x,fun x=>Zbl [tC,tI] (ZO.fn x)⟩
theorem ZO.ok:ZW prog 124 ZO.con:=Zf (A:=.mk [] [(1,⟨[.t 73 tI],[],[83,78,77,9,76,75,74],[]⟩),(3,⟨[.t 104 tI,.row 2 tI],[],[120,119,118,117,109,116,115,114,113,112,111,110,12,11,108,107,106,105],[]⟩)] [] [] []) (Wp:=fun xs Q=>ZO.wp xs.1 Q) Za7 ZsB (Zbd Tryz.func124 (by kernel_rfl) (by kernel_rfl)) (fun xs Q=>by kernel_rfl) fun ⟨x0,_⟩ hl hp=>ZO.spec x0 hp
noncomputable def ZaW.con:Con:=⟨[.d tC,.d tC],some fun x=>ZaW.pre x,fun x=>Zbl [tI] (ZaW.fn x)⟩
theorem ZaW.ok:ZW prog 142 ZaW.con:=Zf (A:=.mk [] [] [] [] []) (Wp:=fun xs Q=>ZaW.wp xs.1 xs.2.1 Q) Za7 ZsB (Zbd Tryz.func142 (by kernel_rfl) (by kernel_rfl)) (fun xs Q=>by kernel_rfl) fun ⟨x0,x1,_⟩ hl hp=>ZaW.spec x0 x1 hp
noncomputable def Z2.con:Con:=⟨[.d (.sl tC),.d tI,.d tI],some fun x=>Z2.pre x,fun x=>Zbl [(.sl tC)] (Z2.fn x)⟩
theorem Z2.ok:ZW prog 81 Z2.con:=Zf (A:=.mk [(1000,[.own 10 tC])] [(0,⟨[.t 33 tI,.row 1 tC],[10],[71,40,39,38,11,12,37,36,35,34,59,48,58,57,56,55,54,53,52,51,50,49,47,46,45,44,43,42,41,70,60,69,68,67,66,65,64,63,62,61],[]⟩)] [] [] []) (Wp:=fun xs Q=>Z2.wp xs.1 xs.2.1 xs.2.2.1 Q) Za7 ZsB (Zbd Tryz.func81 (by kernel_rfl) (by kernel_rfl)) (fun xs Q=>by kernel_rfl) fun ⟨x0,x1,x2,_⟩ hl hp=>Z2.spec x0 x1 x2 hp
noncomputable def κL3:List (Nat×CX):=(90,.con ZG.con)::(169,.con Zbe.con)::(136,.con Zt.con)::(130,.con ZI.con)::(62,.con ZM.con)::(55,.con Zay.con)::(124,.con ZO.con)::(142,.con ZaW.con)::(81,.con Z2.con)::κL2
theorem Zud:Zad prog (fun n=>ZbW n κL3):=Zh ZG.ok (Zh Zbe.ok (Zh Zt.ok (Zh ZI.ok (Zh ZM.ok (Zh Zay.ok (Zh ZO.ok (Zh ZaW.ok (Zh Z2.ok Zua))))))))
noncomputable def κ3:ZY:=fun n=>ZbW n κL3
theorem Zw0:Zad prog κ3:=Zud
theorem Zsm:Zcb prog (walk τ0 κ3 φA):=Zby Za7 Zw0 ZlH mixed
noncomputable def ZbL.con:Con:=⟨[.d (.sl tC),.d tI],none,fun x=>Zbl [.bool] (ZbL.fn x)⟩
theorem ZbL.ok:ZW prog 65 ZbL.con:=Zf (A:=.mk [] [(0,⟨[.t 9 tI],[],[24,23,22,21,20,19,18,17,16,15,14,13,6,12,11,10],[]⟩)] [] [] []) (Wp:=fun xs Q=>ZbL.wp xs.1 xs.2.1 Q) Za7 Zsm (Zbd Tryz.func65 (by kernel_rfl) (by kernel_rfl)) (fun xs Q=>by kernel_rfl) fun ⟨x0,x1,_⟩ hl hp=>ZbL.spec x0 x1 hl.1.1
noncomputable def ZV.con:Con:=⟨[.d tC],some fun x=>ZV.pre x,fun x=>Zbl [tC,tI] (ZV.fn x)⟩
theorem ZV.ok:ZW prog 149 ZV.con:=Zf (A:=.mk [] [] [] [] []) (Wp:=fun xs Q=>ZV.wp xs.1 Q) Za7 Zsm (Zbd Tryz.func149 (by kernel_rfl) (by kernel_rfl)) (fun xs Q=>by kernel_rfl) fun ⟨x0,_⟩ hl hp=>ZV.spec x0 hp
noncomputable def ZT.con:Con:=⟨[.d tC],some fun x=>ZT.pre x,fun x=>Zbl [tC,tI] (ZT.fn x)⟩
theorem ZT.ok:ZW prog 150 ZT.con:=Zf (A:=.mk [] [(0,⟨[.t 44 tI],[],[54,49,48,7,47,46,45],[]⟩)] [] [] []) (Wp:=fun xs Q=>ZT.wp xs.1 Q) Za7 Zsm (Zbd Tryz.func150 (by kernel_rfl) (by kernel_rfl)) (fun xs Q=>by kernel_rfl) fun ⟨x0,_⟩ hl hp=>ZT.spec x0 hp
noncomputable def ZL.con:Con:=⟨[.d tC],some fun x=>ZL.pre x,fun x=>Zbl [tC,tI] (ZL.fn x)⟩
theorem ZL.ok:ZW prog 151 ZL.con:=Zf (A:=.mk [] [(0,⟨[.t 25 tI,.t 6 tI,.row 2 tI],[],[51,50,49,40,48,47,46,45,44,43,42,41,39,38,37,30,36,35,34,33,32,31,8,7,29,28,27,26],[]⟩)] [] [] []) (Wp:=fun xs Q=>ZL.wp xs.1 Q) Za7 Zsm (Zbd Tryz.func151 (by kernel_rfl) (by kernel_rfl)) (fun xs Q=>by kernel_rfl) fun ⟨x0,_⟩ hl hp=>ZL.spec x0 hp
noncomputable def Za9.con:Con:=⟨[.d tC],none,fun x=>Zbl [.bool] (Za9.fn x)⟩
theorem Za9.ok:ZW prog 107 Za9.con:=Zf (A:=.mk [] [] [] [] []) (Wp:=fun xs Q=>Za9.wp xs.1 Q) Za7 Zsm (Zbd Tryz.func107 (by kernel_rfl) (by kernel_rfl)) (fun xs Q=>by kernel_rfl) fun ⟨x0,_⟩ hl hp=>Za9.spec x0
noncomputable def Zap.con:Con:=⟨[.d tC,.d tC],some fun x=>Zap.pre x,fun x=>Zbl [tI] (Zap.fn x)⟩
theorem Zap.ok:ZW prog 112 Zap.con:=Zf (A:=.mk [] [] [] [] []) (Wp:=fun xs Q=>Zap.wp xs.1 xs.2.1 Q) Za7 Zsm (Zbd Tryz.func112 (by kernel_rfl) (by kernel_rfl)) (fun xs Q=>by kernel_rfl) fun ⟨x0,x1,_⟩ hl hp=>Zap.spec x0 x1 hp
noncomputable def ZaG.con:Con:=⟨[.d tS,.d tS],none,fun x=>Zbl [.bool] (ZaG.fn x)⟩
theorem ZaG.ok:ZW prog 29 ZaG.con:=Zf (A:=.mk [] [(0,⟨[.t 23 tI],[],[38,37,36,35,34,33,32,31,30,29,28,27,26,5,25,24],[]⟩)] [] [] []) (Wp:=fun xs Q=>ZaG.wp xs.1 xs.2.1 Q) Za7 Zsm (Zbd Tryz.func29 (by kernel_rfl) (by kernel_rfl)) (fun xs Q=>by kernel_rfl) fun ⟨x0,x1,_⟩ hl hp=>ZaG.spec x0 x1 hl.1.2.1
noncomputable def ZZ.con:Con:=⟨[.d tS],none,fun x=>Zbl [.bool] (ZZ.fn x)⟩
theorem ZZ.ok:ZW prog 24 ZZ.con:=Zf (A:=.mk [] [(2,⟨[.t 33 tI],[],[49,48,47,46,45,44,43,42,41,40,39,38,37,6,36,35,34],[]⟩),(0,⟨[.t 24 tI],[],[50,34,49,48,47,46,45,44,43,42,41,40,39,38,37,6,36,35,33,32,31,30,29,28,4,27,26,25],[]⟩)] [] [] []) (Wp:=fun xs Q=>ZZ.wp xs.1 Q) Za7 Zsm (Zbd Tryz.func24 (by kernel_rfl) (by kernel_rfl)) (fun xs Q=>by kernel_rfl) fun ⟨x0,_⟩ hl hp=>ZZ.spec x0 hl.1.2.1
noncomputable def Z3.con:Con:=⟨[.d (.sl tC)],some fun x=>Z3.pre x,fun x=>Zbl [(.sl tC)] (Z3.fn x)⟩
theorem Z3.ok:ZW prog 126 Z3.con:=Zf (A:=.mk [(1000,[.own 3 tC])] [(2,⟨[.t 6 tI],[],[28,27,26,25,24,23,22,21,20,19,18,17,16,15,14],[]⟩),(0,⟨[.t 10 tI,.t 3 (.sl tC)],[],[55,54,50,7,49,53,52,51,46,45,48,47,41,44,43,42,40,39,38,37,36,35,34,33,32,31,30,29,26,25,24,23,22,21,20,19,18,17,16,15,14,6,5,13,12,11,28,27],[]⟩)] [] [] []) (Wp:=fun xs Q=>Z3.wp xs.1 Q) Za7 Zsm (Zbd Tryz.func126 (by kernel_rfl) (by kernel_rfl)) (fun xs Q=>by kernel_rfl) fun ⟨x0,_⟩ hl hp=>Z3.spec x0 hp
noncomputable def ZaP.con:Con:=⟨[.d (.sl (.sl tC)),.d (.sl tC)],none,fun x=>Zbl [.bool] (ZaP.fn x)⟩
theorem ZaP.ok:ZW prog 119 ZaP.con:=Zf (A:=.mk [] [(0,⟨[.t 9 tI],[],[16,15,14,13,6,12,11,10],[]⟩)] [] [] []) (Wp:=fun xs Q=>ZaP.wp xs.1 xs.2.1 Q) Za7 Zsm (Zbd Tryz.func119 (by kernel_rfl) (by kernel_rfl)) (fun xs Q=>by kernel_rfl) fun ⟨x0,x1,_⟩ hl hp=>ZaP.spec x0 x1 hl.1.1
noncomputable def κL4:List (Nat×CX):=(65,.con ZbL.con)::(149,.con ZV.con)::(150,.con ZT.con)::(151,.con ZL.con)::(107,.con Za9.con)::(112,.con Zap.con)::(29,.con ZaG.con)::(24,.con ZZ.con)::(126,.con Z3.con)::(119,.con ZaP.con)::κL3
theorem ZtO:Zad prog (fun n=>ZbW n κL4):=Zh ZbL.ok (Zh ZV.ok (Zh ZT.ok (Zh ZL.ok (Zh Za9.ok (Zh Zap.ok (Zh ZaG.ok (Zh ZZ.ok (Zh Z3.ok (Zh ZaP.ok Zud)))))))))
noncomputable def κ4:ZY:=fun n=>ZbW n κL4
theorem Zwc:Zad prog κ4:=ZtO
theorem Zwa:Zcb prog (walk τ0 κ4 φA):=Zby Za7 Zwc ZlH mixed
noncomputable def ZaB.con:Con:=⟨[.d tS],none,fun x=>Zbl [.bool] (ZaB.fn x)⟩
theorem ZaB.ok:ZW prog 39 ZaB.con:=Zf (A:=.mk [] [(0,⟨[.t 22 tI],[],[36,35,34,33,32,31,30,29,28,27,26,4,25,24,23],[]⟩)] [] [] []) (Wp:=fun xs Q=>ZaB.wp xs.1 Q) Za7 Zwa (Zbd Tryz.func39 (by kernel_rfl) (by kernel_rfl)) (fun xs Q=>by kernel_rfl) fun ⟨x0,_⟩ hl hp=>ZaB.spec x0 hl.1.2.1
noncomputable def Zcd.con:Con:=⟨[],none,fun _=>.agg [.fn (.func 149) [] [],.fn (.func 150) [] [],.fn (.func 151) [] []]⟩
theorem Zcd.val(xs:Zb9 [])(Q:V→Prop):Q (Zcd.con.res xs)=fnV τ0 (walk τ0 κ4 φA) An.none (ZjB Tryz.f131) [] xs Q:=by kernel_rfl
theorem Zcd.ok:ZW prog 131 Zcd.con:=Zmi Za7 (Zby Za7 Zwc ZlH mixed) (Zbd Tryz.func131 (by kernel_rfl) (by kernel_rfl)) fun xs _ _=>Eq.mp (Zcd.val xs _) rfl
noncomputable def Zao.con:Con:=⟨[.d tC,.d tC],some fun x=>Zao.pre x,fun x=>Zbl [.bool] (Zao.fn x)⟩
theorem Zao.ok:ZW prog 114 Zao.con:=Zf (A:=.mk [] [] [] [] []) (Wp:=fun xs Q=>Zao.wp xs.1 xs.2.1 Q) Za7 Zwa (Zbd Tryz.func114 (by kernel_rfl) (by kernel_rfl)) (fun xs Q=>by kernel_rfl) fun ⟨x0,x1,_⟩ hl hp=>Zao.spec x0 x1 hp
noncomputable def Zbz.con:Con:=⟨[.d tS,.d tI,.d tS,.d tI],none,fun x=>Zbl [.bool] (Zbz.fn x)⟩
theorem Zbz.ok:ZW prog 16 Zbz.con:=Zf (A:=.mk [] [] [] [] []) (Wp:=fun xs Q=>Zbz.wp xs.1 xs.2.1 xs.2.2.1 xs.2.2.2.1 Q) Za7 Zwa (Zbd Tryz.func16 (by kernel_rfl) (by kernel_rfl)) (fun xs Q=>by kernel_rfl) fun ⟨x0,x1,x2,x3,_⟩ hl hp=>Zbz.spec x0 x1 x2 x3
noncomputable def ZA.con:Con:=⟨[.d tI,.d tI,.d tI,.d (.sl tS)],none,fun x=>Zbl [.bool] (ZA.fn x)⟩
theorem ZA.ok:ZW prog 17 ZA.con:=Zf (A:=.mk [] [(2,⟨[.t 34 tI,.t 11 tI],[],[42,41,40,39,38,13,37,36,35],[]⟩),(8,⟨[.t 73 tI],[],[87,86,85,84,83,82,81,80,79,78,77,19,76,75,74],[]⟩),(6,⟨[.t 65 tI],[],[95,94,93,92,91,90,89,88,74,87,86,85,84,83,82,81,80,79,78,77,19,76,75,73,72,71,70,69,17,68,67,66],[]⟩),(4,⟨[.t 59 tI],[],[96,66,95,94,93,92,91,90,89,88,74,87,86,85,84,83,82,81,80,79,78,77,19,76,75,73,72,71,70,69,17,68,67,65,64,63,15,62,61,60],[]⟩),(0,⟨[.t 27 tI],[],[97,60,96,66,95,94,93,92,91,90,89,88,74,87,86,85,84,83,82,81,80,79,78,77,19,76,75,73,72,71,70,69,17,68,67,65,64,63,15,62,61,59,58,57,56,55,54,53,52,51,50,49,48,47,46,45,44,43,35,42,41,40,39,38,13,37,36,34,11,33,32,31,10,30,29,28],[]⟩)] [] [] []) (Wp:=fun xs Q=>ZA.wp xs.1 xs.2.1 xs.2.2.1 xs.2.2.2.1 Q) Za7 Zwa (Zbd Tryz.func17 (by kernel_rfl) (by kernel_rfl)) (fun xs Q=>by kernel_rfl) fun ⟨x0,x1,x2,x3,_⟩ hl hp=>by first | exact ZA.spec x0 x1 x2 x3  | exact ZA.spec x0 x1 x2 x3 hp | exact ZA.spec x0 x1 x2 x3 hl.1 | exact ZA.spec x0 x1 x2 x3 hl.1 hp | exact ZA.spec x0 x1 x2 x3 hl.1.1 | exact ZA.spec x0 x1 x2 x3 hl.1.1 hp | exact ZA.spec x0 x1 x2 x3 hl.1.1.1 | exact ZA.spec x0 x1 x2 x3 hl.1.1.1 hp | exact ZA.spec x0 x1 x2 x3 hl.1.2.1 | exact ZA.spec x0 x1 x2 x3 hl.1.2.1 hp | exact ZA.spec x0 x1 x2 x3 hl.2.1 | exact ZA.spec x0 x1 x2 x3 hl.2.1 hp | exact ZA.spec x0 x1 x2 x3 hl.2.1.1 | exact ZA.spec x0 x1 x2 x3 hl.2.1.1 hp | exact ZA.spec x0 x1 x2 x3 hl.2.1.1.1 | exact ZA.spec x0 x1 x2 x3 hl.2.1.1.1 hp | exact ZA.spec x0 x1 x2 x3 hl.2.2.1.1 (fun s hs=>(hl.2.2.1.2 s hs).2.1) | exact ZA.spec x0 x1 x2 x3 hl.2.2.2.1.1 (fun s hs=>⟨(hl.2.2.2.1.2 s hs).2.1,fun p hp=>⟨((hl.2.2.2.1.2 s hs).2.2 p hp).1,fun c hc=>(((hl.2.2.2.1.2 s hs).2.2 p hp).2 c hc).2.2.1.1⟩⟩)
noncomputable def Zak.con:Con:=⟨[.d (.sl tC)],some fun x=>Zak.pre x,fun x=>Zbl [(.sl tC),.bool,tI] (Zak.fn x)⟩
theorem Zak.ok:ZW prog 91 Zak.con:=Zf (A:=.mk [(1000,[.own 6 tC,.own 7 tC,.own 8 tC]),(1003,[.own 13 tC])] [(0,⟨[.t 36 tI,.t 5 .bool,.row 0 tC,.row 1 tC,.row 2 tC],[6,7,8],[73,48,47,46,45,12,11,44,43,40,42,41,10,39,38,37,66,63,65,64,61,62,56,55,54,53,52,51,50,49,72,69,71,70,67,68,60,57,59,58],[]⟩),(5,⟨[.t 82 tI,.t 16 .bool,.row 3 tC],[],[107,106,105,104,103,102,101,100,99,98,97,96,95,94,93,92,91,90,89,88,87,86,85,17,84,83],[]⟩),(3,⟨[.t 76 tI,.row 3 tC],[13],[114,113,110,80,112,111,109,108,83,82,81,16,15,79,78,77,107,106,105,104,103,102,101,100,99,98,97,96,95,94,93,92,91,90,89,88,87,86,85,17,84],[]⟩),(9,⟨[.t 21 tI,.row 1 tC,.row 4 .bool],[7],[132,131,140,139,138,137,22,136,135,134,133,130,129,128,127,173,170,172,171,24,23,169,168,163,167,166,165,164,162,161,160,159,158,157,156,155,154,153,152,151,150,149,148,147,146,145,144,143,142,141],[]⟩),(7,⟨[.t 120 tI,.row 1 tC,.row 4 .bool],[],[174,130,129,128,127,132,131,140,139,138,137,22,136,135,134,133,173,170,172,171,24,23,169,168,163,167,166,165,164,162,161,160,159,158,157,156,155,154,153,152,151,150,149,148,147,146,145,144,143,142,141,21,126,125,19,20,124,123,122,121],[]⟩),(15,⟨[.t 206 tI,.row 4 .bool],[],[236,220,219,218,217,216,215,214,213,212,211,29,30,210,209,208,207,235,234,233,232,231,230,229,228,227,226,225,224,223,222,221],[]⟩),(13,⟨[.t 186 tI],[],[203,202,201,200,199,198,197,196,195,194,193,192,191,190,28,189,188,187],[]⟩),(11,⟨[.t 177 tI,.row 4 .bool],[],[237,207,236,220,219,218,217,216,215,214,213,212,211,29,30,210,209,208,235,234,233,232,231,230,229,228,227,226,225,224,223,222,221,206,205,204,187,186,185,184,183,182,25,26,181,180,179,178,203,202,201,200,199,198,197,196,195,194,193,192,191,190,28,189,188],[]⟩),(17,⟨[.t 241 tI,.row 1 tC],[31],[255,254,251,238,175,7,253,252,250,249,248,247,246,32,33,245,244,243,242],[]⟩)] [] [] []) (Wp:=fun xs Q=>Zak.wp xs.1 Q) Za7 Zwa (Zbd Tryz.func91 (by kernel_rfl) (by kernel_rfl)) (fun xs Q=>by kernel_rfl) fun ⟨x0,_⟩ hl hp=>Zak.spec x0 hp
noncomputable def κL5:List (Nat×CX):=(39,.con ZaB.con)::(131,.con Zcd.con)::(114,.con Zao.con)::(16,.con Zbz.con)::(17,.con ZA.con)::(91,.con Zak.con)::κL4
theorem ZtM:Zad prog (fun n=>ZbW n κL5):=Zh ZaB.ok (Zh Zcd.ok (Zh Zao.ok (Zh Zbz.ok (Zh ZA.ok (Zh Zak.ok ZtO)))))
noncomputable def κ5:ZY:=fun n=>ZbW n κL5
theorem Zw7:Zad prog κ5:=ZtM
theorem Zw9:Zcb prog (walk τ0 κ5 φA):=Zby Za7 Zw7 ZlH mixed
noncomputable def ZaN.con:Con:=⟨[.d tC],some fun x=>ZaN.pre x,fun x=>Zbl [tC,tI] (ZaN.fn x)⟩
theorem ZaN.ok:ZW prog 106 ZaN.con:=Zf (A:=.mk [(1,[.cases 1 0 3])] [] [] [] []) (Wp:=fun xs Q=>ZaN.wp xs.1 Q) Za7 Zw9 (Zbd Tryz.func106 (by kernel_rfl) (by kernel_rfl)) (fun xs Q=>by kernel_rfl) fun ⟨x0,_⟩ hl hp=>ZaN.spec x0 hp
noncomputable def ZN.con:Con:=⟨[.d (.sl (.sl tC))],some fun x=>ZN.pre x,fun x=>Zbl [(.sl (.sl tC)),tI] (ZN.fn x)⟩
theorem ZN.ok:ZW prog 84 ZN.con:=Zf (A:=.mk [(1000,[.own 4 (.sl tC)])] [(0,⟨[.t 12 tI,.row 0 (.sl tC)],[4],[37,36,33,28,35,34,32,31,30,29,27,26,25,23,22,9,8,7,21,20,19,16,18,17,6,15,14,13],[]⟩)] [] [] []) (Wp:=fun xs Q=>ZN.wp xs.1 Q) Za7 Zw9 (Zbd Tryz.func84 (by kernel_rfl) (by kernel_rfl)) (fun xs Q=>by kernel_rfl) fun ⟨x0,_⟩ hl hp=>ZN.spec x0 hp
noncomputable def κL6:List (Nat×CX):=(106,.con ZaN.con)::(84,.con ZN.con)::κL5
theorem Zt8:Zad prog (fun n=>ZbW n κL6):=Zh ZaN.ok (Zh ZN.ok ZtM)
noncomputable def κ6:ZY:=fun n=>ZbW n κL6
theorem ZwK:Zad prog κ6:=Zt8
theorem ZwU:Zcb prog (walk τ0 κ6 φA):=Zby Za7 ZwK ZlH mixed
noncomputable def Zar.con:Con:=⟨[.d (.sl tC)],some fun x=>Zar.pre x,fun x=>Zbl [(.sl tC),.bool] (Zar.fn x)⟩
theorem Zar.ok:ZW prog 108 Zar.con:=Zf (A:=.mk [(1002,[.own 7 tC])] [(0,⟨[.t 19 tI,.smap 0 tI],[],[33,32,31,30,29,28,27,26,25,24,5,6,23,22,21,20],[]⟩),(2,⟨[.t 37 tI,.row 2 tC,.imap 1 .bool],[7],[98,64,61,63,62,60,59,58,57,56,55,54,12,11,53,52,45,51,50,49,48,47,46,44,43,42,9,10,41,40,39,38,97,94,96,95,93,92,15,14,91,90,85,89,88,87,86,82,84,83,79,81,80,13,74,73,72,71,70,69,68,67,66,65,78,75,77,76],[]⟩)] [] [] []) (Wp:=fun xs Q=>Zar.wp xs.1 Q) Za7 ZwU (Zbd Tryz.func108 (by kernel_rfl) (by kernel_rfl)) (fun xs Q=>by kernel_rfl) fun ⟨x0,_⟩ hl hp=>Zar.spec x0 hp
noncomputable def Zaq.con:Con:=⟨[.d tI,.d (.sl (.sl tC))],some fun x=>Zaq.pre x,fun x=>Zbl [tS,tI] (Zaq.fn x)⟩
theorem Zaq.ok:ZW prog 46 Zaq.con:=Zf (A:=.mk [] [] [] [] []) (Wp:=fun xs Q=>Zaq.wp xs.1 xs.2.1 Q) Za7 ZwU (Zbd Tryz.func46 (by kernel_rfl) (by kernel_rfl)) (fun xs Q=>by kernel_rfl) fun ⟨x0,x1,_⟩ hl hp=>Zaq.spec x0 x1 hp
noncomputable def ZH.con:Con:=⟨[.d (.sl (.sl tC))],some fun x=>ZH.pre x,fun x=>Zbl [(.sl (.sl tC)),tI] (ZH.fn x)⟩
theorem ZH.ok:ZW prog 80 ZH.con:=Zf (A:=.mk [] [] [] [] []) (Wp:=fun xs Q=>ZH.wp xs.1 Q) Za7 ZwU (Zbd Tryz.func80 (by kernel_rfl) (by kernel_rfl)) (fun xs Q=>by kernel_rfl) fun ⟨x0,_⟩ hl hp=>ZH.spec x0 hp
noncomputable def κL7:List (Nat×CX):=(108,.con Zar.con)::(46,.con Zaq.con)::(80,.con ZH.con)::κL6
theorem Zql:Zad prog (fun n=>ZbW n κL7):=Zh Zar.ok (Zh Zaq.ok (Zh ZH.ok Zt8))
noncomputable def κ7:ZY:=fun n=>ZbW n κL7
theorem Zwb:Zad prog κ7:=Zql
theorem Zwj:Sp.Ok prog 111 (.sort tC 112 (fun a b=>Zap.pre (a,b,())) (fun a b=>Zap.fn (a,b,()))):=Zxi Zxw ZxO fun h=>Zux (T:=tC) laysF6 rfl Zxr Zxz h Zap.ok ZcK.1 ZcK.2
noncomputable def φB:Nat→Option FX:=fun n=>Zcj n ((111,.sp (.sort tC 112 (fun a b=>Zap.pre (a,b,())) (fun a b=>Zap.fn (a,b,()))))::Zvt)
theorem Zxv:∀ g fx,φB g=some fx→fx.Ok prog g:=Zbj Zwj Zrg
theorem ZxN:Zcb prog (walk τ0 κ7 φB):=Zby Za7 Zwb Zxv mixed
theorem Zxx:Zcb prog (walk τ0 κ7 φA):=Zby Za7 Zwb ZlH mixed
noncomputable def Zb.con:Con:=⟨[.d (.sl tC)],some fun x=>Zb.pre x,fun x=>Zbl [(.sl tC),.bool,tI] (Zb.fn x)⟩
theorem Zb.ok:ZW prog 75 Zb.con:=Zf (A:=.mk [(20,[.part 5]),(1000,[.own 5 tC])] [(0,⟨[.t 14 tI,.row 0 tC],[5],[31,30,27,29,28,26,25,24,23,9,8,22,21,18,20,19,7,17,16,15],[]⟩)] [] [] [(50,.mk [] [(2,⟨[.t 7 tI,.t 5 tI,.row 2 tC],[],[37,36,58,57,56,55,54,53,52,51,50,49,48,47,46,45,44,43,42,41,40,39,38,35,34,33,32],[]⟩),(0,⟨[.t 5 tI],[],[17,16,28,27,26,25,24,23,22,21,20,19,18,15,14,13,12],[]⟩)] [] [] []),(43,.mk [(1002,[.own 10 tC])] [(0,⟨[.t 20 tI,.smap 1 tI],[],[50,26,25,24,6,23,22,21,49,48,47,46,45,44,43,42,41,40,39,38,37,9,8,36,35,31,34,33,32,7,30,29,28,27],[]⟩),(2,⟨[.t 53 tI,.row 2 tC],[10],[95,74,73,72,71,70,69,14,13,68,67,60,66,65,64,63,62,61,59,58,57,12,56,55,54,90,89,88,87,86,85,84,16,15,83,82,75,81,80,79,78,77,76,94,91,93,92],[]⟩)] [] [] [])]) (Wp:=fun xs Q=>Zb.wp xs.1 Q) Za7 ZxN (Zbd Tryz.func75 (by kernel_rfl) (by kernel_rfl)) (fun xs Q=>by kernel_rfl) fun ⟨x0,_⟩ hl hp=>Zb.spec x0 hp
noncomputable def Zax.con:Con:=⟨[.d tS],none,fun x=>Zbl [tS,tI] (Zax.fn x)⟩
theorem Zax.ok:ZW prog 44 Zax.con:=Zf (A:=.mk [] [] [] [] []) (Wp:=fun xs Q=>Zax.wp xs.1 Q) Za7 Zxx (Zbd Tryz.func44 (by kernel_rfl) (by kernel_rfl)) (fun xs Q=>by kernel_rfl) fun ⟨x0,_⟩ hl hp=>Zax.spec x0
theorem Ziq(x0:PS.den (.d tI))(x1:PS.den (.d tL))(x2:PS.den (.d tI))(x3:PS.den (.d tL))(Q:List Int×Int→Prop):ZB.wp x0 x1 x2 x3 Q=fnL τ0 (walk τ0 κ0 φA) ZB.A (ZjB Tryz.f82) [.d tI,.d tL,.d tI,.d tL] (x0,x1,x2,x3,()) Q:=by kernel_rfl
theorem Zk9:Zq4 prog 82 ⟨[.d tI,.d tL,.d tI,.d tL],ZB.pre,ZB.fn⟩:=ZsE (A:=ZB.A) Za7 (Zby Za7 ZrC ZlH mixed) (Zbd Tryz.func82 (by kernel_rfl) (by kernel_rfl)) fun ⟨x0,x1,x2,x3,_⟩ hl hp=>Eq.mp (Ziq x0 x1 x2 x3 _) (ZB.spec x0 x1 x2 x3 hp)
noncomputable def Zu.κL:List (Nat×CX):=(82,.lin ⟨[.d tI,.d tL,.d tI,.d tL],ZB.pre,ZB.fn⟩)::κL7
noncomputable def Zu.κ:ZY:=fun n=>ZbW n Zu.κL
theorem Zu.κok:Zad prog Zu.κ:=ZkH (c:=.lin ⟨[.d tI,.d tL,.d tI,.d tL],ZB.pre,ZB.fn⟩) Zk9 (Zql)
noncomputable def Zu.con:Con:=⟨[.d (.sl tC),.d (.sl tC),.d tI],some fun x=>Zu.pre x,fun x=>Zbl [(.sl (.sl tC)),tI] (Zu.fn x)⟩
theorem Zu.ok:ZW prog 83 Zu.con:=Zf (A:=.mk [(1000,[.own 8 tI]),(1002,[.own 13 tC]),(1005,[.own 25 (.sl tC)]),(1009,[.own 25 (.sl tC)])] [(0,⟨[.t 41 tI,.row 0 tI],[8],[62,61,52,60,59,58,57,56,55,54,53,51,50,49,48,47,46,45,10,44,43,42],[]⟩),(2,⟨[.t 74 tI,.t 17 tI,.t 15 tI,.t 16 tI,.row 1 tI,.row 2 tC],[14,13],[136,85,84,20,83,82,81,80,79,78,19,77,76,75,130,126,71,129,128,127,122,125,124,123,119,116,118,117,114,111,105,102,101,115,113,112,110,109,108,107,106,104,103,22,100,99,98,97,96,95,94,93,92,91,90,21,89,88,87,86,135,134,131,133,132,121,120],[]⟩),(7,⟨[.t 174 tI,.row 7 tC],[27],[191,190,181,171,189,188,187,186,185,184,183,182,180,179,178,29,177,176,175],[]⟩),(5,⟨[.t 26 tI,.row 6 (.sl tC)],[25],[168,167,195,192,194,193,27,171,175,191,190,181,189,188,187,186,185,184,183,182,180,179,178,29,177,176,174,173,172,169,170,166,165,164],[]⟩),(13,⟨[.t 245 tI,.t 239 tL,.row 20 tC,.cell 18 0 (.sl tI),.cell 18 1 tI],[36],[256,255,249,242,254,253,252,251,250,38,248,247,246],[17]⟩),(11,⟨[.t 34 tI,.row 6 (.sl tC)],[25],[230,229,260,257,259,258,36,242,246,256,255,249,254,253,252,251,250,38,248,247,245,239,244,243,240,241,35,238,237,236,235,234,233,232,231,228,227,226],[]⟩),(9,⟨[.t 205 tI,.row 6 (.sl tC)],[],[261,221,220,219,218,217,216,215,214,213,212,211,210,209,32,208,207,206,228,227,226,230,229,260,257,259,258,36,242,246,256,255,249,254,253,252,251,250,38,248,247,245,239,244,243,240,241,35,238,237,236,235,234,233,232,231,34,33,225,224,223,222],[]⟩)] [] [] []) (Wp:=fun xs Q=>Zu.wp xs.1 xs.2.1 xs.2.2.1 Q) Za7 (Zby Za7 Zu.κok ZlH mixed) (Zbd Tryz.func83 (by kernel_rfl) (by kernel_rfl)) (fun xs Q=>by kernel_rfl) fun ⟨x0,x1,x2,_⟩ hl hp=>Zu.spec x0 x1 x2 hp
noncomputable def κL8:List (Nat×CX):=(75,.con Zb.con)::(44,.con Zax.con)::(83,.con Zu.con)::κL7
theorem ZtY:Zad prog (fun n=>ZbW n κL8):=Zh Zb.ok (Zh Zax.ok (Zh Zu.ok Zql))
noncomputable def κ8:ZY:=fun n=>ZbW n κL8
theorem ZwZ:Zad prog κ8:=ZtY
theorem ZwN:Zcb prog (walk τ0 κ8 φA):=Zby Za7 ZwZ ZlH mixed
noncomputable def Zag.con:Con:=⟨[.d tS],none,fun x=>Zbl [tS,tI] (Zag.fn x)⟩
theorem Zag.ok:ZW prog 40 Zag.con:=Zf (A:=.mk [] [] [] [] [(13,.mk [] [] [] [] [(10,.mk [] [] [] [] [(5000,.mk [(1000,[.ownc 15 0 (.sl tC)])] [(0,⟨[.t 7 tI,.row 20 (.sl tC),.smap 16 .bool],[],[15,14,13,12,11,4,10,9,8],[]⟩)] [] [] [])])])]) (Wp:=fun xs Q=>Zag.wp xs.1 Q) Za7 ZwN (Zbd Tryz.func40 (by kernel_rfl) (by kernel_rfl)) (fun xs Q=>by kernel_rfl) fun ⟨x0,_⟩ hl hp=>Zag.spec x0
noncomputable def ZQ.con:Con:=⟨[.d (.sl tC),.d tI,.d tI],some fun x=>ZQ.pre x,fun x=>Zbl [(.sl (.sl tC)),tI] (ZQ.fn x)⟩
theorem ZQ.ok:ZW prog 41 ZQ.con:=Zf (A:=.mk [(10,[.nxt 60]),(2,[.frzl 2,.frzl 4,.frzl 5,.frzl 6])] [] [] [] [(41,.mk [] [] [] [] [(5000,.mk [(1000,[.ownc 62 0 (.sl tC)])] [(0,⟨[.t 8 tI,.row 67 (.sl tC),.smap 63 .bool],[],[16,15,14,13,12,4,11,10,9],[]⟩)] [] [] [(6,.mk [(4,[.frzl 3]),(1000,[.ownc 62 0 (.sl tC)]),(1002,[.ownc 62 0 (.sl tC)])] [(0,⟨[.t 40 tI,.row 70 (.sl tC),.smap 63 .bool],[],[54,53,52,51,50,49,48,47,46,45,44,43,9,42,41],[]⟩),(4,⟨[.t 74 tI,.row 70 (.sl tC),.smap 63 .bool],[],[98,97,96,95,94,93,92,91,90,89,88,87,86,85,84,13,83,82,81,80,79,78,77,12,76,75],[]⟩),(2,⟨[.t 58 tI,.row 70 (.sl tC),.smap 63 .bool],[],[99,72,71,70,69,68,67,66,65,64,63,62,11,61,60,59,75,98,97,96,95,94,93,92,91,90,89,88,87,86,85,84,13,83,82,81,80,79,78,77,12,76,74,73],[]⟩)] [] [] [(15,.mk [(1000,[.own 5 tI])] [(0,⟨[.t 17 tI,.row 68 tI],[5],[30,29,21,28,27,26,25,24,23,22,7,20,19,18],[]⟩),(2,⟨[.t 45 tI,.row 69 tI,.row 3 (.pair tC (.pair tI tL))],[8],[96,95,88,39,94,93,92,91,90,89,87,86,85,84,83,82,81,80,79,78,77,76,75,74,73,72,71,70,69,68,67,66,65,64,63,62,61,60,59,58,11,57,56,55,54,53,52,51,50,9,10,49,48,47,46],[]⟩)] [] [] [])])])]),(18,.mk [(1000,[.ownc 1 1 tC,.ownc 1 2 (.pair tC (.pair tI tL)),.ownc 1 4 (.pair tC (.pair tI tL)),.ownc 1 5 (.pair tC (.pair tI tL)),.ownc 1 6 (.pair tC (.pair tI tL))])] [(0,⟨[.t 18 tI,.cell 1 0 tI,.cell 1 3 tI,.row 2 tC,.row 3 (.pair tC (.pair tI tL)),.row 6 (.pair tC (.pair tI tL)),.row 4 (.pair tC (.pair tI tL)),.row 5 (.pair tC (.pair tI tL))],[],[122,52,51,43,50,49,48,33,29,47,46,45,44,42,41,40,11,39,38,37,36,35,34,10,32,31,30,28,27,26,25,24,23,22,9,21,20,19,121,120,117,94,87,86,83,80,79,76,119,118,56,55,116,96,95,93,92,91,90,89,88,85,84,82,81,78,77,75,74,73,72,71,70,69,68,67,63,66,65,64,12,54,53,106,105,102,104,103,101,97,100,99,98,115,114,111,113,112,110,107,109,108,62,61,58,60,59,57],[]⟩)] [] [] []),(35,.mk [] [(2,⟨[.t 21 tI],[],[33,32,31,30,29,28,27,26,25,6,24,23,22],[]⟩),(0,⟨[.t 14 tI],[],[34,22,33,32,31,30,29,28,27,26,25,6,24,23,21,20,19,18,4,17,16,15],[]⟩)] [] [] [])]) (Wp:=fun xs Q=>ZQ.wp xs.1 xs.2.1 xs.2.2.1 Q) Za7 ZwN (Zbd Tryz.func41 (by kernel_rfl) (by kernel_rfl)) (fun xs Q=>by kernel_rfl) fun ⟨x0,x1,x2,_⟩ hl hp=>ZQ.spec x0 x1 x2 hp
noncomputable def Z1.con:Con:=⟨[.d (.sl tC),.d tI,.d tI],some fun x=>Z1.pre x,fun x=>Zbl [(.sl (.sl tC)),tI] (Z1.fn x)⟩
theorem Z1.ok:ZW prog 45 Z1.con:=Zf (A:=.mk [(1000,[.own 8 tC,.own 11 tC,.own 9 tC,.own 10 tC])] [(0,⟨[.t 28 tI,.t 12 tI,.row 0 tC,.row 1 tC,.row 2 tC,.row 3 tC],[8,11,9,10],[95,57,46,56,55,54,53,52,51,50,49,48,47,43,45,44,15,38,37,36,35,34,33,13,14,32,31,30,29,79,78,77,76,75,74,73,72,71,70,69,68,67,66,65,64,63,62,58,61,60,59,87,84,86,85,80,83,82,81,94,91,93,92,88,90,89,42,39,41,40],[]⟩),(5,⟨[.t 135 tI,.t 16 .bool],[],[158,157,156,155,154,153,152,151,150,149,148,147,146,145,144,143,142,141,140,139,20,138,137,136],[]⟩),(3,⟨[.t 129 tI,.t 16 .bool],[],[159,136,158,157,156,155,154,153,152,151,150,149,148,147,146,145,144,143,142,141,140,139,20,138,137,135,134,133,18,132,131,130],[]⟩),(9,⟨[.t 170 tI,.row 0 tC],[21],[200,199,174,161,8,198,197,196,195,194,193,192,191,190,189,188,187,186,185,184,183,182,181,180,179,178,177,176,175,25,173,172,171],[]⟩),(7,⟨[.t 164 tI,.row 0 tC],[],[201,171,200,199,174,161,8,198,197,196,195,194,193,192,191,190,189,188,187,186,185,184,183,182,181,180,179,178,177,176,175,25,173,172,170,169,168,23,167,166,165],[]⟩)] [] [] []) (Wp:=fun xs Q=>Z1.wp xs.1 xs.2.1 xs.2.2.1 Q) Za7 ZwN (Zbd Tryz.func45 (by kernel_rfl) (by kernel_rfl)) (fun xs Q=>by kernel_rfl) fun ⟨x0,x1,x2,_⟩ hl hp=>Z1.spec x0 x1 x2 hp
noncomputable def κL9:List (Nat×CX):=(40,.con Zag.con)::(41,.con ZQ.con)::(45,.con Z1.con)::κL8
theorem ZtZ:Zad prog (fun n=>ZbW n κL9):=Zh Zag.ok (Zh ZQ.ok (Zh Z1.ok ZtY))
noncomputable def κ9:ZY:=fun n=>ZbW n κL9
theorem ZvC:Zad prog κ9:=ZtZ
theorem Zxk:Zcb prog (walk τ0 κ9 φA):=Zby Za7 ZvC ZlH mixed
noncomputable def Za4.con:Con:=⟨[.d tS,.d tI],none,fun x=>Zbl [tS,tI] (Za4.fn x)⟩
theorem Za4.ok:ZW prog 14 Za4.con:=Zf (A:=.mk [(1000,[.own 8 (.sl tC)])] [(0,⟨[.t 39 tI,.row 3 (.sl tC)],[8],[58,57,55,56,52,51,12,11,50,49,43,48,47,46,45,44,10,42,41,40],[]⟩)] [] [] [(62,.mk [] [] [] [] [(5000,.mk [(1000,[.ownc 6 0 (.sl tC)])] [(0,⟨[.t 7 tI,.row 11 (.sl tC),.smap 7 .bool],[],[15,14,13,12,11,4,10,9,8],[]⟩)] [] [] [])])]) (Wp:=fun xs Q=>Za4.wp xs.1 xs.2.1 Q) Za7 Zxk (Zbd Tryz.func14 (by kernel_rfl) (by kernel_rfl)) (fun xs Q=>by kernel_rfl) fun ⟨x0,x1,_⟩ hl hp=>Za4.spec x0 x1
noncomputable def Za5.con:Con:=⟨[.d tS,.d tI],none,fun x=>Zbl [tS,tI] (Za5.fn x)⟩
theorem Za5.ok:ZW prog 15 Za5.con:=Zf (A:=.mk [(1000,[.own 8 (.sl tC)])] [(0,⟨[.t 38 tI,.row 3 (.sl tC)],[8],[57,56,54,55,51,50,12,11,49,48,42,47,46,45,44,43,10,41,40,39],[]⟩)] [] [] []) (Wp:=fun xs Q=>Za5.wp xs.1 xs.2.1 Q) Za7 Zxk (Zbd Tryz.func15 (by kernel_rfl) (by kernel_rfl)) (fun xs Q=>by kernel_rfl) fun ⟨x0,x1,_⟩ hl hp=>Za5.spec x0 x1
noncomputable def φR(N:Nat):Nat→Option FX:=fun n=>Zcj n ((85,.sp (.self (ZrE 85 (ZdV N) Zc3)))::Zvt)
def ZaK.A:An:=.mk [] [(0,⟨[.t 44 tI,.smap 2 .bool],[],[62,60,61,56,58,57,17,16,55,54,48,53,23,52,51,50,49,15,47,46,45],[]⟩)] [] [] []
theorem ZaK.walk(N:Nat)(x0:List Zc)(x1:Int)(x2:ByteArray→Option Bool)(Q:Bool×Int→(ByteArray→Option Bool)→Prop):ZaK.wp N x0 x1 x2 Q=Zw5 τ0 (walk τ0 κ9 (φR N)) ZaK.A (ZjB Tryz.f85) (ZrE 85 (ZdV (N+1)) Zc3) (x0,x1) x2 (fun r b=>Q r b):=by kernel_rfl
theorem ZaK.okN:∀ N,Sp.Ok prog 85 (.self (ZrE 85 (ZdV N) Zc3))
 | 0=>⟨Zkv _ _ _,(Zbd Tryz.func85 (by kernel_rfl) (by kernel_rfl)).call,fun E objs vs ks a b g hg hp=>absurd (show ZdV 0 a b from hp) (Ztt a b)⟩
 | N+1=>Ztv Za7 (Zby Za7 ZvC (Zbj (f:=85) (x:=.sp (.self (ZrE 85 (ZdV N) Zc3))) (ZaK.okN N) Zrg) mixed) (Zbd Tryz.func85 (by kernel_rfl) (by kernel_rfl)) (Zkv _ _ _) fun a b hp=>Eq.mp (ZaK.walk N a.1 a.2 b _) (ZaK.spec N a.1 a.2 b hp)
theorem ZaK.ok:Sp.Ok prog 85 (.self (ZrE 85 Zj7 Zc3)):=⟨Zkv _ _ _,(ZaK.okN 0).2.1,fun E objs vs ks a b g hg hp cs rv=>let ⟨N,h⟩:=Ztd a b hp;(ZaK.okN N).2.2 E objs vs ks a b g hg h cs rv⟩
noncomputable def φE:Nat→Option FX:=fun n=>Zcj n ((85,.sp (.self (ZrE 85 Zj7 Zc3)))::Zvt)
theorem ZxI:∀ g fx,φE g=some fx→fx.Ok prog g:=Zbj (f:=85) (x:=.sp (.self (ZrE 85 Zj7 Zc3))) ZaK.ok Zrg
noncomputable def Zw4:List (Nat×CX):=(14,.con Za4.con)::(15,.con Za5.con)::κL9
theorem Zqq:Zad prog (fun n=>ZbW n Zw4):=Zh Za4.ok (Zh Za5.ok ZtZ)
noncomputable def κ10:ZY:=fun n=>ZbW n Zw4
theorem ZtQ:Zad prog κ10:=Zqq
theorem ZwF:Zcb prog (walk τ0 κ10 φE):=Zby Za7 ZtQ ZxI mixed
theorem Zv4:Zcb prog (walk τ0 κ10 φA):=Zby Za7 ZtQ ZlH mixed
noncomputable def ZaZ.con:Con:=⟨[.d tS],none,fun x=>Zbl [.bool,tI] (ZaZ.fn x)⟩
theorem ZaZ.ok:ZW prog 18 ZaZ.con:=Zf (A:=.mk [] [(0,⟨[.t 26 tI,.smap 2 .bool],[],[44,42,41,40,39,38,10,9,37,36,30,35,34,33,32,31,8,29,28,27],[]⟩)] [] [] []) (Wp:=fun xs Q=>ZaZ.wp xs.1 Q) Za7 ZwF (Zbd Tryz.func18 (by kernel_rfl) (by kernel_rfl)) (fun xs Q=>by kernel_rfl) fun ⟨x0,_⟩ hl hp=>ZaZ.spec x0
noncomputable def Za0.con:Con:=⟨[.d tS,.d (.sl tI)],none,fun x=>Zbl [tS,tI] (Za0.fn x)⟩
theorem Za0.ok:ZW prog 28 Za0.con:=Zf (A:=.mk [(1002,[.ownc 3 1 (.sl tC)])] [(0,⟨[.t 20 tI,.row 2 .bool],[],[40,39,38,36,35,34,33,32,31,30,29,28,27,26,25,24,8,23,22,21],[]⟩),(2,⟨[.t 47 tI,.cell 3 0 tI,.row 4 (.sl tC)],[],[58,57,56,52,55,54,53,51,11,50,49,48],[]⟩),(4,⟨[.t 12 tI,.cell 3 0 tI,.cell 3 1 (.sl (.sl tC))],[],[65,64,76,75,13,74,73,69,72,70,71,68,67,66,63,62],[4]⟩)] [] [] []) (Wp:=fun xs Q=>Za0.wp xs.1 xs.2.1 Q) Za7 Zv4 (Zbd Tryz.func28 (by kernel_rfl) (by kernel_rfl)) (fun xs Q=>by kernel_rfl) fun ⟨x0,x1,_⟩ hl hp=>Za0.spec x0 x1 hl.2.1.1
noncomputable def ZaJ.con:Con:=⟨[.d tS,.d (.sl tI)],none,fun x=>Zbl [tS,tI] (ZaJ.fn x)⟩
theorem ZaJ.ok:ZW prog 30 ZaJ.con:=Zf (A:=.mk [] [(0,⟨[.t 20 tI,.row 2 .bool],[],[42,41,40,39,37,36,35,34,33,32,31,30,29,28,27,26,25,24,8,23,22,21],[]⟩),(2,⟨[.t 10 tI,.t 9 tI,.cell 0 0 tI,.cell 0 1 (.sl (.sl tC))],[],[49,48,63,62,58,61,60,59,57,56,55,54,53,52,51,50,47,46],[]⟩)] [] [] []) (Wp:=fun xs Q=>ZaJ.wp xs.1 xs.2.1 Q) Za7 Zv4 (Zbd Tryz.func30 (by kernel_rfl) (by kernel_rfl)) (fun xs Q=>by kernel_rfl) fun ⟨x0,x1,_⟩ hl hp=>ZaJ.spec x0 x1 hl.2.1.1
noncomputable def ZwX:List (Nat×CX):=(18,.con ZaZ.con)::(28,.con Za0.con)::(30,.con ZaJ.con)::Zw4
theorem Zqn:Zad prog (fun n=>ZbW n ZwX):=Zh ZaZ.ok (Zh Za0.ok (Zh ZaJ.ok Zqq))
noncomputable def κ11:ZY:=fun n=>ZbW n ZwX
theorem ZvG:Zad prog κ11:=Zqn
theorem ZuC:Zcb prog (walk τ0 κ11 φA):=Zby Za7 ZvG ZlH mixed
noncomputable def Zy.con:Con:=⟨[],none,fun x=>Zbl [.bool] (Zy.fn x)⟩
theorem Zy.ok:ZW prog 13 Zy.con:=Zf (A:=.mk [] [] [] [] []) (Wp:=fun xs Q=>Zy.wp  Q) Za7 ZuC (Zbd Tryz.func13 (by kernel_rfl) (by kernel_rfl)) (fun xs Q=>by kernel_rfl) fun () hl hp=>by first | exact Zy.spec   | exact Zy.spec  hp | exact Zy.spec  hl.1 | exact Zy.spec  hl.1 hp | exact Zy.spec  hl.1.1 | exact Zy.spec  hl.1.1 hp | exact Zy.spec  hl.1.1.1 | exact Zy.spec  hl.1.1.1 hp | exact Zy.spec  hl.1.2.1 | exact Zy.spec  hl.1.2.1 hp | exact Zy.spec  hl.2.1 | exact Zy.spec  hl.2.1 hp | exact Zy.spec  hl.2.1.1 | exact Zy.spec  hl.2.1.1 hp | exact Zy.spec  hl.2.1.1.1 | exact Zy.spec  hl.2.1.1.1 hp | exact Zy.spec  hl.2.2.1.1 (fun s hs=>(hl.2.2.1.2 s hs).2.1) | exact Zy.spec  hl.2.2.2.1.1 (fun s hs=>⟨(hl.2.2.2.1.2 s hs).2.1,fun p hp=>⟨((hl.2.2.2.1.2 s hs).2.2 p hp).1,fun c hc=>(((hl.2.2.2.1.2 s hs).2.2 p hp).2 c hc).2.2.1.1⟩⟩)
noncomputable def Zbk.con:Con:=⟨[.d tS,.d tI],none,fun x=>Zbl [tS,tI] (Zbk.fn x)⟩
theorem Zbk.ok:ZW prog 31 Zbk.con:=Zf (A:=.mk [(1000,[.own 6 tI])] [(0,⟨[.t 7 tI,.row 2 tI],[6],[27,26,31,28,30,29,25,24,23,22],[]⟩)] [] [] []) (Wp:=fun xs Q=>Zbk.wp xs.1 xs.2.1 Q) Za7 ZuC (Zbd Tryz.func31 (by kernel_rfl) (by kernel_rfl)) (fun xs Q=>by kernel_rfl) fun ⟨x0,x1,_⟩ hl hp=>Zbk.spec x0 x1
noncomputable def Zbo.con:Con:=⟨[.d tS,.d tI],none,fun x=>Zbl [tS,tI] (Zbo.fn x)⟩
theorem Zbo.ok:ZW prog 32 Zbo.con:=Zf (A:=.mk [(1000,[.own 6 tI])] [(0,⟨[.t 7 tI,.row 2 tI],[6],[27,26,31,28,30,29,25,24,23,22],[]⟩)] [] [] []) (Wp:=fun xs Q=>Zbo.wp xs.1 xs.2.1 Q) Za7 ZuC (Zbd Tryz.func32 (by kernel_rfl) (by kernel_rfl)) (fun xs Q=>by kernel_rfl) fun ⟨x0,x1,_⟩ hl hp=>Zbo.spec x0 x1
noncomputable def Zxc:List (Nat×CX):=(13,.con Zy.con)::(31,.con Zbk.con)::(32,.con Zbo.con)::ZwX
theorem Zun:Zad prog (fun n=>ZbW n Zxc):=Zh Zy.ok (Zh Zbk.ok (Zh Zbo.ok Zqn))
noncomputable def κ12:ZY:=fun n=>ZbW n Zxc
theorem ZvE:Zad prog κ12:=Zun
def law05_ElimMany.A:An:=.mk [] [] [] [] []
theorem law05_ElimMany.walk(x0:PS.den (.d tS))(x1:PS.den (.d (.sl tI)))(x2:PS.den (.d tI))(Q:Zeg [.bool]→Prop):law05_ElimMany.wp x0 x1 x2 Q=fnW τ0 (walk τ0 κ12 φA) law05_ElimMany.A (ZjB Tryz.f9) [.d tS,.d (.sl tI),.d tI] [.bool] (x0,x1,x2,()) Q:=by kernel_rfl
theorem law05_ElimMany.calls(x0:PS.den (.d tS))(x1:PS.den (.d (.sl tI)))(x2:PS.den (.d tI)){W:World}(hS:Sok prog W (ZtR W)){args:Array Value}(hr:Zbi prog (Zr8 W) (Zjr [.d tS,.d (.sl tI),.d tI] (x0,x1,x2,())) args.toList):Calls prog 9 args W fun e w'=>e=.returned (.bool true)∧RowKit.Below W.heap.size W w' :=
 Zqw Za7 (Zby Za7 ZvE ZlH mixed) (Zbd Tryz.func9 (by kernel_rfl) (by kernel_rfl)) (law05_ElimMany.walk x0 x1 x2 _) (law05_ElimMany.spec x0 x1 x2) hS hr
end Go.Proofs.YtgpdnmfpgkkgcaaGreatDoor
