/- Part of a proof that a law of the program holds for every input: printed by a program of this work: how the functions are walked. No conditions. -/
import Derived.Test.YtgpdnmfpgkkgcaaGreatDoorP15
namespace Go.Proofs.YtgpdnmfpgkkgcaaGreatDoor
open Go
set_option linter.unusedVariables false
set_option maxRecDepth 8000
set_option maxHeartbeats 4000000
abbrev tI:Ty:=.int .i64
abbrev tC:Ty:=(.pair (.int .i64) (.pair (.int .i64) (.pair (.sl (.int .i64)) (.int .i64))))
abbrev tS:Ty:=.pair (.int .i64) (.sl (.sl tC))
abbrev tL:Ty:=.pair (.sl (.int .i64)) (.int .i64)
noncomputable def φL0:List (Nat×FX):=[]
theorem Zyi:∀ g fx,(fun n=>Zcu n φL0) g=some fx→fx.Ok prog g:=Zs9
noncomputable def φL1:List (Nat×FX):=(77,.fi (ZiP Tryz.f77))::φL0
theorem ZyB:∀ g fx,(fun n=>Zcu n φL1) g=some fx→fx.Ok prog g:=Zbj (Za9 Tryz.func77 (by kernel_rfl) (by kernel_rfl)) Zyi
noncomputable def φL2:List (Nat×FX):=(110,.fi (ZiP Tryz.f110))::φL1
theorem Zyo:∀ g fx,(fun n=>Zcu n φL2) g=some fx→fx.Ok prog g:=Zbj (Za9 Tryz.func110 (by kernel_rfl) (by kernel_rfl)) ZyB
noncomputable def φL3:List (Nat×FX):=(113,.fi (ZiP Tryz.f113))::φL2
theorem Zyn:∀ g fx,(fun n=>Zcu n φL3) g=some fx→fx.Ok prog g:=Zbj (Za9 Tryz.func113 (by kernel_rfl) (by kernel_rfl)) Zyo
noncomputable def φL4:List (Nat×FX):=(42,.fi (ZiP Tryz.f42))::φL3
theorem Zyr:∀ g fx,(fun n=>Zcu n φL4) g=some fx→fx.Ok prog g:=Zbj (Za9 Tryz.func42 (by kernel_rfl) (by kernel_rfl)) Zyn
noncomputable def φL5:List (Nat×FX):=(66,.fi (ZiP Tryz.f66))::φL4
theorem ZyC:∀ g fx,(fun n=>Zcu n φL5) g=some fx→fx.Ok prog g:=Zbj (Za9 Tryz.func66 (by kernel_rfl) (by kernel_rfl)) Zyr
noncomputable def φL6:List (Nat×FX):=(67,.fi (ZiP Tryz.f67))::φL5
theorem Zyz:∀ g fx,(fun n=>Zcu n φL6) g=some fx→fx.Ok prog g:=Zbj (Za9 Tryz.func67 (by kernel_rfl) (by kernel_rfl)) ZyC
noncomputable def φL7:List (Nat×FX):=(69,.fi (ZiP Tryz.f69))::φL6
theorem Zyf:∀ g fx,(fun n=>Zcu n φL7) g=some fx→fx.Ok prog g:=Zbj (Za9 Tryz.func69 (by kernel_rfl) (by kernel_rfl)) Zyz
noncomputable def φL8:List (Nat×FX):=(101,.fi (ZiP Tryz.f101))::φL7
theorem Zyw:∀ g fx,(fun n=>Zcu n φL8) g=some fx→fx.Ok prog g:=Zbj (Za9 Tryz.func101 (by kernel_rfl) (by kernel_rfl)) Zyf
noncomputable def φL9:List (Nat×FX):=(103,.fi (ZiP Tryz.f103))::φL8
theorem Zyp:∀ g fx,(fun n=>Zcu n φL9) g=some fx→fx.Ok prog g:=Zbj (Za9 Tryz.func103 (by kernel_rfl) (by kernel_rfl)) Zyw
noncomputable def Zx4:List (Nat×FX):=(73,.fi (ZiP Tryz.f73))::φL9
theorem ZxH:∀ g fx,(fun n=>Zcu n Zx4) g=some fx→fx.Ok prog g:=Zbj (Za9 Tryz.func73 (by kernel_rfl) (by kernel_rfl)) Zyp
noncomputable def Zx0:List (Nat×FX):=(72,.fi (ZiP Tryz.f72))::Zx4
theorem Zxy:∀ g fx,(fun n=>Zcu n Zx0) g=some fx→fx.Ok prog g:=Zbj (Za9 Tryz.func72 (by kernel_rfl) (by kernel_rfl)) ZxH
noncomputable def ZxV:List (Nat×FX):=(74,.fi (ZiP Tryz.f74))::Zx0
theorem ZxJ:∀ g fx,(fun n=>Zcu n ZxV) g=some fx→fx.Ok prog g:=Zbj (Za9 Tryz.func74 (by kernel_rfl) (by kernel_rfl)) Zxy
noncomputable def ZxX:List (Nat×FX):=(47,.fi (ZiP Tryz.f47))::ZxV
theorem ZxQ:∀ g fx,(fun n=>Zcu n ZxX) g=some fx→fx.Ok prog g:=Zbj (Za9 Tryz.func47 (by kernel_rfl) (by kernel_rfl)) ZxJ
noncomputable def Zx3:List (Nat×FX):=(143,.fi (ZiP Tryz.f143))::ZxX
theorem ZxI:∀ g fx,(fun n=>Zcu n Zx3) g=some fx→fx.Ok prog g:=Zbj (Za9 Tryz.func143 (by kernel_rfl) (by kernel_rfl)) ZxQ
noncomputable def ZvX:List (Nat×FX):=(95,.fi (ZiP Tryz.f95))::Zx3
theorem ZrK:∀ g fx,(fun n=>Zcu n ZvX) g=some fx→fx.Ok prog g:=Zbj (Za9 Tryz.func95 (by kernel_rfl) (by kernel_rfl)) ZxI
noncomputable def φA:Nat→Option FX:=fun n=>Zcu n ZvX
theorem Zkl:∀ g fx,φA g=some fx→fx.Ok prog g:=ZrK
noncomputable def φC:Nat→Option FX:=fun n=>Zcu n ((115,.sp .appInt)::ZvX)
theorem ZxZ:∀ g fx,φC g=some fx→fx.Ok prog g:=Zbj Zxs ZrK
noncomputable def κL0:List (Nat×CX):=(68,.clo 69)::κR
theorem ZuS:Zak prog (fun n=>Zb7 n κL0):=Zk1 (c:=.clo 69) (Ztp (Za9 Tryz.func68 (by kernel_rfl) (by kernel_rfl)) rfl) (Zxv)
noncomputable def κ0:Z1:=fun n=>Zb7 n κL0
theorem ZqX:Zak prog κ0:=ZuS
theorem ZfB:Zct prog (walk τ0 κ0 φA):=ZbC Za1 ZqX Zkl mixed
theorem Zyk:Zct prog (walk τ0 κ0 φC):=ZbC Za1 ZqX ZxZ mixed
theorem Zyl:Zct prog (walk τw κ0 φA):=ZbC ZxW ZqX Zkl mixed
noncomputable def ZbV.con:Con:=⟨[.d tI],none,fun x=>Zbo [.bool] (ZbV.fn x)⟩
theorem ZbV.ok:ZQ prog 138 ZbV.con:=Zf (A:=.mk [] [] [] [] []) (Wp:=fun xs Q=>ZbV.wp xs.1 Q) Za1 ZfB (Za9 Tryz.func138 (by kernel_rfl) (by kernel_rfl)) (fun xs Q=>by kernel_rfl) fun ⟨x0,_⟩ hl hp=>ZbV.spec x0
noncomputable def ZK.con:Con:=⟨[.d (.sl (.sl tC))],none,fun x=>.fn (.func 77) [] [.er [.d (.sl (.sl tC)) x.1]]⟩
theorem ZK.val(xs:Zcs [.d (.sl (.sl tC))])(Q:V→Prop):Q (ZK.con.res xs)=fnV τ0 (walk τ0 κ0 φA) An.none (ZiP Tryz.f43) [.d (.sl (.sl tC))] xs Q:=by kernel_rfl
theorem ZK.ok:ZQ prog 43 ZK.con:=Zm4 Za1 (ZbC Za1 ZqX Zkl mixed) (Za9 Tryz.func43 (by kernel_rfl) (by kernel_rfl)) fun xs _ _=>Eq.mp (ZK.val xs _) rfl
noncomputable def Zk.con:Con:=⟨[.d (.sl tC),.f [tC] [.bool]],some fun x=>Zk.pre x,fun x=>Zbo [tI] (Zk.fn x)⟩
theorem Zk.ok:ZQ prog 122 Zk.con:=Zf (A:=.mk [] [(0,⟨[.t 8 tI],[],[18,16,15,14,13,12,11,5,10,9],[]⟩)] [] [] []) (Wp:=fun xs Q=>Zk.wp xs.1 xs.2.1 Q) Za1 ZfB (Za9 Tryz.func122 (by kernel_rfl) (by kernel_rfl)) (fun xs Q=>by kernel_rfl) fun ⟨x0,x1,_⟩ hl hp=>Zk.spec x0 x1 hl.1.1 hp
noncomputable def ZG.con:Con:=⟨[.d (.sl tI),.d (.int .u64),.f [(.int .u64),tI] [(.int .u64)]],some fun x=>ZG.pre x,fun x=>Zbo [(.int .u64)] (ZG.fn x)⟩
theorem ZG.ok:ZQ prog 146 ZG.con:=Zf (A:=.mk [] [(0,⟨[.t 11 tI,.t 1 (.int .u64)],[],[19,18,17,16,15,8,14,13,12],[]⟩)] [] [] []) (Wp:=fun xs Q=>ZG.wp xs.1 xs.2.1 xs.2.2.1 Q) Za1 ZfB (Za9 Tryz.func146 (by kernel_rfl) (by kernel_rfl)) (fun xs Q=>by kernel_rfl) fun ⟨x0,x1,x2,_⟩ hl hp=>ZG.spec x0 x1 x2 hl.1.1 hp
noncomputable def Zal.con:Con:=⟨[.d (.int .u64),.d (.int .u64)],none,fun x=>Zbo [(.int .u64)] (Zal.fn x)⟩
theorem Zal.ok:ZQ prog 148 Zal.con:=Zf (A:=.mk [] [(0,⟨[.t 1 (.int .u64),.t 0 (.int .u64)],[],[10,9,8,7,6,5],[]⟩)] [] [] []) (Wp:=fun xs Q=>Zal.wp xs.1 xs.2.1 Q) Za1 ZfB (Za9 Tryz.func148 (by kernel_rfl) (by kernel_rfl)) (fun xs Q=>by kernel_rfl) fun ⟨x0,x1,_⟩ hl hp=>Zal.spec x0 x1
noncomputable def Zbw.con:Con:=⟨[.d tI],none,fun x=>Zbo [(.int .u64)] (Zbw.fn x)⟩
theorem Zbw.ok:ZQ prog 184 Zbw.con:=Zf (A:=.mk [] [] [] [] []) (Wp:=fun xs Q=>Zbw.wp xs.1 Q) Za1 ZfB (Za9 Tryz.func184 (by kernel_rfl) (by kernel_rfl)) (fun xs Q=>by kernel_rfl) fun ⟨x0,_⟩ hl hp=>Zbw.spec x0
noncomputable def Za5.con:Con:=⟨[.d .bool],none,fun x=>Zbo [tC,tI] (Za5.fn x)⟩
theorem Za5.ok:ZQ prog 170 Za5.con:=Zf (A:=.mk [] [] [] [] []) (Wp:=fun xs Q=>Za5.wp xs.1 Q) Za1 ZfB (Za9 Tryz.func170 (by kernel_rfl) (by kernel_rfl)) (fun xs Q=>by kernel_rfl) fun ⟨x0,_⟩ hl hp=>Za5.spec x0
noncomputable def ZaH.con:Con:=⟨[.d tI,.d tI],some fun x=>ZaH.pre x,fun x=>Zbo [tI,tI] (ZaH.fn x)⟩
theorem ZaH.ok:ZQ prog 171 ZaH.con:=Zf (A:=.mk [] [] [] [] []) (Wp:=fun xs Q=>ZaH.wp xs.1 xs.2.1 Q) Za1 ZfB (Za9 Tryz.func171 (by kernel_rfl) (by kernel_rfl)) (fun xs Q=>by kernel_rfl) fun ⟨x0,x1,_⟩ hl hp=>ZaH.spec x0 x1 hp
noncomputable def ZB.con:Con:=⟨[.d tC,.d tI],some fun x=>ZB.pre x,fun x=>Zbo [(.sl tI)] (ZB.fn x)⟩
theorem ZB.ok:ZQ prog 172 ZB.con:=Zf (A:=.mk [] [(0,⟨[.t 19 tI,.row 1 tI],[],[30,29,28,27,26,25,24,7,6,23,22,21,20],[]⟩)] [] [] []) (Wp:=fun xs Q=>ZB.wp xs.1 xs.2.1 Q) Za1 ZfB (Za9 Tryz.func172 (by kernel_rfl) (by kernel_rfl)) (fun xs Q=>by kernel_rfl) fun ⟨x0,x1,_⟩ hl hp=>ZB.spec x0 x1 hp
noncomputable def Zbq.con:Con:=⟨[.d tI,.d tI],some fun x=>Zbq.pre x,fun x=>Zbo [tI,tI] (Zbq.fn x)⟩
theorem Zbq.ok:ZQ prog 173 Zbq.con:=Zf (A:=.mk [] [] [] [] []) (Wp:=fun xs Q=>Zbq.wp xs.1 xs.2.1 Q) Za1 ZfB (Za9 Tryz.func173 (by kernel_rfl) (by kernel_rfl)) (fun xs Q=>by kernel_rfl) fun ⟨x0,x1,_⟩ hl hp=>Zbq.spec x0 x1 hp
noncomputable def ZaO.con:Con:=⟨[.d (.sl tI),.d tI],some fun x=>ZaO.pre x,fun x=>Zbo [.str] (ZaO.fn x)⟩
theorem ZaO.ok:ZQ prog 116 ZaO.con:=Zf (A:=.mk [(1000,[.own 5 (.int .u8)])] [(0,⟨[.t 10 tI,.row 0 (.int .u8)],[5],[22,21,19,18,20,14,17,16,15,7,13,12,11],[]⟩)] [] [] []) (Wp:=fun xs Q=>ZaO.wp xs.1 xs.2.1 Q) Za1 Zyk (Za9 Tryz.func116 (by kernel_rfl) (by kernel_rfl)) (fun xs Q=>by kernel_rfl) fun ⟨x0,x1,_⟩ hl hp=>ZaO.spec x0 x1 hp
noncomputable def ZbA.con:Con:=⟨[.d (.sl tI)],none,fun x=>Zbo [tI] (ZbA.fn x)⟩
theorem ZbA.ok:ZQ prog 134 ZbA.con:=Zf (A:=.mk [] [(0,⟨[.t 8 tI],[],[16,14,13,12,5,11,10,9],[]⟩)] [] [] []) (Wp:=fun xs Q=>ZbA.wp xs.1 Q) Za1 ZfB (Za9 Tryz.func134 (by kernel_rfl) (by kernel_rfl)) (fun xs Q=>by kernel_rfl) fun ⟨x0,_⟩ hl hp=>ZbA.spec x0 hl.1.1
noncomputable def Zan.con:Con:=⟨[.d tI],none,fun x=>Zbo [.bool] (Zan.fn x)⟩
theorem Zan.ok:ZQ prog 162 Zan.con:=Zf (A:=.mk [] [] [] [] []) (Wp:=fun xs Q=>Zan.wp xs.1 Q) Za1 ZfB (Za9 Tryz.func162 (by kernel_rfl) (by kernel_rfl)) (fun xs Q=>by kernel_rfl) fun ⟨x0,_⟩ hl hp=>Zan.spec x0
noncomputable def ZO.con:Con:=⟨[.d tI,.d tL,.d tI,.d tL],some fun x=>ZO.pre x,fun x=>Zbo [tL] (ZO.fn x)⟩
theorem ZO.ok:ZQ prog 102 ZO.con:=Zf (A:=.mk [] [(0,⟨[.t 28 tI,.row 6 tI],[],[50,49,48,47,46,45,44,43,42,41,40,39,38,37,36,35,34,33,32,31,10,30,29],[]⟩)] [] [] []) (Wp:=fun xs Q=>ZO.wp xs.1 xs.2.1 xs.2.2.1 xs.2.2.2.1 Q) Za1 ZfB (Za9 Tryz.func102 (by kernel_rfl) (by kernel_rfl)) (fun xs Q=>by kernel_rfl) fun ⟨x0,x1,x2,x3,_⟩ hl hp=>ZO.spec x0 x1 x2 x3 hp
noncomputable def Zau.con:Con:=⟨[.d tL,.d tI],some fun x=>Zau.pre x,fun x=>Zbo [tL] (Zau.fn x)⟩
theorem Zau.ok:ZQ prog 105 Zau.con:=Zf (A:=.mk [] [] [] [] []) (Wp:=fun xs Q=>Zau.wp xs.1 xs.2.1 Q) Za1 ZfB (Za9 Tryz.func105 (by kernel_rfl) (by kernel_rfl)) (fun xs Q=>by kernel_rfl) fun ⟨x0,x1,_⟩ hl hp=>Zau.spec x0 x1 hp
noncomputable def ZaC.con:Con:=⟨[.d (.sl tC),.d tI],some fun x=>ZaC.pre x,fun x=>Zbo [tI] (ZaC.fn x)⟩
theorem ZaC.ok:ZQ prog 58 ZaC.con:=Zf (A:=.mk [] [(2,⟨[.t 29 tI,.t 5 tI,.t 6 tI,.row 1 tI,.row 3 tI],[],[77,34,36,35,12,11,33,32,31,30,52,51,50,49,48,47,46,45,44,43,42,41,37,40,39,38,66,65,64,63,62,61,53,60,59,58,57,56,55,54,76,75,74,73,72,71,67,70,69,68],[]⟩),(0,⟨[.t 21 tI,.t 5 tI,.t 6 tI,.row 1 tI,.row 3 tI],[],[78,30,77,34,36,35,12,11,33,32,31,52,51,50,49,48,47,46,45,44,43,42,41,37,40,39,38,66,65,64,63,62,61,53,60,59,58,57,56,55,54,76,75,74,73,72,71,67,70,69,68,29,28,27,26,25,10,24,23,22],[]⟩),(5,⟨[.t 86 tI,.t 13 tI],[],[109,108,107,106,105,104,103,102,101,100,99,98,97,96,95,94,93,92,91,90,89,14,88,87],[]⟩)] [] [] []) (Wp:=fun xs Q=>ZaC.wp xs.1 xs.2.1 Q) Za1 ZfB (Za9 Tryz.func58 (by kernel_rfl) (by kernel_rfl)) (fun xs Q=>by kernel_rfl) fun ⟨x0,x1,_⟩ hl hp=>ZaC.spec x0 x1 hp
noncomputable def Zbn.con:Con:=⟨[.d tL,.d tL],none,fun x=>Zbo [.bool] (Zbn.fn x)⟩
theorem Zbn.ok:ZQ prog 127 Zbn.con:=Zf (A:=.mk [] [(0,⟨[.t 23 tI],[],[37,36,35,34,33,32,31,30,29,28,27,26,5,25,24],[]⟩)] [] [] []) (Wp:=fun xs Q=>Zbn.wp xs.1 xs.2.1 Q) Za1 ZfB (Za9 Tryz.func127 (by kernel_rfl) (by kernel_rfl)) (fun xs Q=>by kernel_rfl) fun ⟨x0,x1,_⟩ hl hp=>Zbn.spec x0 x1 hl.1.1.1
noncomputable def ZbQ.con:Con:=⟨[.d tI,.d (.sl tI)],none,fun x=>Zbo [tC] (ZbQ.fn x)⟩
theorem ZbQ.ok:ZQ prog 37 ZbQ.con:=Zf (A:=.mk [] [] [] [] []) (Wp:=fun xs Q=>ZbQ.wp xs.1 xs.2.1 Q) Za1 ZfB (Za9 Tryz.func37 (by kernel_rfl) (by kernel_rfl)) (fun xs Q=>by kernel_rfl) fun ⟨x0,x1,_⟩ hl hp=>ZbQ.spec x0 x1
noncomputable def Zaw.con:Con:=⟨[.d tI,.d tI],none,fun x=>Zbo [(.sl tC)] (Zaw.fn x)⟩
theorem Zaw.ok:ZQ prog 38 Zaw.con:=Zf (A:=.mk [] [] [] [] []) (Wp:=fun xs Q=>Zaw.wp xs.1 xs.2.1 Q) Za1 ZfB (Za9 Tryz.func38 (by kernel_rfl) (by kernel_rfl)) (fun xs Q=>by kernel_rfl) fun ⟨x0,x1,_⟩ hl hp=>Zaw.spec x0 x1
noncomputable def Z2.con:Con:=⟨[.d tI,.d tI,.d (.sl tS)],none,fun x=>Zbo [.bool] (Z2.fn x)⟩
theorem Z2.ok:ZQ prog 12 Z2.con:=Zf (A:=.mk [] [(2,⟨[.t 26 tI],[],[34,33,32,31,30,11,29,28,27],[]⟩),(0,⟨[.t 14 tI,.t 7 tI],[],[35,27,34,33,32,31,30,11,29,28,26,25,24,23,22,21,20,19,18,9,17,16,15],[]⟩)] [] [] []) (Wp:=fun xs Q=>Z2.wp xs.1 xs.2.1 xs.2.2.1 Q) ZxW Zyl (Za9 Tryz.func12 (by kernel_rfl) (by kernel_rfl)) (fun xs Q=>by kernel_rfl) fun ⟨x0,x1,x2,_⟩ hl hp=>by first | exact Z2.spec x0 x1 x2  | exact Z2.spec x0 x1 x2 hp | exact Z2.spec x0 x1 x2 hl.1 | exact Z2.spec x0 x1 x2 hl.1 hp | exact Z2.spec x0 x1 x2 hl.1.1 | exact Z2.spec x0 x1 x2 hl.1.1 hp | exact Z2.spec x0 x1 x2 hl.1.1.1 | exact Z2.spec x0 x1 x2 hl.1.1.1 hp | exact Z2.spec x0 x1 x2 hl.1.2.1 | exact Z2.spec x0 x1 x2 hl.1.2.1 hp | exact Z2.spec x0 x1 x2 hl.2.1 | exact Z2.spec x0 x1 x2 hl.2.1 hp | exact Z2.spec x0 x1 x2 hl.2.1.1 | exact Z2.spec x0 x1 x2 hl.2.1.1 hp | exact Z2.spec x0 x1 x2 hl.2.1.1.1 | exact Z2.spec x0 x1 x2 hl.2.1.1.1 hp | exact Z2.spec x0 x1 x2 hl.2.2.1.1 (fun s hs=>(hl.2.2.1.2 s hs).2.1) | exact Z2.spec x0 x1 x2 hl.2.2.2.1.1 (fun s hs=>⟨(hl.2.2.2.1.2 s hs).2.1,fun p hp=>⟨((hl.2.2.2.1.2 s hs).2.2 p hp).1,fun c hc=>(((hl.2.2.2.1.2 s hs).2.2 p hp).2 c hc).2.2.1.1⟩⟩)
noncomputable def Zbg.con:Con:=⟨[.d tI],none,fun x=>Zbo [.bool] (Zbg.fn x)⟩
theorem Zbg.ok:ZQ prog 121 Zbg.con:=Zf (A:=.mk [] [] [] [] []) (Wp:=fun xs Q=>Zbg.wp xs.1 Q) Za1 ZfB (Za9 Tryz.func121 (by kernel_rfl) (by kernel_rfl)) (fun xs Q=>by kernel_rfl) fun ⟨x0,_⟩ hl hp=>Zbg.spec x0
noncomputable def Zh.con:Con:=⟨[.d (.sl (.sl tC))],some fun x=>Zh.pre x,fun x=>Zbo [(.sl tC)] (Zh.fn x)⟩
theorem Zh.ok:ZQ prog 128 Zh.con:=Zf (A:=.mk [(1002,[.own 6 tC,.zero 6])] [(0,⟨[.t 11 tI,.t 3 tI],[],[22,20,19,18,17,16,15,5,14,13,12],[]⟩),(2,⟨[.t 27 tI,.row 0 tC],[6],[34,33,31,32,8,30,29,28],[]⟩)] [] [] []) (Wp:=fun xs Q=>Zh.wp xs.1 Q) Za1 ZfB (Za9 Tryz.func128 (by kernel_rfl) (by kernel_rfl)) (fun xs Q=>by kernel_rfl) fun ⟨x0,_⟩ hl hp=>Zh.spec x0 hp
noncomputable def Z5.con:Con:=⟨[.d tL,.d tI],some fun x=>Z5.pre x,fun x=>Zbo [tL] (Z5.fn x)⟩
theorem Z5.ok:ZQ prog 168 Z5.con:=Zf (A:=.mk [] [(0,⟨[.t 20 tI,.row 5 tI],[],[31,30,29,28,27,26,25,7,6,24,23,22,21],[]⟩)] [] [] []) (Wp:=fun xs Q=>Z5.wp xs.1 xs.2.1 Q) Za1 ZfB (Za9 Tryz.func168 (by kernel_rfl) (by kernel_rfl)) (fun xs Q=>by kernel_rfl) fun ⟨x0,x1,_⟩ hl hp=>Z5.spec x0 x1 hp
noncomputable def ZaA.con:Con:=⟨[.d tI,.d tI],some fun x=>ZaA.pre x,fun x=>Zbo [tI,tI] (ZaA.fn x)⟩
theorem ZaA.ok:ZQ prog 51 ZaA.con:=Zf (A:=.mk [] [] [] [] []) (Wp:=fun xs Q=>ZaA.wp xs.1 xs.2.1 Q) Za1 ZfB (Za9 Tryz.func51 (by kernel_rfl) (by kernel_rfl)) (fun xs Q=>by kernel_rfl) fun ⟨x0,x1,_⟩ hl hp=>ZaA.spec x0 x1 hp
noncomputable def ZaQ.con:Con:=⟨[.d tI,.d tI],some fun x=>ZaQ.pre x,fun x=>Zbo [tI,tI] (ZaQ.fn x)⟩
theorem ZaQ.ok:ZQ prog 53 ZaQ.con:=Zf (A:=.mk [] [] [] [] []) (Wp:=fun xs Q=>ZaQ.wp xs.1 xs.2.1 Q) Za1 ZfB (Za9 Tryz.func53 (by kernel_rfl) (by kernel_rfl)) (fun xs Q=>by kernel_rfl) fun ⟨x0,x1,_⟩ hl hp=>ZaQ.spec x0 x1 hp
noncomputable def Zbu.con:Con:=⟨[.d tI],none,fun x=>Zbo [(.int .u64)] (Zbu.fn x)⟩
theorem Zbu.ok:ZQ prog 164 Zbu.con:=Zf (A:=.mk [] [] [] [] []) (Wp:=fun xs Q=>Zbu.wp xs.1 Q) Za1 ZfB (Za9 Tryz.func164 (by kernel_rfl) (by kernel_rfl)) (fun xs Q=>by kernel_rfl) fun ⟨x0,_⟩ hl hp=>Zbu.spec x0
noncomputable def ZaU.con:Con:=⟨[.d .bool],none,fun x=>Zbo [tC,tI] (ZaU.fn x)⟩
theorem ZaU.ok:ZQ prog 140 ZaU.con:=Zf (A:=.mk [] [] [] [] []) (Wp:=fun xs Q=>ZaU.wp xs.1 Q) Za1 ZfB (Za9 Tryz.func140 (by kernel_rfl) (by kernel_rfl)) (fun xs Q=>by kernel_rfl) fun ⟨x0,_⟩ hl hp=>ZaU.spec x0
noncomputable def Zad.con:Con:=⟨[.d tL,.d tI,.d tI],some fun x=>Zad.pre x,fun x=>Zbo [tL] (Zad.fn x)⟩
theorem Zad.ok:ZQ prog 141 Zad.con:=Zf (A:=.mk [] [(0,⟨[.t 19 tI,.row 2 tI],[],[31,30,29,28,27,26,25,24,9,8,23,22,21,20],[]⟩)] [] [] []) (Wp:=fun xs Q=>Zad.wp xs.1 xs.2.1 xs.2.2.1 Q) Za1 ZfB (Za9 Tryz.func141 (by kernel_rfl) (by kernel_rfl)) (fun xs Q=>by kernel_rfl) fun ⟨x0,x1,x2,_⟩ hl hp=>Zad.spec x0 x1 x2 hp
noncomputable def ZV.con:Con:=⟨[.d tC,.d tC],some fun x=>ZV.pre x,fun x=>Zbo [tI] (ZV.fn x)⟩
theorem ZV.ok:ZQ prog 125 ZV.con:=Zf (A:=.mk [] [(0,⟨[.t 12 tI,.t 6 .bool,.t 5 .bool],[],[48,47,46,45,44,43,42,41,40,39,38,37,36,35,34,33,32,31,30,29,28,27,26,25,24,23,22,21,20,19,18,17,16,15,7,14,13],[]⟩)] [] [] []) (Wp:=fun xs Q=>ZV.wp xs.1 xs.2.1 Q) Za1 ZfB (Za9 Tryz.func125 (by kernel_rfl) (by kernel_rfl)) (fun xs Q=>by kernel_rfl) fun ⟨x0,x1,_⟩ hl hp=>ZV.spec x0 x1 hp
noncomputable def Zaj.con:Con:=⟨[.d (.sl tI),.d (.sl tI)],some fun x=>Zaj.pre x,fun x=>Zbo [tI] (Zaj.fn x)⟩
theorem Zaj.ok:ZQ prog 165 Zaj.con:=Zf (A:=.mk [] [(0,⟨[.t 8 tI],[],[31,21,30,29,28,27,26,25,24,23,22,11,20,19,18,17,16,15,14,13,12,5,10,9],[]⟩)] [] [] []) (Wp:=fun xs Q=>Zaj.wp xs.1 xs.2.1 Q) Za1 ZfB (Za9 Tryz.func165 (by kernel_rfl) (by kernel_rfl)) (fun xs Q=>by kernel_rfl) fun ⟨x0,x1,_⟩ hl hp=>Zaj.spec x0 x1 hl.1.1 hp
noncomputable def Zbe.con:Con:=⟨[.d tI],none,fun x=>Zbo [tI] (Zbe.fn x)⟩
theorem Zbe.ok:ZQ prog 166 Zbe.con:=Zf (A:=.mk [] [] [] [] []) (Wp:=fun xs Q=>Zbe.wp xs.1 Q) Za1 ZfB (Za9 Tryz.func166 (by kernel_rfl) (by kernel_rfl)) (fun xs Q=>by kernel_rfl) fun ⟨x0,_⟩ hl hp=>Zbe.spec x0
noncomputable def Zn.con:Con:=⟨[.d tL,.d tI],some fun x=>Zn.pre x,fun x=>Zbo [tL] (Zn.fn x)⟩
theorem Zn.ok:ZQ prog 78 Zn.con:=Zf (A:=.mk [(1000,[.ownc 2 0 tI])] [(0,⟨[.t 14 tI,.cell 2 1 tI,.row 3 tI],[],[28,27,26,23,25,24,22,21,20,19,7,6,18,17,16,15],[]⟩)] [] [] []) (Wp:=fun xs Q=>Zn.wp xs.1 xs.2.1 Q) Za1 ZfB (Za9 Tryz.func78 (by kernel_rfl) (by kernel_rfl)) (fun xs Q=>by kernel_rfl) fun ⟨x0,x1,_⟩ hl hp=>Zn.spec x0 x1 hp
noncomputable def Zo.con:Con:=⟨[.d tI],some fun x=>Zo.pre x,fun x=>Zbo [tI] (Zo.fn x)⟩
theorem Zo.ok:ZQ prog 79 Zo.con:=Zf (A:=.mk [] [] [] [] []) (Wp:=fun xs Q=>Zo.wp xs.1 Q) Za1 ZfB (Za9 Tryz.func79 (by kernel_rfl) (by kernel_rfl)) (fun xs Q=>by kernel_rfl) fun ⟨x0,_⟩ hl hp=>Zo.spec x0 hp
def Zw.A:An:=.mk [] [(0,⟨[.t 28 tI,.row 6 tI],[],[50,49,48,47,46,45,44,43,42,41,40,39,38,37,36,35,34,33,32,31,10,30,29],[]⟩)] [] [] []
noncomputable def Zw.con:Con:=⟨[.d tI,.d tL,.d tI,.d tL],some fun x=>Zw.pre x,fun x=>Zbo [tL] (Zw.fn x)⟩
theorem Zw.ok:ZQ prog 82 Zw.con:=Zf (A:=Zw.A) (Wp:=fun xs Q=>Zw.wp xs.1 xs.2.1 xs.2.2.1 xs.2.2.2.1 Q) Za1 ZfB (Za9 Tryz.func82 (by kernel_rfl) (by kernel_rfl)) (fun xs Q=>by kernel_rfl) fun ⟨x0,x1,x2,x3,_⟩ hl hp=>Zw.spec x0 x1 x2 x3 hp
noncomputable def ZaG.con:Con:=⟨[.d (.sl tI)],some fun x=>ZaG.pre x,fun x=>Zbo [tI,tI] (ZaG.fn x)⟩
theorem ZaG.ok:ZQ prog 52 ZaG.con:=Zf (A:=.mk [] [(0,⟨[.t 12 tI],[],[18,17,16,5,15,14,13],[]⟩),(4,⟨[.t 25 tI,.t 7 .bool],[],[36,35,34,33,32,31,30,29,9,28,27,26],[]⟩),(2,⟨[.t 6 tI],[],[22,21,37,26,36,35,34,33,32,31,30,29,9,28,27,25,7,24,23,20,19],[]⟩)] [] [] []) (Wp:=fun xs Q=>ZaG.wp xs.1 Q) Za1 ZfB (Za9 Tryz.func52 (by kernel_rfl) (by kernel_rfl)) (fun xs Q=>by kernel_rfl) fun ⟨x0,_⟩ hl hp=>ZaG.spec x0 hl.1.1 hp
noncomputable def ZX.con:Con:=⟨[.d tI,.d tI],some fun x=>ZX.pre x,fun x=>Zbo [tL] (ZX.fn x)⟩
theorem ZX.ok:ZQ prog 118 ZX.con:=Zf (A:=.mk [] [] [] [] []) (Wp:=fun xs Q=>ZX.wp xs.1 xs.2.1 Q) Za1 ZfB (Za9 Tryz.func118 (by kernel_rfl) (by kernel_rfl)) (fun xs Q=>by kernel_rfl) fun ⟨x0,x1,_⟩ hl hp=>ZX.spec x0 x1 hp
noncomputable def ZaR.con:Con:=⟨[.d (.sl tC),.d (.sl tC)],some fun x=>ZaR.pre x,fun x=>Zbo [(.sl tC)] (ZaR.fn x)⟩
theorem ZaR.ok:ZQ prog 98 ZaR.con:=Zf (A:=.mk [] [] [] [] []) (Wp:=fun xs Q=>ZaR.wp xs.1 xs.2.1 Q) Za1 ZfB (Za9 Tryz.func98 (by kernel_rfl) (by kernel_rfl)) (fun xs Q=>by kernel_rfl) fun ⟨x0,x1,_⟩ hl hp=>ZaR.spec x0 x1 hp
noncomputable def κL1:List (Nat×CX):=(138,.con ZbV.con)::(43,.con ZK.con)::(122,.con Zk.con)::(146,.con ZG.con)::(148,.con Zal.con)::(184,.con Zbw.con)::(170,.con Za5.con)::(171,.con ZaH.con)::(172,.con ZB.con)::(173,.con Zbq.con)::(116,.con ZaO.con)::(134,.con ZbA.con)::(162,.con Zan.con)::(102,.con ZO.con)::(105,.con Zau.con)::(58,.con ZaC.con)::(127,.con Zbn.con)::(37,.con ZbQ.con)::(38,.con Zaw.con)::(12,.con Z2.con)::(121,.con Zbg.con)::(128,.con Zh.con)::(168,.con Z5.con)::(51,.con ZaA.con)::(53,.con ZaQ.con)::(164,.con Zbu.con)::(140,.con ZaU.con)::(141,.con Zad.con)::(125,.con ZV.con)::(165,.con Zaj.con)::(166,.con Zbe.con)::(78,.con Zn.con)::(79,.con Zo.con)::(82,.con Zw.con)::(52,.con ZaG.con)::(118,.con ZX.con)::(98,.con ZaR.con)::κL0
theorem Zus:Zak prog (fun n=>Zb7 n κL1):=Zj ZbV.ok (Zj ZK.ok (Zj Zk.ok (Zj ZG.ok (Zj Zal.ok (Zj Zbw.ok (Zj Za5.ok (Zj ZaH.ok (Zj ZB.ok (Zj Zbq.ok (Zj ZaO.ok (Zj ZbA.ok (Zj Zan.ok (Zj ZO.ok (Zj Zau.ok (Zj ZaC.ok (Zj Zbn.ok (Zj ZbQ.ok (Zj Zaw.ok (Zj Z2.ok (Zj Zbg.ok (Zj Zh.ok (Zj Z5.ok (Zj ZaA.ok (Zj ZaQ.ok (Zj Zbu.ok (Zj ZaU.ok (Zj Zad.ok (Zj ZV.ok (Zj Zaj.ok (Zj Zbe.ok (Zj Zn.ok (Zj Zo.ok (Zj Zw.ok (Zj ZaG.ok (Zj ZX.ok (Zj ZaR.ok ZuS))))))))))))))))))))))))))))))))))))
noncomputable def κ1:Z1:=fun n=>Zb7 n κL1
theorem Zw0:Zak prog κ1:=Zus
theorem Znz:Zct prog (walk τ0 κ1 φA):=ZbC Za1 Zw0 Zkl mixed
theorem Zyg:Zct prog (walk τ0 κ1 φC):=ZbC Za1 Zw0 ZxZ mixed
noncomputable def Zbk.con:Con:=⟨[.d tL],none,fun x=>Zbo [.bool] (Zbk.fn x)⟩
theorem Zbk.ok:ZQ prog 123 Zbk.con:=Zf (A:=.mk [] [(0,⟨[.t 8 tI],[],[15,14,13,12,4,11,10,9],[]⟩)] [] [] []) (Wp:=fun xs Q=>Zbk.wp xs.1 Q) Za1 Znz (Za9 Tryz.func123 (by kernel_rfl) (by kernel_rfl)) (fun xs Q=>by kernel_rfl) fun ⟨x0,_⟩ hl hp=>Zbk.spec x0 hl.1.1.1
noncomputable def Zg.con:Con:=⟨[.d (.sl tC),.f [tC] [.bool]],some fun x=>Zg.pre x,fun x=>Zbo [.bool] (Zg.fn x)⟩
theorem Zg.ok:ZQ prog 88 Zg.con:=Zf (A:=.mk [] [] [] [] []) (Wp:=fun xs Q=>Zg.wp xs.1 xs.2.1 Q) Za1 Znz (Za9 Tryz.func88 (by kernel_rfl) (by kernel_rfl)) (fun xs Q=>by kernel_rfl) fun ⟨x0,x1,_⟩ hl hp=>Zg.spec x0 x1 hp
noncomputable def ZaS.con:Con:=⟨[.d (.int .u64),.d tI],none,fun x=>Zbo [(.int .u64)] (ZaS.fn x)⟩
theorem ZaS.ok:ZQ prog 183 ZaS.con:=Zf (A:=.mk [] [] [] [] []) (Wp:=fun xs Q=>ZaS.wp xs.1 xs.2.1 Q) Za1 Znz (Za9 Tryz.func183 (by kernel_rfl) (by kernel_rfl)) (fun xs Q=>by kernel_rfl) fun ⟨x0,x1,_⟩ hl hp=>ZaS.spec x0 x1
noncomputable def Za6.con:Con:=⟨[.d (.sl tC)],some fun x=>Za6.pre x,fun x=>Zbo [(.sl tC)] (Za6.fn x)⟩
theorem Za6.ok:ZQ prog 109 Za6.con:=Zf (A:=.mk [(1000,[.own 3 tC])] [(0,⟨[.t 13 tI,.row 1 tC,.smap 0 tI],[3],[58,23,20,22,21,19,18,17,6,16,15,14,57,54,52,56,55,53,51,50,34,9,8,33,32,28,31,30,29,7,27,26,25,24,49,48,47,46,45,44,43,42,41,40,39,38,37,36,35],[]⟩)] [] [] []) (Wp:=fun xs Q=>Za6.wp xs.1 Q) Za1 Znz (Za9 Tryz.func109 (by kernel_rfl) (by kernel_rfl)) (fun xs Q=>by kernel_rfl) fun ⟨x0,_⟩ hl hp=>Za6.spec x0 hp
noncomputable def ZI.con:Con:=⟨[.d tI,.d tI],none,fun x=>Zbo [tI] (ZI.fn x)⟩
theorem ZI.ok:ZQ prog 135 ZI.con:=Zf (A:=.mk [] [] [] [] []) (Wp:=fun xs Q=>ZI.wp xs.1 xs.2.1 Q) Za1 Znz (Za9 Tryz.func135 (by kernel_rfl) (by kernel_rfl)) (fun xs Q=>by kernel_rfl) fun ⟨x0,x1,_⟩ hl hp=>ZI.spec x0 x1
noncomputable def Zq.con:Con:=⟨[.d (.sl tC)],some fun x=>Zq.pre x,fun x=>Zbo [.str] (Zq.fn x)⟩
theorem Zq.ok:ZQ prog 76 Zq.con:=Zf (A:=.mk [(1000,[.own 3 (.int .u8)])] [(0,⟨[.t 8 tI,.row 0 (.int .u8)],[3],[40,39,37,36,38,32,31,35,34,33,26,25,30,29,28,27,23,22,24,19,18,21,20,16,15,17,12,14,13,5,11,10,9],[]⟩)] [] [] []) (Wp:=fun xs Q=>Zq.wp xs.1 Q) Za1 Zyg (Za9 Tryz.func76 (by kernel_rfl) (by kernel_rfl)) (fun xs Q=>by kernel_rfl) fun ⟨x0,_⟩ hl hp=>Zq.spec x0 hp
noncomputable def ZD.con:Con:=⟨[.d (.pair tI (.pair (.sl tC) (.pair (.sl (.pair tC (.pair tI tL))) (.pair tI (.pair (.sl (.pair tC (.pair tI tL))) (.pair (.sl (.pair tC (.pair tI tL))) (.sl (.pair tC (.pair tI tL)))))))))],some fun x=>ZD.pre x,fun x=>Zbo [(.sl (.sl tC))] (ZD.fn x)⟩
theorem ZD.ok:ZQ prog 70 ZD.con:=Zf (A:=.mk [(1000,[.own 6 tC])] [(0,⟨[.t 29 tI,.row 6 tC],[6],[61,60,38,59,58,57,56,55,54,53,52,51,50,49,48,47,46,45,44,43,42,41,40,39,37,36,35,34,7,8,33,32,31,30,25],[]⟩)] [(5,⟨[.t 5 tI,.t 4 tI,.t 19 .bool,.t 18 tI],[],[22,21,20,17],[]⟩)] [] []) (Wp:=fun xs Q=>ZD.wp xs.1 Q) Za1 Znz (Za9 Tryz.func70 (by kernel_rfl) (by kernel_rfl)) (fun xs Q=>by kernel_rfl) fun ⟨x0,_⟩ hl hp=>ZD.spec x0 hp
noncomputable def ZA.con:Con:=⟨[.d (.pair tI (.pair (.sl tC) (.pair (.sl (.pair tC (.pair tI tL))) (.pair tI (.pair (.sl (.pair tC (.pair tI tL))) (.pair (.sl (.pair tC (.pair tI tL))) (.sl (.pair tC (.pair tI tL)))))))))],some fun x=>ZA.pre x,fun x=>Zbo [(.sl (.sl tC))] (ZA.fn x)⟩
theorem ZA.ok:ZQ prog 71 ZA.con:=Zf (A:=.mk [(1000,[.own 3 tC])] [(2,⟨[.t 21 tI,.row 1 tC],[3],[39,38,25,37,36,35,34,33,32,31,30,29,28,27,26,7,24,23,22,10],[]⟩),(0,⟨[.t 14 tI,.row 1 tC],[],[40,22,39,38,25,37,36,35,34,33,32,31,30,29,28,27,26,7,24,23,21,20,19,18,5,17,16,15,10],[]⟩)] [] [] []) (Wp:=fun xs Q=>ZA.wp xs.1 Q) Za1 Znz (Za9 Tryz.func71 (by kernel_rfl) (by kernel_rfl)) (fun xs Q=>by kernel_rfl) fun ⟨x0,_⟩ hl hp=>ZA.spec x0 hp
noncomputable def ZaI.con:Con:=⟨[.d (.int .u64),.d tI],some fun x=>ZaI.pre x,fun x=>Zbo [(.int .u64)] (ZaI.fn x)⟩
theorem ZaI.ok:ZQ prog 147 ZaI.con:=Zf (A:=.mk [] [] [] [] []) (Wp:=fun xs Q=>ZaI.wp xs.1 xs.2.1 Q) Za1 Znz (Za9 Tryz.func147 (by kernel_rfl) (by kernel_rfl)) (fun xs Q=>by kernel_rfl) fun ⟨x0,x1,_⟩ hl hp=>ZaI.spec x0 x1 hp
noncomputable def Zp.con:Con:=⟨[.d (.pair tI (.pair (.sl tC) (.pair (.sl (.pair tC (.pair tI tL))) (.pair tI (.pair (.sl (.pair tC (.pair tI tL))) (.pair (.sl (.pair tC (.pair tI tL))) (.sl (.pair tC (.pair tI tL))))))))),.d tI,.d tL,.d .bool],some fun x=>Zp.pre x,fun x=>Zbo [(.sl tC)] (Zp.fn x)⟩
theorem Zp.ok:ZQ prog 104 Zp.con:=Zf (A:=.mk [(1000,[.own 9 tC])] [(0,⟨[.t 18 tI,.row 2 tC],[9],[47,46,29,45,44,43,42,41,40,39,38,37,36,35,34,33,32,31,30,28,27,26,25,24,23,22,11,21,20,19,14],[]⟩)] [] [] []) (Wp:=fun xs Q=>Zp.wp xs.1 xs.2.1 xs.2.2.1 xs.2.2.2.1 Q) Za1 Znz (Za9 Tryz.func104 (by kernel_rfl) (by kernel_rfl)) (fun xs Q=>by kernel_rfl) fun ⟨x0,x1,x2,x3,_⟩ hl hp=>Zp.spec x0 x1 x2 x3 hp
noncomputable def Za3.con:Con:=⟨[.d tC,.d tC],none,fun x=>Zbo [.bool] (Za3.fn x)⟩
theorem Za3.ok:ZQ prog 93 Za3.con:=Zf (A:=.mk [] [] [] [] []) (Wp:=fun xs Q=>Za3.wp xs.1 xs.2.1 Q) Za1 Znz (Za9 Tryz.func93 (by kernel_rfl) (by kernel_rfl)) (fun xs Q=>by kernel_rfl) fun ⟨x0,x1,_⟩ hl hp=>Za3.spec x0 x1
noncomputable def ZaZ.con:Con:=⟨[.d tL],none,fun x=>Zbo [.bool] (ZaZ.fn x)⟩
theorem ZaZ.ok:ZQ prog 87 ZaZ.con:=Zf (A:=.mk [] [(0,⟨[.t 8 tI],[],[15,14,13,12,4,11,10,9],[]⟩)] [] [] []) (Wp:=fun xs Q=>ZaZ.wp xs.1 Q) Za1 Znz (Za9 Tryz.func87 (by kernel_rfl) (by kernel_rfl)) (fun xs Q=>by kernel_rfl) fun ⟨x0,_⟩ hl hp=>ZaZ.spec x0 hl.1.1.1
noncomputable def Zap.con:Con:=⟨[.d tC],some fun x=>Zap.pre x,fun x=>Zbo [(.sl tC)] (Zap.fn x)⟩
theorem Zap.ok:ZQ prog 144 Zap.con:=Zf (A:=.mk [(1001,[.own 4 tC])] [(1,⟨[.t 5 tI,.row 2 tC],[4],[34,33,49,35,48,47,46,45,44,43,42,41,40,39,38,37,36,32,31,30,29],[]⟩)] [] [] []) (Wp:=fun xs Q=>Zap.wp xs.1 Q) Za1 Znz (Za9 Tryz.func144 (by kernel_rfl) (by kernel_rfl)) (fun xs Q=>by kernel_rfl) fun ⟨x0,_⟩ hl hp=>Zap.spec x0 hp
noncomputable def Zbf.con:Con:=⟨[.d (.sl tI)],some fun x=>Zbf.pre x,fun x=>Zbo [tI,tI] (Zbf.fn x)⟩
theorem Zbf.ok:ZQ prog 139 Zbf.con:=Zf (A:=.mk [] [(2,⟨[.t 7 (.int .u64),.t 4 (.int .u64)],[],[21,20,19,18,17,16],[]⟩),(0,⟨[.t 10 tI,.t 4 (.int .u64)],[],[22,17,16,21,20,19,18,7,15,14,6,13,12,11],[]⟩)] [] [] []) (Wp:=fun xs Q=>Zbf.wp xs.1 Q) Za1 Znz (Za9 Tryz.func139 (by kernel_rfl) (by kernel_rfl)) (fun xs Q=>by kernel_rfl) fun ⟨x0,_⟩ hl hp=>Zbf.spec x0 hl.1.1 hp
noncomputable def Zbl.con:Con:=⟨[.d tL,.d tL],some fun x=>Zbl.pre x,fun x=>Zbo [tI] (Zbl.fn x)⟩
theorem Zbl.ok:ZQ prog 167 Zbl.con:=Zf (A:=.mk [] [] [] [] []) (Wp:=fun xs Q=>Zbl.wp xs.1 xs.2.1 Q) Za1 Znz (Za9 Tryz.func167 (by kernel_rfl) (by kernel_rfl)) (fun xs Q=>by kernel_rfl) fun ⟨x0,x1,_⟩ hl hp=>Zbl.spec x0 x1 hp
noncomputable def Zai.con:Con:=⟨[.d tC,.d tI,.d tI,.d tI,.d tL],some fun x=>Zai.pre x,fun x=>Zbo [tC] (Zai.fn x)⟩
theorem Zai.ok:ZQ prog 117 Zai.con:=Zf (A:=.mk [] [] [] [] []) (Wp:=fun xs Q=>Zai.wp xs.1 xs.2.1 xs.2.2.1 xs.2.2.2.1 xs.2.2.2.2.1 Q) Za1 Znz (Za9 Tryz.func117 (by kernel_rfl) (by kernel_rfl)) (fun xs Q=>by kernel_rfl) fun ⟨x0,x1,x2,x3,x4,_⟩ hl hp=>Zai.spec x0 x1 x2 x3 x4 hp
noncomputable def Zac.con:Con:=⟨[.d (.sl tC),.d tI],some fun x=>Zac.pre x,fun x=>Zbo [tI] (Zac.fn x)⟩
theorem Zac.ok:ZQ prog 60 Zac.con:=Zf (A:=.mk [] [(2,⟨[.t 31 tI,.t 5 tI,.t 6 tI],[],[47,46,45,44,43,42,41,40,39,38,37,36,10,9,35,34,33,32],[]⟩),(0,⟨[.t 20 tI,.t 5 tI,.t 6 tI],[],[48,26,25,24,8,23,22,21,32,47,46,45,44,43,42,41,40,39,38,37,36,10,9,35,34,33,31,30,29,28,27],[]⟩),(6,⟨[.t 62 tI,.t 14 tI,.t 15 tI],[],[91,68,80,79,78,77,76,75,74,73,72,71,70,69,17,65,64,63,90,89,81,88,87,86,85,84,83,82,67,66],[]⟩),(4,⟨[.t 13 tI,.t 12 tI,.t 11 tI],[],[59,58,104,103,102,101,100,99,98,97,96,95,94,93,92,63,91,68,80,79,78,77,76,75,74,73,72,71,70,69,17,65,64,90,89,81,88,87,86,85,84,83,82,67,66,62,14,15,61,60,57,56,55],[]⟩)] [] [] []) (Wp:=fun xs Q=>Zac.wp xs.1 xs.2.1 Q) Za1 Znz (Za9 Tryz.func60 (by kernel_rfl) (by kernel_rfl)) (fun xs Q=>by kernel_rfl) fun ⟨x0,x1,_⟩ hl hp=>Zac.spec x0 x1 hp
noncomputable def κL2:List (Nat×CX):=(123,.con Zbk.con)::(88,.con Zg.con)::(183,.con ZaS.con)::(109,.con Za6.con)::(135,.con ZI.con)::(76,.con Zq.con)::(70,.con ZD.con)::(71,.con ZA.con)::(147,.con ZaI.con)::(104,.con Zp.con)::(93,.con Za3.con)::(87,.con ZaZ.con)::(144,.con Zap.con)::(139,.con Zbf.con)::(167,.con Zbl.con)::(117,.con Zai.con)::(60,.con Zac.con)::κL1
theorem ZuM:Zak prog (fun n=>Zb7 n κL2):=Zj Zbk.ok (Zj Zg.ok (Zj ZaS.ok (Zj Za6.ok (Zj ZI.ok (Zj Zq.ok (Zj ZD.ok (Zj ZA.ok (Zj ZaI.ok (Zj Zp.ok (Zj Za3.ok (Zj ZaZ.ok (Zj Zap.ok (Zj Zbf.ok (Zj Zbl.ok (Zj Zai.ok (Zj Zac.ok Zus))))))))))))))))
noncomputable def κ2:Z1:=fun n=>Zb7 n κL2
theorem Zxp:Zak prog κ2:=ZuM
theorem Ztg:Zct prog (walk τ0 κ2 φA):=ZbC Za1 Zxp Zkl mixed
noncomputable def ZE.con:Con:=⟨[.d tC],none,fun x=>Zbo [.bool] (ZE.fn x)⟩
theorem ZE.ok:ZQ prog 90 ZE.con:=Zf (A:=.mk [] [] [] [] []) (Wp:=fun xs Q=>ZE.wp xs.1 Q) Za1 Ztg (Za9 Tryz.func90 (by kernel_rfl) (by kernel_rfl)) (fun xs Q=>by kernel_rfl) fun ⟨x0,_⟩ hl hp=>ZE.spec x0
noncomputable def Zbt.con:Con:=⟨[.d (.sl tI)],some fun x=>Zbt.pre x,fun x=>Zbo [tI,tI] (Zbt.fn x)⟩
theorem Zbt.ok:ZQ prog 169 Zbt.con:=Zf (A:=.mk [] [] [] [] []) (Wp:=fun xs Q=>Zbt.wp xs.1 Q) Za1 Ztg (Za9 Tryz.func169 (by kernel_rfl) (by kernel_rfl)) (fun xs Q=>by kernel_rfl) fun ⟨x0,_⟩ hl hp=>Zbt.spec x0 hp
noncomputable def Zx.con:Con:=⟨[.d (.sl tI),.d (.sl tI)],none,fun x=>Zbo [tI] (Zx.fn x)⟩
theorem Zx.ok:ZQ prog 136 Zx.con:=Zf (A:=.mk [] [(0,⟨[.t 11 tI],[],[30,28,27,8,26,25,24,7,23,22,21,20,19,18,17,16,6,5,15,14,13,12],[]⟩)] [] [] []) (Wp:=fun xs Q=>Zx.wp xs.1 xs.2.1 Q) Za1 Ztg (Za9 Tryz.func136 (by kernel_rfl) (by kernel_rfl)) (fun xs Q=>by kernel_rfl) fun ⟨x0,x1,_⟩ hl hp=>Zx.spec x0 x1 hl.1.1
noncomputable def ZM.con:Con:=⟨[.d (.sl tI)],some fun x=>ZM.pre x,fun x=>Zbo [tI,tI] (ZM.fn x)⟩
theorem ZM.ok:ZQ prog 130 ZM.con:=Zf (A:=.mk [] [(0,⟨[.t 9 tI],[],[15,14,13,5,12,11,10],[]⟩)] [] [] []) (Wp:=fun xs Q=>ZM.wp xs.1 Q) Za1 Ztg (Za9 Tryz.func130 (by kernel_rfl) (by kernel_rfl)) (fun xs Q=>by kernel_rfl) fun ⟨x0,_⟩ hl hp=>ZM.spec x0 hl.1.1 hp
noncomputable def ZS.con:Con:=⟨[.d (.sl tC),.d (.sl tC)],none,fun x=>Zbo [.bool] (ZS.fn x)⟩
theorem ZS.ok:ZQ prog 62 ZS.con:=Zf (A:=.mk [] [(0,⟨[.t 13 tI],[],[26,25,24,23,22,21,20,19,18,17,16,5,15,14],[]⟩)] [] [] []) (Wp:=fun xs Q=>ZS.wp xs.1 xs.2.1 Q) Za1 Ztg (Za9 Tryz.func62 (by kernel_rfl) (by kernel_rfl)) (fun xs Q=>by kernel_rfl) fun ⟨x0,x1,_⟩ hl hp=>ZS.spec x0 x1 hl.1.1
noncomputable def Zaq.con:Con:=⟨[.d tC],none,fun x=>Zbo [.bool] (Zaq.fn x)⟩
theorem Zaq.ok:ZQ prog 55 Zaq.con:=Zf (A:=.mk [] [] [] [] []) (Wp:=fun xs Q=>Zaq.wp xs.1 Q) Za1 Ztg (Za9 Tryz.func55 (by kernel_rfl) (by kernel_rfl)) (fun xs Q=>by kernel_rfl) fun ⟨x0,_⟩ hl hp=>Zaq.spec x0
noncomputable def Zt.con:Con:=⟨[.d tC],some fun x=>Zt.pre x,fun x=>Zbo [tC,tI] (Zt.fn x)⟩
theorem Zt.ok:ZQ prog 124 Zt.con:=Zf (A:=.mk [] [(1,⟨[.t 73 tI],[],[83,78,77,9,76,75,74],[]⟩),(3,⟨[.t 104 tI,.row 2 tI],[],[120,119,118,117,109,116,115,114,113,112,111,110,12,11,108,107,106,105],[]⟩)] [] [] []) (Wp:=fun xs Q=>Zt.wp xs.1 Q) Za1 Ztg (Za9 Tryz.func124 (by kernel_rfl) (by kernel_rfl)) (fun xs Q=>by kernel_rfl) fun ⟨x0,_⟩ hl hp=>Zt.spec x0 hp
noncomputable def Zbd.con:Con:=⟨[.d tC,.d tC],some fun x=>Zbd.pre x,fun x=>Zbo [tI] (Zbd.fn x)⟩
theorem Zbd.ok:ZQ prog 142 Zbd.con:=Zf (A:=.mk [] [] [] [] []) (Wp:=fun xs Q=>Zbd.wp xs.1 xs.2.1 Q) Za1 Ztg (Za9 Tryz.func142 (by kernel_rfl) (by kernel_rfl)) (fun xs Q=>by kernel_rfl) fun ⟨x0,x1,_⟩ hl hp=>Zbd.spec x0 x1 hp
noncomputable def Zaf.con:Con:=⟨[.d (.sl tC),.d tI,.d tI],some fun x=>Zaf.pre x,fun x=>Zbo [(.sl tC)] (Zaf.fn x)⟩
theorem Zaf.ok:ZQ prog 81 Zaf.con:=Zf (A:=.mk [(1000,[.own 10 tC])] [(0,⟨[.t 33 tI,.row 1 tC],[10],[71,40,39,38,11,12,37,36,35,34,59,48,58,57,56,55,54,53,52,51,50,49,47,46,45,44,43,42,41,70,60,69,68,67,66,65,64,63,62,61],[]⟩)] [] [] []) (Wp:=fun xs Q=>Zaf.wp xs.1 xs.2.1 xs.2.2.1 Q) Za1 Ztg (Za9 Tryz.func81 (by kernel_rfl) (by kernel_rfl)) (fun xs Q=>by kernel_rfl) fun ⟨x0,x1,x2,_⟩ hl hp=>Zaf.spec x0 x1 x2 hp
noncomputable def κL3:List (Nat×CX):=(90,.con ZE.con)::(169,.con Zbt.con)::(136,.con Zx.con)::(130,.con ZM.con)::(62,.con ZS.con)::(55,.con Zaq.con)::(124,.con Zt.con)::(142,.con Zbd.con)::(81,.con Zaf.con)::κL2
theorem Zuv:Zak prog (fun n=>Zb7 n κL3):=Zj ZE.ok (Zj Zbt.ok (Zj Zx.ok (Zj ZM.ok (Zj ZS.ok (Zj Zaq.ok (Zj Zt.ok (Zj Zbd.ok (Zj Zaf.ok ZuM))))))))
noncomputable def κ3:Z1:=fun n=>Zb7 n κL3
theorem ZxE:Zak prog κ3:=Zuv
theorem Zr0:Zct prog (walk τ0 κ3 φA):=ZbC Za1 ZxE Zkl mixed
noncomputable def Zb2.con:Con:=⟨[.d (.sl tC),.d tI],none,fun x=>Zbo [.bool] (Zb2.fn x)⟩
theorem Zb2.ok:ZQ prog 65 Zb2.con:=Zf (A:=.mk [] [(0,⟨[.t 9 tI],[],[24,23,22,21,20,19,18,17,16,15,14,13,6,12,11,10],[]⟩)] [] [] []) (Wp:=fun xs Q=>Zb2.wp xs.1 xs.2.1 Q) Za1 Zr0 (Za9 Tryz.func65 (by kernel_rfl) (by kernel_rfl)) (fun xs Q=>by kernel_rfl) fun ⟨x0,x1,_⟩ hl hp=>Zb2.spec x0 x1 hl.1.1
noncomputable def Z0.con:Con:=⟨[.d tC],some fun x=>Z0.pre x,fun x=>Zbo [tC,tI] (Z0.fn x)⟩
theorem Z0.ok:ZQ prog 149 Z0.con:=Zf (A:=.mk [] [] [] [] []) (Wp:=fun xs Q=>Z0.wp xs.1 Q) Za1 Zr0 (Za9 Tryz.func149 (by kernel_rfl) (by kernel_rfl)) (fun xs Q=>by kernel_rfl) fun ⟨x0,_⟩ hl hp=>Z0.spec x0 hp
noncomputable def ZZ.con:Con:=⟨[.d tC],some fun x=>ZZ.pre x,fun x=>Zbo [tC,tI] (ZZ.fn x)⟩
theorem ZZ.ok:ZQ prog 150 ZZ.con:=Zf (A:=.mk [] [(0,⟨[.t 44 tI],[],[54,49,48,7,47,46,45],[]⟩)] [] [] []) (Wp:=fun xs Q=>ZZ.wp xs.1 Q) Za1 Zr0 (Za9 Tryz.func150 (by kernel_rfl) (by kernel_rfl)) (fun xs Q=>by kernel_rfl) fun ⟨x0,_⟩ hl hp=>ZZ.spec x0 hp
noncomputable def ZR.con:Con:=⟨[.d tC],some fun x=>ZR.pre x,fun x=>Zbo [tC,tI] (ZR.fn x)⟩
theorem ZR.ok:ZQ prog 151 ZR.con:=Zf (A:=.mk [] [(0,⟨[.t 25 tI,.t 6 tI,.row 2 tI],[],[51,50,49,40,48,47,46,45,44,43,42,41,39,38,37,30,36,35,34,33,32,31,8,7,29,28,27,26],[]⟩)] [] [] []) (Wp:=fun xs Q=>ZR.wp xs.1 Q) Za1 Zr0 (Za9 Tryz.func151 (by kernel_rfl) (by kernel_rfl)) (fun xs Q=>by kernel_rfl) fun ⟨x0,_⟩ hl hp=>ZR.spec x0 hp
noncomputable def Zbm.con:Con:=⟨[.d tC],none,fun x=>Zbo [.bool] (Zbm.fn x)⟩
theorem Zbm.ok:ZQ prog 107 Zbm.con:=Zf (A:=.mk [] [] [] [] []) (Wp:=fun xs Q=>Zbm.wp xs.1 Q) Za1 Zr0 (Za9 Tryz.func107 (by kernel_rfl) (by kernel_rfl)) (fun xs Q=>by kernel_rfl) fun ⟨x0,_⟩ hl hp=>Zbm.spec x0
noncomputable def ZaE.con:Con:=⟨[.d tC,.d tC],some fun x=>ZaE.pre x,fun x=>Zbo [tI] (ZaE.fn x)⟩
theorem ZaE.ok:ZQ prog 112 ZaE.con:=Zf (A:=.mk [] [] [] [] []) (Wp:=fun xs Q=>ZaE.wp xs.1 xs.2.1 Q) Za1 Zr0 (Za9 Tryz.func112 (by kernel_rfl) (by kernel_rfl)) (fun xs Q=>by kernel_rfl) fun ⟨x0,x1,_⟩ hl hp=>ZaE.spec x0 x1 hp
noncomputable def Za4.con:Con:=⟨[.d tS,.d tS],none,fun x=>Zbo [.bool] (Za4.fn x)⟩
theorem Za4.ok:ZQ prog 29 Za4.con:=Zf (A:=.mk [] [(0,⟨[.t 23 tI],[],[38,37,36,35,34,33,32,31,30,29,28,27,26,5,25,24],[]⟩)] [] [] []) (Wp:=fun xs Q=>Za4.wp xs.1 xs.2.1 Q) Za1 Zr0 (Za9 Tryz.func29 (by kernel_rfl) (by kernel_rfl)) (fun xs Q=>by kernel_rfl) fun ⟨x0,x1,_⟩ hl hp=>Za4.spec x0 x1 hl.1.2.1
noncomputable def ZJ.con:Con:=⟨[.d tS],none,fun x=>Zbo [.bool] (ZJ.fn x)⟩
theorem ZJ.ok:ZQ prog 24 ZJ.con:=Zf (A:=.mk [] [(2,⟨[.t 33 tI],[],[49,48,47,46,45,44,43,42,41,40,39,38,37,6,36,35,34],[]⟩),(0,⟨[.t 24 tI],[],[50,34,49,48,47,46,45,44,43,42,41,40,39,38,37,6,36,35,33,32,31,30,29,28,4,27,26,25],[]⟩)] [] [] []) (Wp:=fun xs Q=>ZJ.wp xs.1 Q) Za1 Zr0 (Za9 Tryz.func24 (by kernel_rfl) (by kernel_rfl)) (fun xs Q=>by kernel_rfl) fun ⟨x0,_⟩ hl hp=>ZJ.spec x0 hl.1.2.1
noncomputable def Zag.con:Con:=⟨[.d (.sl tC)],some fun x=>Zag.pre x,fun x=>Zbo [(.sl tC)] (Zag.fn x)⟩
theorem Zag.ok:ZQ prog 126 Zag.con:=Zf (A:=.mk [(1000,[.own 3 tC])] [(2,⟨[.t 6 tI],[],[28,27,26,25,24,23,22,21,20,19,18,17,16,15,14],[]⟩),(0,⟨[.t 10 tI,.t 3 (.sl tC)],[],[55,54,50,7,49,53,52,51,46,45,48,47,41,44,43,42,40,39,38,37,36,35,34,33,32,31,30,29,26,25,24,23,22,21,20,19,18,17,16,15,14,6,5,13,12,11,28,27],[]⟩)] [] [] []) (Wp:=fun xs Q=>Zag.wp xs.1 Q) Za1 Zr0 (Za9 Tryz.func126 (by kernel_rfl) (by kernel_rfl)) (fun xs Q=>by kernel_rfl) fun ⟨x0,_⟩ hl hp=>Zag.spec x0 hp
noncomputable def ZaY.con:Con:=⟨[.d (.sl (.sl tC)),.d (.sl tC)],none,fun x=>Zbo [.bool] (ZaY.fn x)⟩
theorem ZaY.ok:ZQ prog 119 ZaY.con:=Zf (A:=.mk [] [(0,⟨[.t 9 tI],[],[16,15,14,13,6,12,11,10],[]⟩)] [] [] []) (Wp:=fun xs Q=>ZaY.wp xs.1 xs.2.1 Q) Za1 Zr0 (Za9 Tryz.func119 (by kernel_rfl) (by kernel_rfl)) (fun xs Q=>by kernel_rfl) fun ⟨x0,x1,_⟩ hl hp=>ZaY.spec x0 x1 hl.1.1
noncomputable def ZaL.con:Con:=⟨[.d tC],none,fun x=>Zbo [(.sl tC),tI] (ZaL.fn x)⟩
theorem ZaL.ok:ZQ prog 99 ZaL.con:=Zf (A:=.mk [(5,[.frz 20]),(1001,[.own 6 tC]),(1003,[.own 8 tC])] [(1,⟨[.t 7 tI,.row 4 tC],[6],[32,31,44,33,43,42,41,40,39,38,37,36,35,34,30,29,28,27],[]⟩),(3,⟨[.t 68 tI,.row 4 tC],[8],[100,84,80,83,82,81,77,79,78,12,11,76,75,72,74,73,10,71,70,69,99,96,98,97,93,95,94,85,92,91,90,89,88,87,86],[]⟩)] [(15,⟨[.t 6 (.sl tC),.t 45 .bool,.t 46 .bool,.t 26 tI],[32,31,44,33,43,42,41,40,39,38,37,36,35,34],[52,51,50,49,48,47,25,65,64,63,62,61,60,59,58,57,56,55,53,54,30,29,28,27,7],[]⟩)] [] []) (Wp:=fun xs Q=>ZaL.wp xs.1 Q) Za1 Zr0 (Za9 Tryz.func99 (by kernel_rfl) (by kernel_rfl)) (fun xs Q=>by kernel_rfl) fun ⟨x0,_⟩ hl hp=>ZaL.spec x0
noncomputable def κL4:List (Nat×CX):=(65,.con Zb2.con)::(149,.con Z0.con)::(150,.con ZZ.con)::(151,.con ZR.con)::(107,.con Zbm.con)::(112,.con ZaE.con)::(29,.con Za4.con)::(24,.con ZJ.con)::(126,.con Zag.con)::(119,.con ZaY.con)::(99,.con ZaL.con)::κL3
theorem ZuR:Zak prog (fun n=>Zb7 n κL4):=Zj Zb2.ok (Zj Z0.ok (Zj ZZ.ok (Zj ZR.ok (Zj Zbm.ok (Zj ZaE.ok (Zj Za4.ok (Zj ZJ.ok (Zj Zag.ok (Zj ZaY.ok (Zj ZaL.ok Zuv))))))))))
noncomputable def κ4:Z1:=fun n=>Zb7 n κL4
theorem ZwV:Zak prog κ4:=ZuR
theorem Zwk:Zct prog (walk τ0 κ4 φA):=ZbC Za1 ZwV Zkl mixed
noncomputable def Zao.con:Con:=⟨[.d tS],none,fun x=>Zbo [.bool] (Zao.fn x)⟩
theorem Zao.ok:ZQ prog 39 Zao.con:=Zf (A:=.mk [] [(0,⟨[.t 22 tI],[],[36,35,34,33,32,31,30,29,28,27,26,4,25,24,23],[]⟩)] [] [] []) (Wp:=fun xs Q=>Zao.wp xs.1 Q) Za1 Zwk (Za9 Tryz.func39 (by kernel_rfl) (by kernel_rfl)) (fun xs Q=>by kernel_rfl) fun ⟨x0,_⟩ hl hp=>Zao.spec x0 hl.1.2.1
noncomputable def ZcA.con:Con:=⟨[],none,fun _=>.agg [.fn (.func 149) [] [],.fn (.func 150) [] [],.fn (.func 151) [] []]⟩
theorem ZcA.val(xs:Zcs [])(Q:V→Prop):Q (ZcA.con.res xs)=fnV τ0 (walk τ0 κ4 φA) An.none (ZiP Tryz.f131) [] xs Q:=by kernel_rfl
theorem ZcA.ok:ZQ prog 131 ZcA.con:=Zm4 Za1 (ZbC Za1 ZwV Zkl mixed) (Za9 Tryz.func131 (by kernel_rfl) (by kernel_rfl)) fun xs _ _=>Eq.mp (ZcA.val xs _) rfl
noncomputable def Zaz.con:Con:=⟨[.d tC,.d tC],some fun x=>Zaz.pre x,fun x=>Zbo [.bool] (Zaz.fn x)⟩
theorem Zaz.ok:ZQ prog 114 Zaz.con:=Zf (A:=.mk [] [] [] [] []) (Wp:=fun xs Q=>Zaz.wp xs.1 xs.2.1 Q) Za1 Zwk (Za9 Tryz.func114 (by kernel_rfl) (by kernel_rfl)) (fun xs Q=>by kernel_rfl) fun ⟨x0,x1,_⟩ hl hp=>Zaz.spec x0 x1 hp
noncomputable def ZF.con:Con:=⟨[.d tI,.d tI,.d tI,.d (.sl tS)],none,fun x=>Zbo [.bool] (ZF.fn x)⟩
theorem ZF.ok:ZQ prog 17 ZF.con:=Zf (A:=.mk [] [(2,⟨[.t 34 tI,.t 11 tI],[],[42,41,40,39,38,13,37,36,35],[]⟩),(8,⟨[.t 73 tI],[],[87,86,85,84,83,82,81,80,79,78,77,19,76,75,74],[]⟩),(6,⟨[.t 65 tI],[],[95,94,93,92,91,90,89,88,74,87,86,85,84,83,82,81,80,79,78,77,19,76,75,73,72,71,70,69,17,68,67,66],[]⟩),(4,⟨[.t 59 tI],[],[96,66,95,94,93,92,91,90,89,88,74,87,86,85,84,83,82,81,80,79,78,77,19,76,75,73,72,71,70,69,17,68,67,65,64,63,15,62,61,60],[]⟩),(0,⟨[.t 27 tI],[],[97,60,96,66,95,94,93,92,91,90,89,88,74,87,86,85,84,83,82,81,80,79,78,77,19,76,75,73,72,71,70,69,17,68,67,65,64,63,15,62,61,59,58,57,56,55,54,53,52,51,50,49,48,47,46,45,44,43,35,42,41,40,39,38,13,37,36,34,11,33,32,31,10,30,29,28],[]⟩)] [] [] []) (Wp:=fun xs Q=>ZF.wp xs.1 xs.2.1 xs.2.2.1 xs.2.2.2.1 Q) Za1 Zwk (Za9 Tryz.func17 (by kernel_rfl) (by kernel_rfl)) (fun xs Q=>by kernel_rfl) fun ⟨x0,x1,x2,x3,_⟩ hl hp=>by first | exact ZF.spec x0 x1 x2 x3  | exact ZF.spec x0 x1 x2 x3 hp | exact ZF.spec x0 x1 x2 x3 hl.1 | exact ZF.spec x0 x1 x2 x3 hl.1 hp | exact ZF.spec x0 x1 x2 x3 hl.1.1 | exact ZF.spec x0 x1 x2 x3 hl.1.1 hp | exact ZF.spec x0 x1 x2 x3 hl.1.1.1 | exact ZF.spec x0 x1 x2 x3 hl.1.1.1 hp | exact ZF.spec x0 x1 x2 x3 hl.1.2.1 | exact ZF.spec x0 x1 x2 x3 hl.1.2.1 hp | exact ZF.spec x0 x1 x2 x3 hl.2.1 | exact ZF.spec x0 x1 x2 x3 hl.2.1 hp | exact ZF.spec x0 x1 x2 x3 hl.2.1.1 | exact ZF.spec x0 x1 x2 x3 hl.2.1.1 hp | exact ZF.spec x0 x1 x2 x3 hl.2.1.1.1 | exact ZF.spec x0 x1 x2 x3 hl.2.1.1.1 hp | exact ZF.spec x0 x1 x2 x3 hl.2.2.1.1 (fun s hs=>(hl.2.2.1.2 s hs).2.1) | exact ZF.spec x0 x1 x2 x3 hl.2.2.2.1.1 (fun s hs=>⟨(hl.2.2.2.1.2 s hs).2.1,fun p hp=>⟨((hl.2.2.2.1.2 s hs).2.2 p hp).1,fun c hc=>(((hl.2.2.2.1.2 s hs).2.2 p hp).2 c hc).2.2.1.1⟩⟩)
noncomputable def Zab.con:Con:=⟨[.d (.sl tC)],some fun x=>Zab.pre x,fun x=>Zbo [(.sl tC),.bool,tI] (Zab.fn x)⟩
theorem Zab.ok:ZQ prog 91 Zab.con:=Zf (A:=.mk [(1000,[.own 6 tC,.own 7 tC,.own 8 tC]),(1003,[.own 13 tC])] [(0,⟨[.t 36 tI,.t 5 .bool,.row 0 tC,.row 1 tC,.row 2 tC],[6,7,8],[73,48,47,46,45,12,11,44,43,40,42,41,10,39,38,37,66,63,65,64,61,62,56,55,54,53,52,51,50,49,72,69,71,70,67,68,60,57,59,58],[]⟩),(5,⟨[.t 82 tI,.t 16 .bool,.row 3 tC],[],[107,106,105,104,103,102,101,100,99,98,97,96,95,94,93,92,91,90,89,88,87,86,85,17,84,83],[]⟩),(3,⟨[.t 76 tI,.row 3 tC],[13],[114,113,110,80,112,111,109,108,83,82,81,16,15,79,78,77,107,106,105,104,103,102,101,100,99,98,97,96,95,94,93,92,91,90,89,88,87,86,85,17,84],[]⟩),(9,⟨[.t 21 tI,.row 1 tC,.row 4 .bool],[7],[132,131,140,139,138,137,22,136,135,134,133,130,129,128,127,173,170,172,171,24,23,169,168,163,167,166,165,164,162,161,160,159,158,157,156,155,154,153,152,151,150,149,148,147,146,145,144,143,142,141],[]⟩),(7,⟨[.t 120 tI,.row 1 tC,.row 4 .bool],[],[174,130,129,128,127,132,131,140,139,138,137,22,136,135,134,133,173,170,172,171,24,23,169,168,163,167,166,165,164,162,161,160,159,158,157,156,155,154,153,152,151,150,149,148,147,146,145,144,143,142,141,21,126,125,19,20,124,123,122,121],[]⟩),(15,⟨[.t 206 tI,.row 4 .bool],[],[236,220,219,218,217,216,215,214,213,212,211,29,30,210,209,208,207,235,234,233,232,231,230,229,228,227,226,225,224,223,222,221],[]⟩),(13,⟨[.t 186 tI],[],[203,202,201,200,199,198,197,196,195,194,193,192,191,190,28,189,188,187],[]⟩),(11,⟨[.t 177 tI,.row 4 .bool],[],[237,207,236,220,219,218,217,216,215,214,213,212,211,29,30,210,209,208,235,234,233,232,231,230,229,228,227,226,225,224,223,222,221,206,205,204,187,186,185,184,183,182,25,26,181,180,179,178,203,202,201,200,199,198,197,196,195,194,193,192,191,190,28,189,188],[]⟩),(17,⟨[.t 241 tI,.row 1 tC],[31],[255,254,251,238,175,7,253,252,250,249,248,247,246,32,33,245,244,243,242],[]⟩)] [] [] []) (Wp:=fun xs Q=>Zab.wp xs.1 Q) Za1 Zwk (Za9 Tryz.func91 (by kernel_rfl) (by kernel_rfl)) (fun xs Q=>by kernel_rfl) fun ⟨x0,_⟩ hl hp=>Zab.spec x0 hp
noncomputable def Zbp.con:Con:=⟨[.d tS,.d tS],none,fun x=>Zbo [tI] (Zbp.fn x)⟩
theorem Zbp.ok:ZQ prog 97 Zbp.con:=Zf (A:=.mk [] [] [] [] []) (Wp:=fun xs Q=>Zbp.wp xs.1 xs.2.1 Q) Za1 Zwk (Za9 Tryz.func97 (by kernel_rfl) (by kernel_rfl)) (fun xs Q=>by kernel_rfl) fun ⟨x0,x1,_⟩ hl hp=>Zbp.spec x0 x1
noncomputable def κL5:List (Nat×CX):=(39,.con Zao.con)::(131,.con ZcA.con)::(114,.con Zaz.con)::(17,.con ZF.con)::(91,.con Zab.con)::(97,.con Zbp.con)::κL4
theorem ZuV:Zak prog (fun n=>Zb7 n κL5):=Zj Zao.ok (Zj ZcA.ok (Zj Zaz.ok (Zj ZF.ok (Zj Zab.ok (Zj Zbp.ok ZuR)))))
noncomputable def κ5:Z1:=fun n=>Zb7 n κL5
theorem Zxo:Zak prog κ5:=ZuV
theorem ZxO:Zct prog (walk τ0 κ5 φA):=ZbC Za1 Zxo Zkl mixed
noncomputable def ZW.con:Con:=⟨[.d tC],some fun x=>ZW.pre x,fun x=>Zbo [tC,tI] (ZW.fn x)⟩
theorem ZW.ok:ZQ prog 106 ZW.con:=Zf (A:=.mk [(1,[.cases 1 0 3])] [] [] [] []) (Wp:=fun xs Q=>ZW.wp xs.1 Q) Za1 ZxO (Za9 Tryz.func106 (by kernel_rfl) (by kernel_rfl)) (fun xs Q=>by kernel_rfl) fun ⟨x0,_⟩ hl hp=>ZW.spec x0 hp
noncomputable def ZbG.con:Con:=⟨[.d tS,.d tS],none,fun x=>Zbo [tI] (ZbG.fn x)⟩
theorem ZbG.ok:ZQ prog 94 ZbG.con:=Zf (A:=.mk [] [] [] [] []) (Wp:=fun xs Q=>ZbG.wp xs.1 xs.2.1 Q) Za1 ZxO (Za9 Tryz.func94 (by kernel_rfl) (by kernel_rfl)) (fun xs Q=>by kernel_rfl) fun ⟨x0,x1,_⟩ hl hp=>ZbG.spec x0 x1
noncomputable def ZU.con:Con:=⟨[.d (.sl (.sl tC))],some fun x=>ZU.pre x,fun x=>Zbo [(.sl (.sl tC)),tI] (ZU.fn x)⟩
theorem ZU.ok:ZQ prog 84 ZU.con:=Zf (A:=.mk [(1000,[.own 4 (.sl tC)])] [(0,⟨[.t 12 tI,.row 0 (.sl tC)],[4],[37,36,33,28,35,34,32,31,30,29,27,26,25,23,22,9,8,7,21,20,19,16,18,17,6,15,14,13],[]⟩)] [] [] []) (Wp:=fun xs Q=>ZU.wp xs.1 Q) Za1 ZxO (Za9 Tryz.func84 (by kernel_rfl) (by kernel_rfl)) (fun xs Q=>by kernel_rfl) fun ⟨x0,_⟩ hl hp=>ZU.spec x0 hp
noncomputable def κL6:List (Nat×CX):=(106,.con ZW.con)::(94,.con ZbG.con)::(84,.con ZU.con)::κL5
theorem ZuT:Zak prog (fun n=>Zb7 n κL6):=Zj ZW.ok (Zj ZbG.ok (Zj ZU.ok ZuV))
noncomputable def κ6:Z1:=fun n=>Zb7 n κL6
theorem ZxC:Zak prog κ6:=ZuT
theorem Zxm:Zct prog (walk τ0 κ6 φA):=ZbC Za1 ZxC Zkl mixed
noncomputable def ZaF.con:Con:=⟨[.d (.sl tC)],some fun x=>ZaF.pre x,fun x=>Zbo [(.sl tC),.bool] (ZaF.fn x)⟩
theorem ZaF.ok:ZQ prog 108 ZaF.con:=Zf (A:=.mk [(1002,[.own 7 tC])] [(0,⟨[.t 19 tI,.smap 0 tI],[],[33,32,31,30,29,28,27,26,25,24,5,6,23,22,21,20],[]⟩),(2,⟨[.t 37 tI,.row 2 tC,.imap 1 .bool],[7],[98,64,61,63,62,60,59,58,57,56,55,54,12,11,53,52,45,51,50,49,48,47,46,44,43,42,9,10,41,40,39,38,97,94,96,95,93,92,15,14,91,90,85,89,88,87,86,82,84,83,79,81,80,13,74,73,72,71,70,69,68,67,66,65,78,75,77,76],[]⟩)] [] [] []) (Wp:=fun xs Q=>ZaF.wp xs.1 Q) Za1 Zxm (Za9 Tryz.func108 (by kernel_rfl) (by kernel_rfl)) (fun xs Q=>by kernel_rfl) fun ⟨x0,_⟩ hl hp=>ZaF.spec x0 hp
noncomputable def ZaD.con:Con:=⟨[.d tC],some fun x=>ZaD.pre x,fun x=>Zbo [tC,tI,tI] (ZaD.fn x)⟩
theorem ZaD.ok:ZQ prog 145 ZaD.con:=Zf (A:=.mk [] [] [] [] []) (Wp:=fun xs Q=>ZaD.wp xs.1 Q) Za1 Zxm (Za9 Tryz.func145 (by kernel_rfl) (by kernel_rfl)) (fun xs Q=>by kernel_rfl) fun ⟨x0,_⟩ hl hp=>ZaD.spec x0 hp
noncomputable def Zax.con:Con:=⟨[.d tI,.d (.sl (.sl tC))],some fun x=>Zax.pre x,fun x=>Zbo [tS,tI] (Zax.fn x)⟩
theorem Zax.ok:ZQ prog 46 Zax.con:=Zf (A:=.mk [] [] [] [] []) (Wp:=fun xs Q=>Zax.wp xs.1 xs.2.1 Q) Za1 Zxm (Za9 Tryz.func46 (by kernel_rfl) (by kernel_rfl)) (fun xs Q=>by kernel_rfl) fun ⟨x0,x1,_⟩ hl hp=>Zax.spec x0 x1 hp
noncomputable def ZL.con:Con:=⟨[.d (.sl (.sl tC))],some fun x=>ZL.pre x,fun x=>Zbo [(.sl (.sl tC)),tI] (ZL.fn x)⟩
theorem ZL.ok:ZQ prog 80 ZL.con:=Zf (A:=.mk [] [] [] [] []) (Wp:=fun xs Q=>ZL.wp xs.1 Q) Za1 Zxm (Za9 Tryz.func80 (by kernel_rfl) (by kernel_rfl)) (fun xs Q=>by kernel_rfl) fun ⟨x0,_⟩ hl hp=>ZL.spec x0 hp
noncomputable def κL7:List (Nat×CX):=(108,.con ZaF.con)::(145,.con ZaD.con)::(46,.con Zax.con)::(80,.con ZL.con)::κL6
theorem Zrv:Zak prog (fun n=>Zb7 n κL7):=Zj ZaF.ok (Zj ZaD.ok (Zj Zax.ok (Zj ZL.ok ZuT)))
noncomputable def κ7:Z1:=fun n=>Zb7 n κL7
theorem ZwM:Zak prog κ7:=Zrv
theorem ZwE:Sp.Ok prog 111 (.sort tC 112 (fun a b=>ZaE.pre (a,b,())) (fun a b=>ZaE.fn (a,b,()))):=Zx6 Zyh Zyu fun h=>Zvn (T:=tC) laysF6 rfl Zyx Zyt h ZaE.ok Zc5.1 Zc5.2
noncomputable def φB:Nat→Option FX:=fun n=>Zcu n ((111,.sp (.sort tC 112 (fun a b=>ZaE.pre (a,b,())) (fun a b=>ZaE.fn (a,b,()))))::ZvX)
theorem Zyq:∀ g fx,φB g=some fx→fx.Ok prog g:=Zbj ZwE ZrK
theorem Zye:Zct prog (walk τ0 κ7 φB):=ZbC Za1 ZwM Zyq mixed
theorem Zx1:Zct prog (walk τ0 κ7 φA):=ZbC Za1 ZwM Zkl mixed
noncomputable def Zb.con:Con:=⟨[.d (.sl tC)],some fun x=>Zb.pre x,fun x=>Zbo [(.sl tC),.bool,tI] (Zb.fn x)⟩
theorem Zb.ok:ZQ prog 75 Zb.con:=Zf (A:=.mk [(20,[.part 5]),(1000,[.own 5 tC])] [(0,⟨[.t 14 tI,.row 0 tC],[5],[31,30,27,29,28,26,25,24,23,9,8,22,21,18,20,19,7,17,16,15],[]⟩)] [] [] [(50,.mk [] [(2,⟨[.t 7 tI,.t 5 tI,.row 2 tC],[],[37,36,58,57,56,55,54,53,52,51,50,49,48,47,46,45,44,43,42,41,40,39,38,35,34,33,32],[]⟩),(0,⟨[.t 5 tI],[],[17,16,28,27,26,25,24,23,22,21,20,19,18,15,14,13,12],[]⟩)] [] [] []),(43,.mk [(1002,[.own 10 tC])] [(0,⟨[.t 20 tI,.smap 1 tI],[],[50,26,25,24,6,23,22,21,49,48,47,46,45,44,43,42,41,40,39,38,37,9,8,36,35,31,34,33,32,7,30,29,28,27],[]⟩),(2,⟨[.t 53 tI,.row 2 tC],[10],[95,74,73,72,71,70,69,14,13,68,67,60,66,65,64,63,62,61,59,58,57,12,56,55,54,90,89,88,87,86,85,84,16,15,83,82,75,81,80,79,78,77,76,94,91,93,92],[]⟩)] [] [] [])]) (Wp:=fun xs Q=>Zb.wp xs.1 Q) Za1 Zye (Za9 Tryz.func75 (by kernel_rfl) (by kernel_rfl)) (fun xs Q=>by kernel_rfl) fun ⟨x0,_⟩ hl hp=>Zb.spec x0 hp
noncomputable def ZaX.con:Con:=⟨[.d tC],none,fun x=>Zbo [(.sl tC),tI] (ZaX.fn x)⟩
theorem ZaX.ok:ZQ prog 129 ZaX.con:=Zf (A:=.mk [(1000,[.own 4 tC])] [(0,⟨[.t 16 tI,.row 1 tC],[4],[47,46,43,45,44,39,38,37,36,35,34,33,30,32,31,26,28,27,9,8,7,25,24,23,20,22,21,6,19,18,17,40,42,41],[]⟩)] [] [] []) (Wp:=fun xs Q=>ZaX.wp xs.1 Q) Za1 Zx1 (Za9 Tryz.func129 (by kernel_rfl) (by kernel_rfl)) (fun xs Q=>by kernel_rfl) fun ⟨x0,_⟩ hl hp=>ZaX.spec x0
noncomputable def Zam.con:Con:=⟨[.d tS],none,fun x=>Zbo [tS,tI] (Zam.fn x)⟩
theorem Zam.ok:ZQ prog 44 Zam.con:=Zf (A:=.mk [] [] [] [] []) (Wp:=fun xs Q=>Zam.wp xs.1 Q) Za1 Zx1 (Za9 Tryz.func44 (by kernel_rfl) (by kernel_rfl)) (fun xs Q=>by kernel_rfl) fun ⟨x0,_⟩ hl hp=>Zam.spec x0
theorem Zim(x0:PS.den (.d tI))(x1:PS.den (.d tL))(x2:PS.den (.d tI))(x3:PS.den (.d tL))(Q:List Int×Int→Prop):Zw.wp x0 x1 x2 x3 Q=fnL τ0 (walk τ0 κ0 φA) Zw.A (ZiP Tryz.f82) [.d tI,.d tL,.d tI,.d tL] (x0,x1,x2,x3,()) Q:=by kernel_rfl
theorem Zla:ZqR prog 82 ⟨[.d tI,.d tL,.d tI,.d tL],Zw.pre,Zw.fn⟩:=Zt8 (A:=Zw.A) Za1 (ZbC Za1 ZqX Zkl mixed) (Za9 Tryz.func82 (by kernel_rfl) (by kernel_rfl)) fun ⟨x0,x1,x2,x3,_⟩ hl hp=>Eq.mp (Zim x0 x1 x2 x3 _) (Zw.spec x0 x1 x2 x3 hp)
noncomputable def Zz.κL:List (Nat×CX):=(82,.lin ⟨[.d tI,.d tL,.d tI,.d tL],Zw.pre,Zw.fn⟩)::κL7
noncomputable def Zz.κ:Z1:=fun n=>Zb7 n Zz.κL
theorem Zz.κok:Zak prog Zz.κ:=Zk1 (c:=.lin ⟨[.d tI,.d tL,.d tI,.d tL],Zw.pre,Zw.fn⟩) Zla (Zrv)
noncomputable def Zz.con:Con:=⟨[.d (.sl tC),.d (.sl tC),.d tI],some fun x=>Zz.pre x,fun x=>Zbo [(.sl (.sl tC)),tI] (Zz.fn x)⟩
theorem Zz.ok:ZQ prog 83 Zz.con:=Zf (A:=.mk [(1000,[.own 8 tI]),(1002,[.own 13 tC]),(1005,[.own 25 (.sl tC)]),(1009,[.own 25 (.sl tC)])] [(0,⟨[.t 41 tI,.row 0 tI],[8],[62,61,52,60,59,58,57,56,55,54,53,51,50,49,48,47,46,45,10,44,43,42],[]⟩),(2,⟨[.t 74 tI,.t 17 tI,.t 15 tI,.t 16 tI,.row 1 tI,.row 2 tC],[14,13],[136,85,84,20,83,82,81,80,79,78,19,77,76,75,130,126,71,129,128,127,122,125,124,123,119,116,118,117,114,111,105,102,101,115,113,112,110,109,108,107,106,104,103,22,100,99,98,97,96,95,94,93,92,91,90,21,89,88,87,86,135,134,131,133,132,121,120],[]⟩),(7,⟨[.t 174 tI,.row 7 tC],[27],[191,190,181,171,189,188,187,186,185,184,183,182,180,179,178,29,177,176,175],[]⟩),(5,⟨[.t 26 tI,.row 6 (.sl tC)],[25],[168,167,195,192,194,193,27,171,175,191,190,181,189,188,187,186,185,184,183,182,180,179,178,29,177,176,174,173,172,169,170,166,165,164],[]⟩),(13,⟨[.t 245 tI,.t 239 tL,.row 20 tC,.cell 18 0 (.sl tI),.cell 18 1 tI],[36],[256,255,249,242,254,253,252,251,250,38,248,247,246],[17]⟩),(11,⟨[.t 34 tI,.row 6 (.sl tC)],[25],[230,229,260,257,259,258,36,242,246,256,255,249,254,253,252,251,250,38,248,247,245,239,244,243,240,241,35,238,237,236,235,234,233,232,231,228,227,226],[]⟩),(9,⟨[.t 205 tI,.row 6 (.sl tC)],[],[261,221,220,219,218,217,216,215,214,213,212,211,210,209,32,208,207,206,228,227,226,230,229,260,257,259,258,36,242,246,256,255,249,254,253,252,251,250,38,248,247,245,239,244,243,240,241,35,238,237,236,235,234,233,232,231,34,33,225,224,223,222],[]⟩)] [] [] []) (Wp:=fun xs Q=>Zz.wp xs.1 xs.2.1 xs.2.2.1 Q) Za1 (ZbC Za1 Zz.κok Zkl mixed) (Za9 Tryz.func83 (by kernel_rfl) (by kernel_rfl)) (fun xs Q=>by kernel_rfl) fun ⟨x0,x1,x2,_⟩ hl hp=>Zz.spec x0 x1 x2 hp
noncomputable def κL8:List (Nat×CX):=(75,.con Zb.con)::(129,.con ZaX.con)::(44,.con Zam.con)::(83,.con Zz.con)::κL7
theorem Zuy:Zak prog (fun n=>Zb7 n κL8):=Zj Zb.ok (Zj ZaX.ok (Zj Zam.ok (Zj Zz.ok Zrv)))
noncomputable def κ8:Z1:=fun n=>Zb7 n κL8
theorem ZxS:Zak prog κ8:=Zuy
theorem Zv9:Zct prog (walk τ0 κ8 φA):=ZbC Za1 ZxS Zkl mixed
noncomputable def ZH.con:Con:=⟨[.d tS],none,fun x=>Zbo [tS,tI] (ZH.fn x)⟩
theorem ZH.ok:ZQ prog 40 ZH.con:=Zf (A:=.mk [] [] [] [] [(13,.mk [] [] [] [] [(10,.mk [] [] [] [] [(5000,.mk [(1000,[.ownc 15 0 (.sl tC)])] [(0,⟨[.t 7 tI,.row 20 (.sl tC),.smap 16 .bool],[],[15,14,13,12,11,4,10,9,8],[]⟩)] [] [] [])])])]) (Wp:=fun xs Q=>ZH.wp xs.1 Q) Za1 Zv9 (Za9 Tryz.func40 (by kernel_rfl) (by kernel_rfl)) (fun xs Q=>by kernel_rfl) fun ⟨x0,_⟩ hl hp=>ZH.spec x0
noncomputable def ZY.con:Con:=⟨[.d (.sl tC),.d tI,.d tI],some fun x=>ZY.pre x,fun x=>Zbo [(.sl (.sl tC)),tI] (ZY.fn x)⟩
theorem ZY.ok:ZQ prog 41 ZY.con:=Zf (A:=.mk [(10,[.nxt 60]),(2,[.frzl 2,.frzl 4,.frzl 5,.frzl 6])] [] [] [] [(41,.mk [] [] [] [] [(5000,.mk [(1000,[.ownc 62 0 (.sl tC)])] [(0,⟨[.t 8 tI,.row 67 (.sl tC),.smap 63 .bool],[],[16,15,14,13,12,4,11,10,9],[]⟩)] [] [] [(6,.mk [(4,[.frzl 3]),(1000,[.ownc 62 0 (.sl tC)]),(1002,[.ownc 62 0 (.sl tC)])] [(0,⟨[.t 40 tI,.row 70 (.sl tC),.smap 63 .bool],[],[54,53,52,51,50,49,48,47,46,45,44,43,9,42,41],[]⟩),(4,⟨[.t 74 tI,.row 70 (.sl tC),.smap 63 .bool],[],[98,97,96,95,94,93,92,91,90,89,88,87,86,85,84,13,83,82,81,80,79,78,77,12,76,75],[]⟩),(2,⟨[.t 58 tI,.row 70 (.sl tC),.smap 63 .bool],[],[99,72,71,70,69,68,67,66,65,64,63,62,11,61,60,59,75,98,97,96,95,94,93,92,91,90,89,88,87,86,85,84,13,83,82,81,80,79,78,77,12,76,74,73],[]⟩)] [] [] [(15,.mk [(1000,[.own 5 tI])] [(0,⟨[.t 17 tI,.row 68 tI],[5],[30,29,21,28,27,26,25,24,23,22,7,20,19,18],[]⟩),(2,⟨[.t 45 tI,.row 69 tI,.row 3 (.pair tC (.pair tI tL))],[8],[96,95,88,39,94,93,92,91,90,89,87,86,85,84,83,82,81,80,79,78,77,76,75,74,73,72,71,70,69,68,67,66,65,64,63,62,61,60,59,58,11,57,56,55,54,53,52,51,50,9,10,49,48,47,46],[]⟩)] [] [] [])])])]),(18,.mk [(1000,[.ownc 1 1 tC,.ownc 1 2 (.pair tC (.pair tI tL)),.ownc 1 4 (.pair tC (.pair tI tL)),.ownc 1 5 (.pair tC (.pair tI tL)),.ownc 1 6 (.pair tC (.pair tI tL))])] [(0,⟨[.t 18 tI,.cell 1 0 tI,.cell 1 3 tI,.row 2 tC,.row 3 (.pair tC (.pair tI tL)),.row 6 (.pair tC (.pair tI tL)),.row 4 (.pair tC (.pair tI tL)),.row 5 (.pair tC (.pair tI tL))],[],[122,52,51,43,50,49,48,33,29,47,46,45,44,42,41,40,11,39,38,37,36,35,34,10,32,31,30,28,27,26,25,24,23,22,9,21,20,19,121,120,117,94,87,86,83,80,79,76,119,118,56,55,116,96,95,93,92,91,90,89,88,85,84,82,81,78,77,75,74,73,72,71,70,69,68,67,63,66,65,64,12,54,53,106,105,102,104,103,101,97,100,99,98,115,114,111,113,112,110,107,109,108,62,61,58,60,59,57],[]⟩)] [] [] []),(35,.mk [] [(2,⟨[.t 21 tI],[],[33,32,31,30,29,28,27,26,25,6,24,23,22],[]⟩),(0,⟨[.t 14 tI],[],[34,22,33,32,31,30,29,28,27,26,25,6,24,23,21,20,19,18,4,17,16,15],[]⟩)] [] [] [])]) (Wp:=fun xs Q=>ZY.wp xs.1 xs.2.1 xs.2.2.1 Q) Za1 Zv9 (Za9 Tryz.func41 (by kernel_rfl) (by kernel_rfl)) (fun xs Q=>by kernel_rfl) fun ⟨x0,x1,x2,_⟩ hl hp=>ZY.spec x0 x1 x2 hp
noncomputable def Zb5.con:Con:=⟨[.d (.sl tC),.d (.sl tC)],some fun x=>Zb5.pre x,fun x=>Zbo [(.sl (.sl tC)),tI] (Zb5.fn x)⟩
theorem Zb5.ok:ZQ prog 96 Zb5.con:=Zf (A:=.mk [(1000,[.own 9 (.sl tC)])] [(2,⟨[.t 48 tI,.row 1 (.sl tC)],[9],[63,62,52,61,60,59,58,57,56,55,54,53,15,51,50,49],[]⟩),(0,⟨[.t 33 tI,.row 1 (.sl tC)],[],[64,49,63,62,52,61,60,59,58,57,56,55,54,53,15,51,50,48,47,46,44,43,13,12,42,41,38,40,39,10,11,37,36,35,34],[]⟩)] [] [] []) (Wp:=fun xs Q=>Zb5.wp xs.1 xs.2.1 Q) Za1 Zv9 (Za9 Tryz.func96 (by kernel_rfl) (by kernel_rfl)) (fun xs Q=>by kernel_rfl) fun ⟨x0,x1,_⟩ hl hp=>Zb5.spec x0 x1 hp
noncomputable def Zae.con:Con:=⟨[.d (.sl tC),.d tI,.d tI],some fun x=>Zae.pre x,fun x=>Zbo [(.sl (.sl tC)),tI] (Zae.fn x)⟩
theorem Zae.ok:ZQ prog 45 Zae.con:=Zf (A:=.mk [(1000,[.own 8 tC,.own 11 tC,.own 9 tC,.own 10 tC])] [(0,⟨[.t 28 tI,.t 12 tI,.row 0 tC,.row 1 tC,.row 2 tC,.row 3 tC],[8,11,9,10],[95,57,46,56,55,54,53,52,51,50,49,48,47,43,45,44,15,38,37,36,35,34,33,13,14,32,31,30,29,79,78,77,76,75,74,73,72,71,70,69,68,67,66,65,64,63,62,58,61,60,59,87,84,86,85,80,83,82,81,94,91,93,92,88,90,89,42,39,41,40],[]⟩),(5,⟨[.t 135 tI,.t 16 .bool],[],[158,157,156,155,154,153,152,151,150,149,148,147,146,145,144,143,142,141,140,139,20,138,137,136],[]⟩),(3,⟨[.t 129 tI,.t 16 .bool],[],[159,136,158,157,156,155,154,153,152,151,150,149,148,147,146,145,144,143,142,141,140,139,20,138,137,135,134,133,18,132,131,130],[]⟩),(9,⟨[.t 170 tI,.row 0 tC],[21],[200,199,174,161,8,198,197,196,195,194,193,192,191,190,189,188,187,186,185,184,183,182,181,180,179,178,177,176,175,25,173,172,171],[]⟩),(7,⟨[.t 164 tI,.row 0 tC],[],[201,171,200,199,174,161,8,198,197,196,195,194,193,192,191,190,189,188,187,186,185,184,183,182,181,180,179,178,177,176,175,25,173,172,170,169,168,23,167,166,165],[]⟩)] [] [] []) (Wp:=fun xs Q=>Zae.wp xs.1 xs.2.1 xs.2.2.1 Q) Za1 Zv9 (Za9 Tryz.func45 (by kernel_rfl) (by kernel_rfl)) (fun xs Q=>by kernel_rfl) fun ⟨x0,x1,x2,_⟩ hl hp=>Zae.spec x0 x1 x2 hp
noncomputable def Zba.con:Con:=⟨[.d tS,.d tS],none,fun x=>Zbo [tS,tI] (Zba.fn x)⟩
theorem Zba.ok:ZQ prog 64 Zba.con:=Zf (A:=.mk [(1002,[.own 14 (.sl tC)])] [(6,⟨[.t 102 tI,.row 5 (.sl tC)],[14],[117,116,106,115,114,113,112,111,110,109,108,107,25,105,104,103],[]⟩),(4,⟨[.t 86 tI,.row 5 (.sl tC)],[],[118,103,117,116,106,115,114,113,112,111,110,109,108,107,25,105,104,102,101,100,97,96,23,22,95,94,91,93,92,20,21,90,89,88,87],[]⟩),(2,⟨[.t 63 tI,.row 5 (.sl tC)],[14],[119,83,80,82,81,79,76,75,19,18,17,74,73,72,67,71,70,69,68,16,66,65,64,87,118,103,117,116,106,115,114,113,112,111,110,109,108,107,25,105,104,102,101,100,97,96,23,22,95,94,91,93,92,20,21,90,89,88,86,85,84],[]⟩),(0,⟨[.t 57 tI,.t 11 (.sl (.sl tC))],[],[133,132,131,128,127,27,26,126,125,120,124,123,14,122,121,64,119,83,80,82,81,79,76,75,19,18,17,74,73,72,67,71,70,69,68,16,66,65,87,118,103,117,116,106,115,114,113,112,111,110,109,108,107,25,105,104,102,101,100,97,96,23,22,95,94,91,93,92,20,21,90,89,88,86,85,84,63,62,61,13,60,59,58],[]⟩)] [] [] []) (Wp:=fun xs Q=>Zba.wp xs.1 xs.2.1 Q) Za1 Zv9 (Za9 Tryz.func64 (by kernel_rfl) (by kernel_rfl)) (fun xs Q=>by kernel_rfl) fun ⟨x0,x1,_⟩ hl hp=>Zba.spec x0 x1
noncomputable def κL9:List (Nat×CX):=(40,.con ZH.con)::(41,.con ZY.con)::(96,.con Zb5.con)::(45,.con Zae.con)::(64,.con Zba.con)::κL8
theorem ZrX:Zak prog (fun n=>Zb7 n κL9):=Zj ZH.ok (Zj ZY.ok (Zj Zb5.ok (Zj Zae.ok (Zj Zba.ok Zuy))))
noncomputable def κ9:Z1:=fun n=>Zb7 n κL9
theorem ZwJ:Zak prog κ9:=ZrX
theorem Zx5:Zct prog (walk τ0 κ9 φA):=ZbC Za1 ZwJ Zkl mixed
noncomputable def Zbz.con:Con:=⟨[.d tS,.d tI],none,fun x=>Zbo [tS,tI] (Zbz.fn x)⟩
theorem Zbz.ok:ZQ prog 14 Zbz.con:=Zf (A:=.mk [(1000,[.own 8 (.sl tC)])] [(0,⟨[.t 39 tI,.row 3 (.sl tC)],[8],[58,57,55,56,52,51,12,11,50,49,43,48,47,46,45,44,10,42,41,40],[]⟩)] [] [] [(62,.mk [] [] [] [] [(5000,.mk [(1000,[.ownc 6 0 (.sl tC)])] [(0,⟨[.t 7 tI,.row 11 (.sl tC),.smap 7 .bool],[],[15,14,13,12,11,4,10,9,8],[]⟩)] [] [] [])])]) (Wp:=fun xs Q=>Zbz.wp xs.1 xs.2.1 Q) Za1 Zx5 (Za9 Tryz.func14 (by kernel_rfl) (by kernel_rfl)) (fun xs Q=>by kernel_rfl) fun ⟨x0,x1,_⟩ hl hp=>Zbz.spec x0 x1
noncomputable def ZbI.con:Con:=⟨[.d tS,.d tS],none,fun x=>Zbo [tS,tI] (ZbI.fn x)⟩
theorem ZbI.ok:ZQ prog 63 ZbI.con:=Zf (A:=.mk [] [(0,⟨[.t 42 tI,.t 8 tI,.cell 3 0 tI,.cell 3 1 (.sl (.sl tC)),.cell 5 0 tI],[],[62,60,59,58,57,56,55,54,53,48,52,51,50,49,14,47,46,13,45,44,43],[]⟩)] [] [] [(52,.mk [] [] [] [] [(10,.mk [] [] [] [] [(5000,.mk [(1000,[.ownc 11 0 (.sl tC)])] [(2,⟨[.t 28 tI,.row 16 (.sl tC),.smap 12 .bool],[],[36,35,34,33,32,10,31,30,29],[]⟩),(0,⟨[.t 13 tI,.row 16 (.sl tC),.smap 12 .bool],[],[37,29,36,35,34,33,32,10,31,30,28,27,26,24,23,8,7,22,21,17,20,19,18,6,16,15,14],[]⟩)] [] [] [])])])]) (Wp:=fun xs Q=>ZbI.wp xs.1 xs.2.1 Q) Za1 Zx5 (Za9 Tryz.func63 (by kernel_rfl) (by kernel_rfl)) (fun xs Q=>by kernel_rfl) fun ⟨x0,x1,_⟩ hl hp=>ZbI.spec x0 x1
def Zs.A:An:=.mk [] [(0,⟨[.t 28 tI],[],[46,43,42,41,40,39,11,10,38,37,32,36,35,34,33,9,31,30,29],[]⟩)] [] [] []
noncomputable def Zs.conN(N:Nat):Con:=⟨[.d (.sl tC),.d tI],some fun x=>Zs.preN N x,fun x=>Zbo [.bool,tI] (Zs.fn x)⟩
noncomputable def Zs.κs(N:Nat):Z1:=fun n=>Zb7 n ((48,.con (Zs.conN N))::κL9)
theorem Zs.walk(N:Nat)(x0:PS.den (.d (.sl tC)))(x1:PS.den (.d tI))(Q:ZeI [.bool,tI]→Prop):Zs.wp N x0 x1 Q=fnW τ0 (walk τ0 (Zs.κs N) φA) Zs.A (ZiP Tryz.f48) [.d (.sl tC),.d tI] [.bool,tI] (x0,x1,()) Q:=by kernel_rfl
theorem Zs.okN:∀ N,ZQ prog 48 (Zs.conN N)
 | 0=>⟨(Za9 Tryz.func48 (by kernel_rfl) (by kernel_rfl)).call,fun w S xs hS hp=>absurd (show Zs.preN 0 xs from hp) (Zs.none xs)⟩
 | N+1=>Zf (Wp:=fun xs Q=>Zs.wp N xs.1 xs.2.1 Q) Za1 (ZbC Za1 (Zj (Zs.okN N) ZrX) Zkl mixed) (Za9 Tryz.func48 (by kernel_rfl) (by kernel_rfl)) (fun xs Q=>Zs.walk N xs.1 xs.2.1 Q) fun ⟨x0,x1,_⟩ hl hp=>Zs.spec N x0 x1 hp
noncomputable def Zs.con:Con:=⟨[.d (.sl tC),.d tI],some fun x=>Zs.pre x,fun x=>Zbo [.bool,tI] (Zs.fn x)⟩
theorem Zs.ok:ZQ prog 48 Zs.con:=⟨(Zs.okN 0).1,fun w S xs hS hp=>let ⟨N,h⟩:=Zs.some_ xs hp;(Zs.okN N).2 w S xs hS h⟩
noncomputable def φR(N:Nat):Nat→Option FX:=fun n=>Zcu n ((85,.sp (.self (Zrw 85 (Zeu N) ZdE)))::ZvX)
def ZaV.A:An:=.mk [] [(0,⟨[.t 44 tI,.smap 2 .bool],[],[62,60,61,56,58,57,17,16,55,54,48,53,23,52,51,50,49,15,47,46,45],[]⟩)] [] [] []
theorem ZaV.walk(N:Nat)(x0:List Zc)(x1:Int)(x2:ByteArray→Option Bool)(Q:Bool×Int→(ByteArray→Option Bool)→Prop):ZaV.wp N x0 x1 x2 Q=ZxM τ0 (walk τ0 κ9 (φR N)) ZaV.A (ZiP Tryz.f85) (Zrw 85 (Zeu (N+1)) ZdE) (x0,x1) x2 (fun r b=>Q r b):=by kernel_rfl
theorem ZaV.okN:∀ N,Sp.Ok prog 85 (.self (Zrw 85 (Zeu N) ZdE))
 | 0=>⟨Zmg _ _ _,(Za9 Tryz.func85 (by kernel_rfl) (by kernel_rfl)).call,fun E objs vs ks a b g hg hp=>absurd (show Zeu 0 a b from hp) (ZtE a b)⟩
 | N+1=>Ztt Za1 (ZbC Za1 ZwJ (Zbj (f:=85) (x:=.sp (.self (Zrw 85 (Zeu N) ZdE))) (ZaV.okN N) ZrK) mixed) (Za9 Tryz.func85 (by kernel_rfl) (by kernel_rfl)) (Zmg _ _ _) fun a b hp=>Eq.mp (ZaV.walk N a.1 a.2 b _) (ZaV.spec N a.1 a.2 b hp)
theorem ZaV.ok:Sp.Ok prog 85 (.self (Zrw 85 ZkA ZdE)):=⟨Zmg _ _ _,(ZaV.okN 0).2.1,fun E objs vs ks a b g hg hp cs rv=>let ⟨N,h⟩:=Zup a b hp;(ZaV.okN N).2.2 E objs vs ks a b g hg h cs rv⟩
noncomputable def φE:Nat→Option FX:=fun n=>Zcu n ((85,.sp (.self (Zrw 85 ZkA ZdE)))::ZvX)
theorem Zym:∀ g fx,φE g=some fx→fx.Ok prog g:=Zbj (f:=85) (x:=.sp (.self (Zrw 85 ZkA ZdE))) ZaV.ok ZrK
noncomputable def ZxL:List (Nat×CX):=(14,.con Zbz.con)::(63,.con ZbI.con)::(48,.con Zs.con)::κL9
theorem Zq0:Zak prog (fun n=>Zb7 n ZxL):=Zj Zbz.ok (Zj ZbI.ok (Zj Zs.ok ZrX))
noncomputable def κ10:Z1:=fun n=>Zb7 n ZxL
theorem ZuF:Zak prog κ10:=Zq0
theorem ZxP:Zct prog (walk τ0 κ10 φE):=ZbC Za1 ZuF Zym mixed
theorem ZxN:Zct prog (walk τ0 κ10 φA):=ZbC Za1 ZuF Zkl mixed
noncomputable def Za2.con:Con:=⟨[.d tS],none,fun x=>Zbo [.bool,tI] (Za2.fn x)⟩
theorem Za2.ok:ZQ prog 18 Za2.con:=Zf (A:=.mk [] [(0,⟨[.t 26 tI,.smap 2 .bool],[],[44,42,41,40,39,38,10,9,37,36,30,35,34,33,32,31,8,29,28,27],[]⟩)] [] [] []) (Wp:=fun xs Q=>Za2.wp xs.1 Q) Za1 ZxP (Za9 Tryz.func18 (by kernel_rfl) (by kernel_rfl)) (fun xs Q=>by kernel_rfl) fun ⟨x0,_⟩ hl hp=>Za2.spec x0
noncomputable def Zbc.con:Con:=⟨[.d tS],none,fun x=>Zbo [.bool,tI] (Zbc.fn x)⟩
theorem Zbc.ok:ZQ prog 19 Zbc.con:=Zf (A:=.mk [] [(0,⟨[.t 24 tI],[],[41,39,38,37,36,35,9,8,34,33,28,32,31,30,29,7,27,26,25],[]⟩)] [] [] []) (Wp:=fun xs Q=>Zbc.wp xs.1 Q) Za1 ZxN (Za9 Tryz.func19 (by kernel_rfl) (by kernel_rfl)) (fun xs Q=>by kernel_rfl) fun ⟨x0,_⟩ hl hp=>Zbc.spec x0
noncomputable def ZxG:List (Nat×CX):=(18,.con Za2.con)::(19,.con Zbc.con)::ZxL
theorem Zr5:Zak prog (fun n=>Zb7 n ZxG):=Zj Za2.ok (Zj Zbc.ok Zq0)
noncomputable def κ11:Z1:=fun n=>Zb7 n ZxG
theorem Zw1:Zak prog κ11:=Zr5
theorem Zvb:Zct prog (walk τ0 κ11 φA):=ZbC Za1 Zw1 Zkl mixed
noncomputable def ZC.con:Con:=⟨[],none,fun x=>Zbo [.bool] (ZC.fn x)⟩
theorem ZC.ok:ZQ prog 13 ZC.con:=Zf (A:=.mk [] [] [] [] []) (Wp:=fun xs Q=>ZC.wp  Q) Za1 Zvb (Za9 Tryz.func13 (by kernel_rfl) (by kernel_rfl)) (fun xs Q=>by kernel_rfl) fun () hl hp=>by first | exact ZC.spec   | exact ZC.spec  hp | exact ZC.spec  hl.1 | exact ZC.spec  hl.1 hp | exact ZC.spec  hl.1.1 | exact ZC.spec  hl.1.1 hp | exact ZC.spec  hl.1.1.1 | exact ZC.spec  hl.1.1.1 hp | exact ZC.spec  hl.1.2.1 | exact ZC.spec  hl.1.2.1 hp | exact ZC.spec  hl.2.1 | exact ZC.spec  hl.2.1 hp | exact ZC.spec  hl.2.1.1 | exact ZC.spec  hl.2.1.1 hp | exact ZC.spec  hl.2.1.1.1 | exact ZC.spec  hl.2.1.1.1 hp | exact ZC.spec  hl.2.2.1.1 (fun s hs=>(hl.2.2.1.2 s hs).2.1) | exact ZC.spec  hl.2.2.2.1.1 (fun s hs=>⟨(hl.2.2.2.1.2 s hs).2.1,fun p hp=>⟨((hl.2.2.2.1.2 s hs).2.2 p hp).1,fun c hc=>(((hl.2.2.2.1.2 s hs).2.2 p hp).2 c hc).2.2.1.1⟩⟩)
noncomputable def Zas.con:Con:=⟨[.d tS,.d tS],none,fun x=>Zbo [.bool,tI] (Zas.fn x)⟩
theorem Zas.ok:ZQ prog 33 Zas.con:=Zf (A:=.mk [] [] [] [] []) (Wp:=fun xs Q=>Zas.wp xs.1 xs.2.1 Q) Za1 Zvb (Za9 Tryz.func33 (by kernel_rfl) (by kernel_rfl)) (fun xs Q=>by kernel_rfl) fun ⟨x0,x1,_⟩ hl hp=>Zas.spec x0 x1
noncomputable def Zav.con:Con:=⟨[.d tS,.d tS],none,fun x=>Zbo [.bool,tI] (Zav.fn x)⟩
theorem Zav.ok:ZQ prog 34 Zav.con:=Zf (A:=.mk [] [] [] [] []) (Wp:=fun xs Q=>Zav.wp xs.1 xs.2.1 Q) Za1 Zvb (Za9 Tryz.func34 (by kernel_rfl) (by kernel_rfl)) (fun xs Q=>by kernel_rfl) fun ⟨x0,x1,_⟩ hl hp=>Zav.spec x0 x1
noncomputable def Zxr:List (Nat×CX):=(13,.con ZC.con)::(33,.con Zas.con)::(34,.con Zav.con)::ZxG
theorem Zsk:Zak prog (fun n=>Zb7 n Zxr):=Zj ZC.ok (Zj Zas.ok (Zj Zav.ok Zr5))
noncomputable def κ12:Z1:=fun n=>Zb7 n Zxr
theorem Zwv:Zak prog κ12:=Zsk
theorem Zwz:Zct prog (walk τ0 κ12 φA):=ZbC Za1 Zwv Zkl mixed
noncomputable def ZbH.con:Con:=⟨[.d tS,.d tS],none,fun x=>Zbo [.bool,tI] (ZbH.fn x)⟩
theorem ZbH.ok:ZQ prog 35 ZbH.con:=Zf (A:=.mk [] [] [] [] []) (Wp:=fun xs Q=>ZbH.wp xs.1 xs.2.1 Q) Za1 Zwz (Za9 Tryz.func35 (by kernel_rfl) (by kernel_rfl)) (fun xs Q=>by kernel_rfl) fun ⟨x0,x1,_⟩ hl hp=>ZbH.spec x0 x1
noncomputable def Za0.con:Con:=⟨[.d tS,.d tS],none,fun x=>Zbo [.bool,tI] (Za0.fn x)⟩
theorem Za0.ok:ZQ prog 36 Za0.con:=Zf (A:=.mk [] [] [] [] []) (Wp:=fun xs Q=>Za0.wp xs.1 xs.2.1 Q) Za1 Zwz (Za9 Tryz.func36 (by kernel_rfl) (by kernel_rfl)) (fun xs Q=>by kernel_rfl) fun ⟨x0,x1,_⟩ hl hp=>Za0.spec x0 x1
noncomputable def Zx8:List (Nat×CX):=(35,.con ZbH.con)::(36,.con Za0.con)::Zxr
theorem Zvs:Zak prog (fun n=>Zb7 n Zx8):=Zj ZbH.ok (Zj Za0.ok Zsk)
noncomputable def κ13:Z1:=fun n=>Zb7 n Zx8
theorem Zw4:Zak prog κ13:=Zvs
def law05_ElimWithin.A:An:=.mk [] [] [] [] []
theorem law05_ElimWithin.walk(x0:PS.den (.d tS))(x1:PS.den (.d tS))(Q:ZeI [.bool]→Prop):law05_ElimWithin.wp x0 x1 Q=fnW τ0 (walk τ0 κ13 φA) law05_ElimWithin.A (ZiP Tryz.f10) [.d tS,.d tS] [.bool] (x0,x1,()) Q:=by kernel_rfl
theorem law05_ElimWithin.calls(x0:PS.den (.d tS))(x1:PS.den (.d tS)){W:World}(hS:Sok prog W (ZuQ W)){args:Array Value}(hr:Zby prog (ZtD W) (Zj2 [.d tS,.d tS] (x0,x1,())) args.toList):Calls prog 10 args W fun e w'=>e=.returned (.bool true)∧RowKit.Below W.heap.size W w' :=
 Zq6 Za1 (ZbC Za1 Zw4 Zkl mixed) (Za9 Tryz.func10 (by kernel_rfl) (by kernel_rfl)) (law05_ElimWithin.walk x0 x1 _) (law05_ElimWithin.spec x0 x1) hS hr
end Go.Proofs.YtgpdnmfpgkkgcaaGreatDoor
