/- Part of a proof that a law of the program holds for every input: printed by a program of this work: how the functions are walked. No conditions. -/
import Derived.Test.YtldikbpclaeajaaDoorP09
namespace Go.Proofs.YtldikbpclaeajaaDoor
open Go
set_option linter.unusedSimpArgs false
set_option linter.unusedVariables false
set_option maxRecDepth 8000
set_option maxHeartbeats 4000000
abbrev tI:Ty:=.int .i64
abbrev tC:Ty:=.pair (.int .i64) (.pair (.int .i64) (.pair (.sl (.int .i64)) (.int .i64)))
abbrev tS:Ty:=.pair (.int .i64) (.sl (.sl tC))
abbrev tL:Ty:=.pair (.sl (.int .i64)) (.int .i64)
noncomputable def Vc:List (Nat×FX):=[]
theorem cF:∀g fx,(λn=>B1 n Vc) g=some fx→fx.Ok prog g:=XP
noncomputable def Vd:List (Nat×FX):=(53,.fi (D9 Tryd.f53))::Vc
theorem cG:∀g fx,(λn=>B1 n Vd) g=some fx→fx.Ok prog g:=Fp (AN Tryd.func53 (by kernel_rfl) (by kernel_rfl)) cF
noncomputable def Ve:List (Nat×FX):=(56,.fi (D9 Tryd.f56))::Vd
theorem cH:∀g fx,(λn=>B1 n Ve) g=some fx→fx.Ok prog g:=Fp (AN Tryd.func56 (by kernel_rfl) (by kernel_rfl)) cG
noncomputable def Vf:List (Nat×FX):=(39,.fi (D9 Tryd.f39))::Ve
theorem cI:∀g fx,(λn=>B1 n Vf) g=some fx→fx.Ok prog g:=Fp (AN Tryd.func39 (by kernel_rfl) (by kernel_rfl)) cH
noncomputable def Vg:List (Nat×FX):=(29,.fi (D9 Tryd.f29))::Vf
theorem cJ:∀g fx,(λn=>B1 n Vg) g=some fx→fx.Ok prog g:=Fp (AN Tryd.func29 (by kernel_rfl) (by kernel_rfl)) cI
noncomputable def Vh:List (Nat×FX):=(43,.fi (D9 Tryd.f43))::Vg
theorem cK:∀g fx,(λn=>B1 n Vh) g=some fx→fx.Ok prog g:=Fp (AN Tryd.func43 (by kernel_rfl) (by kernel_rfl)) cJ
noncomputable def Vi:List (Nat×FX):=(58,.fi (D9 Tryd.f58))::Vh
theorem cL:∀g fx,(λn=>B1 n Vi) g=some fx→fx.Ok prog g:=Fp (AN Tryd.func58 (by kernel_rfl) (by kernel_rfl)) cK
noncomputable def Mg:List (Nat×FX):=(30,.fi (D9 Tryd.f30))::Vi
theorem QW:∀g fx,(λn=>B1 n Mg) g=some fx→fx.Ok prog g:=Fp (AN Tryd.func30 (by kernel_rfl) (by kernel_rfl)) cL
noncomputable def φA:Nat→Option FX:=λn=>B1 n Mg
theorem Dd:∀g fx,φA g=some fx→fx.Ok prog g:=QW
noncomputable def φC:Nat→Option FX:=λn=>B1 n ((63,.sp .appInt)::Mg)
theorem Vb:∀g fx,φC g=some fx→fx.Ok prog g:=Fp Vt QW
noncomputable def QL:List (Nat×CX):=[]
theorem RH:Aj prog λn=>BP n QL:=WU
noncomputable def κ0:AZ:=λn=>BP n QL
theorem K9:Aj prog κ0:=RH
theorem Zu:Bf prog (walk τw κ0 φA):=Cn U7 K9 Dd mixed
theorem B8:Bf prog (walk τ0 κ0 φA):=Cn AJ K9 Dd mixed
theorem Zt:Bf prog (walk τ0 κ0 φC):=Cn AJ K9 Vb mixed
noncomputable def BC.con:AQ:=⟨[.d tI,.d tI,.d (.sl tS)],none,λx=>AO [.bool] (BC.fn x)⟩
theorem BC.ok:AR prog 5 BC.con:=AX (A:=.mk [] [(2,⟨[.t 26 tI],[],[34,33,32,31,30,11,29,28,27],[]⟩),(0,⟨[.t 14 tI,.t 7 tI],[],[35,27,34,33,32,31,30,11,29,28,26,25,24,23,22,21,20,19,18,9,17,16,15],[]⟩)] [] [] []) (Wp:=λxs Q=>BC.wp xs.1 xs.2.1 xs.2.2.1 Q) U7 Zu (AN Tryd.func5 (by kernel_rfl) (by kernel_rfl)) λxs Q=>by kernel_rfl λ⟨x0,x1,x2,_⟩hl hp=>by first|exact BC.spec x0 x1 x2|exact BC.spec x0 x1 x2 hp|exact BC.spec x0 x1 x2 hl.1|exact BC.spec x0 x1 x2 hl.1 hp|exact BC.spec x0 x1 x2 hl.1.1|exact BC.spec x0 x1 x2 hl.1.1 hp|exact BC.spec x0 x1 x2 hl.1.1.1|exact BC.spec x0 x1 x2 hl.1.1.1 hp|exact BC.spec x0 x1 x2 hl.1.2.1|exact BC.spec x0 x1 x2 hl.1.2.1 hp|exact BC.spec x0 x1 x2 hl.2.1|exact BC.spec x0 x1 x2 hl.2.1 hp|exact BC.spec x0 x1 x2 hl.2.1.1|exact BC.spec x0 x1 x2 hl.2.1.1 hp|exact BC.spec x0 x1 x2 hl.2.1.1.1|exact BC.spec x0 x1 x2 hl.2.1.1.1 hp|exact BC.spec x0 x1 x2 hl.2.2.1.1 λs hs=>(hl.2.2.1.2 s hs).2.1|exact BC.spec x0 x1 x2 hl.2.2.2.1.1 λs hs=>⟨(hl.2.2.2.1.2 s hs).2.1,λp hp=>⟨((hl.2.2.2.1.2 s hs).2.2 p hp).1,λc hc=>(((hl.2.2.2.1.2 s hs).2.2 p hp).2 c hc).2.2.1.1⟩⟩
noncomputable def CZ.con:AQ:=⟨[.d tI,.d tI],none,λx=>AO [tC] (CZ.fn x)⟩
theorem CZ.ok:AR prog 16 CZ.con:=AX (A:=.mk [] [] [] [] []) (Wp:=λxs Q=>CZ.wp xs.1 xs.2.1 Q) AJ B8 (AN Tryd.func16 (by kernel_rfl) (by kernel_rfl)) λxs Q=>by kernel_rfl λ⟨x0,x1,_⟩hl hp=>CZ.spec x0 x1
noncomputable def A5.con:AQ:=⟨[.d tI],none,λx=>AO [.bool] (A5.fn x)⟩
theorem A5.ok:AR prog 62 A5.con:=AX (A:=.mk [] [] [] [] []) (Wp:=λxs Q=>A5.wp xs.1 Q) AJ B8 (AN Tryd.func62 (by kernel_rfl) (by kernel_rfl)) λxs Q=>by kernel_rfl λ⟨x0,_⟩hl hp=>A5.spec x0
noncomputable def C1.con:AQ:=⟨[.d (.sl tC),.f [tC] [.bool]],some λx=>C1.pre x,λx=>AO [tI] (C1.fn x)⟩
theorem C1.ok:AR prog 37 C1.con:=AX (A:=.mk [] [(0,⟨[.t 8 tI],[],[18,16,15,14,13,12,11,5,10,9],[]⟩)] [] [] []) (Wp:=λxs Q=>C1.wp xs.1 xs.2.1 Q) AJ B8 (AN Tryd.func37 (by kernel_rfl) (by kernel_rfl)) λxs Q=>by kernel_rfl λ⟨x0,x1,_⟩hl hp=>C1.spec x0 x1 hl.1.1 hp
noncomputable def Cs.con:AQ:=⟨[.d (.sl tI),.d (.int .u64),.f [.int .u64,tI] [.int .u64]],some λx=>Cs.pre x,λx=>AO [.int .u64] (Cs.fn x)⟩
theorem Cs.ok:AR prog 102 Cs.con:=AX (A:=.mk [] [(0,⟨[.t 11 tI,.t 1 (.int .u64)],[],[19,18,17,16,15,8,14,13,12],[]⟩)] [] [] []) (Wp:=λxs Q=>Cs.wp xs.1 xs.2.1 xs.2.2.1 Q) AJ B8 (AN Tryd.func102 (by kernel_rfl) (by kernel_rfl)) λxs Q=>by kernel_rfl λ⟨x0,x1,x2,_⟩hl hp=>Cs.spec x0 x1 x2 hl.1.1 hp
noncomputable def Cc.con:AQ:=⟨[.d (.int .u64),.d (.int .u64)],none,λx=>AO [.int .u64] (Cc.fn x)⟩
theorem Cc.ok:AR prog 104 Cc.con:=AX (A:=.mk [] [(0,⟨[.t 1 (.int .u64),.t 0 (.int .u64)],[],[10,9,8,7,6,5],[]⟩)] [] [] []) (Wp:=λxs Q=>Cc.wp xs.1 xs.2.1 Q) AJ B8 (AN Tryd.func104 (by kernel_rfl) (by kernel_rfl)) λxs Q=>by kernel_rfl λ⟨x0,x1,_⟩hl hp=>Cc.spec x0 x1
noncomputable def Ct.con:AQ:=⟨[.d tI],none,λx=>AO [.int .u64] (Ct.fn x)⟩
theorem Ct.ok:AR prog 105 Ct.con:=AX (A:=.mk [] [] [] [] []) (Wp:=λxs Q=>Ct.wp xs.1 Q) AJ B8 (AN Tryd.func105 (by kernel_rfl) (by kernel_rfl)) λxs Q=>by kernel_rfl λ⟨x0,_⟩hl hp=>Ct.spec x0
noncomputable def CE.con:AQ:=⟨[.d .bool],none,λx=>AO [tC,tI] (CE.fn x)⟩
theorem CE.ok:AR prog 89 CE.con:=AX (A:=.mk [] [] [] [] []) (Wp:=λxs Q=>CE.wp xs.1 Q) AJ B8 (AN Tryd.func89 (by kernel_rfl) (by kernel_rfl)) λxs Q=>by kernel_rfl λ⟨x0,_⟩hl hp=>CE.spec x0
noncomputable def B7.con:AQ:=⟨[.d tI,.d tI],some λx=>B7.pre x,λx=>AO [tI,tI] (B7.fn x)⟩
theorem B7.ok:AR prog 90 B7.con:=AX (A:=.mk [] [] [] [] []) (Wp:=λxs Q=>B7.wp xs.1 xs.2.1 Q) AJ B8 (AN Tryd.func90 (by kernel_rfl) (by kernel_rfl)) λxs Q=>by kernel_rfl λ⟨x0,x1,_⟩hl hp=>B7.spec x0 x1 hp
noncomputable def BY.con:AQ:=⟨[.d tC,.d tI],some λx=>BY.pre x,λx=>AO [.sl tI] (BY.fn x)⟩
theorem BY.ok:AR prog 91 BY.con:=AX (A:=.mk [] [(0,⟨[.t 19 tI,.row 1 tI],[],[30,29,28,27,26,25,24,7,6,23,22,21,20],[]⟩)] [] [] []) (Wp:=λxs Q=>BY.wp xs.1 xs.2.1 Q) AJ B8 (AN Tryd.func91 (by kernel_rfl) (by kernel_rfl)) λxs Q=>by kernel_rfl λ⟨x0,x1,_⟩hl hp=>BY.spec x0 x1 hp
noncomputable def Bp.con:AQ:=⟨[.d tI,.d tI],some λx=>Bp.pre x,λx=>AO [tI,tI] (Bp.fn x)⟩
theorem Bp.ok:AR prog 92 Bp.con:=AX (A:=.mk [] [] [] [] []) (Wp:=λxs Q=>Bp.wp xs.1 xs.2.1 Q) AJ B8 (AN Tryd.func92 (by kernel_rfl) (by kernel_rfl)) λxs Q=>by kernel_rfl λ⟨x0,x1,_⟩hl hp=>Bp.spec x0 x1 hp
noncomputable def BB.con:AQ:=⟨[.d (.sl tI),.d tI],some λx=>BB.pre x,λx=>AO [.str] (BB.fn x)⟩
theorem BB.ok:AR prog 64 BB.con:=AX (A:=.mk [(1000,[.own 5 (.int .u8)])] [(0,⟨[.t 10 tI,.row 0 (.int .u8)],[5],[22,21,19,18,20,14,17,16,15,7,13,12,11],[]⟩)] [] [] []) (Wp:=λxs Q=>BB.wp xs.1 xs.2.1 Q) AJ Zt (AN Tryd.func64 (by kernel_rfl) (by kernel_rfl)) λxs Q=>by kernel_rfl λ⟨x0,x1,_⟩hl hp=>BB.spec x0 x1 hp
noncomputable def Dr.con:AQ:=⟨[.d (.sl tI)],none,λx=>AO [tI] (Dr.fn x)⟩
theorem Dr.ok:AR prog 68 Dr.con:=AX (A:=.mk [] [(0,⟨[.t 8 tI],[],[16,14,13,12,5,11,10,9],[]⟩)] [] [] []) (Wp:=λxs Q=>Dr.wp xs.1 Q) AJ B8 (AN Tryd.func68 (by kernel_rfl) (by kernel_rfl)) λxs Q=>by kernel_rfl λ⟨x0,_⟩hl hp=>Dr.spec x0 hl.1.1
noncomputable def C4.con:AQ:=⟨[.d tI],none,λx=>AO [.bool] (C4.fn x)⟩
theorem C4.ok:AR prog 86 C4.con:=AX (A:=.mk [] [] [] [] []) (Wp:=λxs Q=>C4.wp xs.1 Q) AJ B8 (AN Tryd.func86 (by kernel_rfl) (by kernel_rfl)) λxs Q=>by kernel_rfl λ⟨x0,_⟩hl hp=>C4.spec x0
noncomputable def Hs.con:AQ:=⟨[.d (.sl (.sl tC))],none,λx=>.fn (.func 43) [] [.er [.d (.sl (.sl tC)) x.1]]⟩
theorem Hs.val(xs:BO [.d (.sl (.sl tC))])(Q:V→Prop):Q (Hs.con.res xs)=JT τ0 (walk τ0 κ0 φA) An.none (D9 Tryd.f32) [.d (.sl (.sl tC))] xs Q:=by kernel_rfl
theorem Hs.ok:AR prog 32 Hs.con:=RC AJ (Cn AJ K9 Dd mixed) (AN Tryd.func32 (by kernel_rfl) (by kernel_rfl)) λxs _ _=>Eq.mp (Hs.val xs _) rfl
noncomputable def CA.con:AQ:=⟨[.d (.sl (.sl tC))],some λx=>CA.pre x,λx=>AO [.sl tC] (CA.fn x)⟩
theorem CA.ok:AR prog 41 CA.con:=AX (A:=.mk [(1002,[.own 6 tC,.zero 6])] [(0,⟨[.t 11 tI,.t 3 tI],[],[22,20,19,18,17,16,15,5,14,13,12],[]⟩),(2,⟨[.t 27 tI,.row 0 tC],[6],[34,33,31,32,8,30,29,28],[]⟩)] [] [] []) (Wp:=λxs Q=>CA.wp xs.1 Q) AJ B8 (AN Tryd.func41 (by kernel_rfl) (by kernel_rfl)) λxs Q=>by kernel_rfl λ⟨x0,_⟩hl hp=>CA.spec x0 hp
noncomputable def Ck.con:AQ:=⟨[.d tL,.d tI],some λx=>Ck.pre x,λx=>AO [tL] (Ck.fn x)⟩
theorem Ck.ok:AR prog 71 Ck.con:=AX (A:=.mk [] [(0,⟨[.t 20 tI,.row 5 tI],[],[31,30,29,28,27,26,25,7,6,24,23,22,21],[]⟩)] [] [] []) (Wp:=λxs Q=>Ck.wp xs.1 xs.2.1 Q) AJ B8 (AN Tryd.func71 (by kernel_rfl) (by kernel_rfl)) λxs Q=>by kernel_rfl λ⟨x0,x1,_⟩hl hp=>Ck.spec x0 x1 hp
noncomputable def DS.con:AQ:=⟨[.d tL,.d tL],none,λx=>AO [.bool] (DS.fn x)⟩
theorem DS.ok:AR prog 61 DS.con:=AX (A:=.mk [] [(0,⟨[.t 23 tI],[],[37,36,35,34,33,32,31,30,29,28,27,26,5,25,24],[]⟩)] [] [] []) (Wp:=λxs Q=>DS.wp xs.1 xs.2.1 Q) AJ B8 (AN Tryd.func61 (by kernel_rfl) (by kernel_rfl)) λxs Q=>by kernel_rfl λ⟨x0,x1,_⟩hl hp=>DS.spec x0 x1 hl.1.1.1
noncomputable def CL.con:AQ:=⟨[.d tI],none,λx=>AO [tS,tI] (CL.fn x)⟩
theorem CL.ok:AR prog 7 CL.con:=AX (A:=.mk [] [] [] [] []) (Wp:=λxs Q=>CL.wp xs.1 Q) AJ B8 (AN Tryd.func7 (by kernel_rfl) (by kernel_rfl)) λxs Q=>by kernel_rfl λ⟨x0,_⟩hl hp=>CL.spec x0
noncomputable def Cz.con:AQ:=⟨[.d tI],none,λx=>AO [tS,tI] (Cz.fn x)⟩
theorem Cz.ok:AR prog 8 Cz.con:=AX (A:=.mk [] [] [] [] []) (Wp:=λxs Q=>Cz.wp xs.1 Q) AJ B8 (AN Tryd.func8 (by kernel_rfl) (by kernel_rfl)) λxs Q=>by kernel_rfl λ⟨x0,_⟩hl hp=>Cz.spec x0
noncomputable def CK.con:AQ:=⟨[.d tI],none,λx=>AO [tS,tI] (CK.fn x)⟩
theorem CK.ok:AR prog 9 CK.con:=AX (A:=.mk [] [] [] [] []) (Wp:=λxs Q=>CK.wp xs.1 Q) AJ B8 (AN Tryd.func9 (by kernel_rfl) (by kernel_rfl)) λxs Q=>by kernel_rfl λ⟨x0,_⟩hl hp=>CK.spec x0
noncomputable def Cy.con:AQ:=⟨[.d tI],none,λx=>AO [tS,tI] (Cy.fn x)⟩
theorem Cy.ok:AR prog 10 Cy.con:=AX (A:=.mk [] [] [] [] []) (Wp:=λxs Q=>Cy.wp xs.1 Q) AJ B8 (AN Tryd.func10 (by kernel_rfl) (by kernel_rfl)) λxs Q=>by kernel_rfl λ⟨x0,_⟩hl hp=>Cy.spec x0
noncomputable def DC.con:AQ:=⟨[.d tI],none,λx=>AO [.bool] (DC.fn x)⟩
theorem DC.ok:AR prog 46 DC.con:=AX (A:=.mk [] [] [] [] []) (Wp:=λxs Q=>DC.wp xs.1 Q) AJ B8 (AN Tryd.func46 (by kernel_rfl) (by kernel_rfl)) λxs Q=>by kernel_rfl λ⟨x0,_⟩hl hp=>DC.spec x0
noncomputable def C0.con:AQ:=⟨[.d (.sl (.sl tC)),.f [.sl tC] [.bool]],some λx=>C0.pre x,λx=>AO [tI] (C0.fn x)⟩
theorem C0.ok:AR prog 36 C0.con:=AX (A:=.mk [] [(0,⟨[.t 8 tI],[],[18,16,15,14,13,12,11,5,10,9],[]⟩)] [] [] []) (Wp:=λxs Q=>C0.wp xs.1 xs.2.1 Q) AJ B8 (AN Tryd.func36 (by kernel_rfl) (by kernel_rfl)) λxs Q=>by kernel_rfl λ⟨x0,x1,_⟩hl hp=>C0.spec x0 x1 hl.1.1 hp
noncomputable def Ce.con:AQ:=⟨[.d tL,.d (.sl tI)],some λx=>Ce.pre x,λx=>AO [tI] (Ce.fn x)⟩
theorem Ce.ok:AR prog 27 Ce.con:=AX (A:=.mk [] [(0,⟨[.t 12 tI,.t 5 tI],[],[27,26,25,24,23,22,21,20,19,18,17,16,15,6,14,13],[]⟩)] [] [] []) (Wp:=λxs Q=>Ce.wp xs.1 xs.2.1 Q) AJ B8 (AN Tryd.func27 (by kernel_rfl) (by kernel_rfl)) λxs Q=>by kernel_rfl λ⟨x0,x1,_⟩hl hp=>Ce.spec x0 x1 hp
noncomputable def QM:List (Nat×CX):=(5,.con BC.con)::(16,.con CZ.con)::(62,.con A5.con)::(37,.con C1.con)::(102,.con Cs.con)::(104,.con Cc.con)::(105,.con Ct.con)::(89,.con CE.con)::(90,.con B7.con)::(91,.con BY.con)::(92,.con Bp.con)::(64,.con BB.con)::(68,.con Dr.con)::(86,.con C4.con)::(32,.con Hs.con)::(41,.con CA.con)::(71,.con Ck.con)::(61,.con DS.con)::(7,.con CL.con)::(8,.con Cz.con)::(9,.con CK.con)::(10,.con Cy.con)::(46,.con DC.con)::(36,.con C0.con)::(27,.con Ce.con)::QL
theorem RI:Aj prog λn=>BP n QM:=AV BC.ok (AV CZ.ok (AV A5.ok (AV C1.ok (AV Cs.ok (AV Cc.ok (AV Ct.ok (AV CE.ok (AV B7.ok (AV BY.ok (AV Bp.ok (AV BB.ok (AV Dr.ok (AV C4.ok (AV Hs.ok (AV CA.ok (AV Ck.ok (AV DS.ok (AV CL.ok (AV Cz.ok (AV CK.ok (AV Cy.ok (AV DC.ok (AV C0.ok (AV Ce.ok RH))))))))))))))))))))))))
noncomputable def κ1:AZ:=λn=>BP n QM
theorem RD:Aj prog κ1:=RI
theorem E5:Bf prog (walk τ0 κ1 φA):=Cn AJ RD Dd mixed
theorem Zw:Bf prog (walk τ0 κ1 φC):=Cn AJ RD Vb mixed
noncomputable def CI.con:AQ:=⟨[.d tL],none,λx=>AO [.bool] (CI.fn x)⟩
theorem CI.ok:AR prog 45 CI.con:=AX (A:=.mk [] [(0,⟨[.t 8 tI],[],[15,14,13,12,4,11,10,9],[]⟩)] [] [] []) (Wp:=λxs Q=>CI.wp xs.1 Q) AJ E5 (AN Tryd.func45 (by kernel_rfl) (by kernel_rfl)) λxs Q=>by kernel_rfl λ⟨x0,_⟩hl hp=>CI.spec x0 hl.1.1.1
noncomputable def CN.con:AQ:=⟨[.d (.sl tC),.f [tC] [.bool]],some λx=>CN.pre x,λx=>AO [.bool] (CN.fn x)⟩
theorem CN.ok:AR prog 24 CN.con:=AX (A:=.mk [] [] [] [] []) (Wp:=λxs Q=>CN.wp xs.1 xs.2.1 Q) AJ E5 (AN Tryd.func24 (by kernel_rfl) (by kernel_rfl)) λxs Q=>by kernel_rfl λ⟨x0,x1,_⟩hl hp=>CN.spec x0 x1 hp
noncomputable def Cb.con:AQ:=⟨[.d (.int .u64),.d tI],none,λx=>AO [.int .u64] (Cb.fn x)⟩
theorem Cb.ok:AR prog 103 Cb.con:=AX (A:=.mk [] [] [] [] []) (Wp:=λxs Q=>Cb.wp xs.1 xs.2.1 Q) AJ E5 (AN Tryd.func103 (by kernel_rfl) (by kernel_rfl)) λxs Q=>by kernel_rfl λ⟨x0,x1,_⟩hl hp=>Cb.spec x0 x1
noncomputable def CM.con:AQ:=⟨[.d (.sl tC)],some λx=>CM.pre x,λx=>AO [.sl tC] (CM.fn x)⟩
theorem CM.ok:AR prog 52 CM.con:=AX (A:=.mk [(1000,[.own 3 tC])] [(0,⟨[.t 13 tI,.row 1 tC,.smap 0 tI],[3],[58,23,20,22,21,19,18,17,6,16,15,14,57,54,52,56,55,53,51,50,34,9,8,33,32,28,31,30,29,7,27,26,25,24,49,48,47,46,45,44,43,42,41,40,39,38,37,36,35],[]⟩)] [] [] []) (Wp:=λxs Q=>CM.wp xs.1 Q) AJ E5 (AN Tryd.func52 (by kernel_rfl) (by kernel_rfl)) λxs Q=>by kernel_rfl λ⟨x0,_⟩hl hp=>CM.spec x0 hp
noncomputable def CP.con:AQ:=⟨[.d tI,.d tI],none,λx=>AO [tI] (CP.fn x)⟩
theorem CP.ok:AR prog 69 CP.con:=AX (A:=.mk [] [] [] [] []) (Wp:=λxs Q=>CP.wp xs.1 xs.2.1 Q) AJ E5 (AN Tryd.func69 (by kernel_rfl) (by kernel_rfl)) λxs Q=>by kernel_rfl λ⟨x0,x1,_⟩hl hp=>CP.spec x0 x1
noncomputable def Bc.con:AQ:=⟨[.d (.sl tC)],some λx=>Bc.pre x,λx=>AO [.str] (Bc.fn x)⟩
theorem Bc.ok:AR prog 48 Bc.con:=AX (A:=.mk [(1000,[.own 3 (.int .u8)])] [(0,⟨[.t 8 tI,.row 0 (.int .u8)],[3],[40,39,37,36,38,32,31,35,34,33,26,25,30,29,28,27,23,22,24,19,18,21,20,16,15,17,12,14,13,5,11,10,9],[]⟩)] [] [] []) (Wp:=λxs Q=>Bc.wp xs.1 Q) AJ Zw (AN Tryd.func48 (by kernel_rfl) (by kernel_rfl)) λxs Q=>by kernel_rfl λ⟨x0,_⟩hl hp=>Bc.spec x0 hp
noncomputable def CD.con:AQ:=⟨[.d tC],some λx=>CD.pre x,λx=>AO [.sl tC] (CD.fn x)⟩
theorem CD.ok:AR prog 59 CD.con:=AX (A:=.mk [(1001,[.own 4 tC])] [(1,⟨[.t 5 tI,.row 2 tC],[4],[34,33,49,35,48,47,46,45,44,43,42,41,40,39,38,37,36,32,31,30,29],[]⟩)] [] [] []) (Wp:=λxs Q=>CD.wp xs.1 Q) AJ E5 (AN Tryd.func59 (by kernel_rfl) (by kernel_rfl)) λxs Q=>by kernel_rfl λ⟨x0,_⟩hl hp=>CD.spec x0 hp
noncomputable def DV.con:AQ:=⟨[.d tC,.d tC],none,λx=>AO [.bool] (DV.fn x)⟩
theorem DV.ok:AR prog 44 DV.con:=AX (A:=.mk [] [] [] [] []) (Wp:=λxs Q=>DV.wp xs.1 xs.2.1 Q) AJ E5 (AN Tryd.func44 (by kernel_rfl) (by kernel_rfl)) λxs Q=>by kernel_rfl λ⟨x0,x1,_⟩hl hp=>DV.spec x0 x1
noncomputable def DU.con:AQ:=⟨[.d tL],none,λx=>AO [.bool] (DU.fn x)⟩
theorem DU.ok:AR prog 35 DU.con:=AX (A:=.mk [] [(0,⟨[.t 8 tI],[],[15,14,13,12,4,11,10,9],[]⟩)] [] [] []) (Wp:=λxs Q=>DU.wp xs.1 Q) AJ E5 (AN Tryd.func35 (by kernel_rfl) (by kernel_rfl)) λxs Q=>by kernel_rfl λ⟨x0,_⟩hl hp=>DU.spec x0 hl.1.1.1
noncomputable def DD.con:AQ:=⟨[.d (.sl (.sl tC)),.f [.sl tC] [.bool]],some λx=>DD.pre x,λx=>AO [.bool] (DD.fn x)⟩
theorem DD.ok:AR prog 22 DD.con:=AX (A:=.mk [] [] [] [] []) (Wp:=λxs Q=>DD.wp xs.1 xs.2.1 Q) AJ E5 (AN Tryd.func22 (by kernel_rfl) (by kernel_rfl)) λxs Q=>by kernel_rfl λ⟨x0,x1,_⟩hl hp=>DD.spec x0 x1 hp
noncomputable def DR.con:AQ:=⟨[.d (.sl tI),.d (.sl tI)],none,λx=>AO [tI,tI] (DR.fn x)⟩
theorem DR.ok:AR prog 47 DR.con:=AX (A:=.mk [] [(0,⟨[.t 18 tI,.t 6 tI],[],[52,51,50,49,48,47,46,45,44,43,42,41,40,39,38,37,36,35,34,33,32,31,30,29,28,27,26,25,24,23,22,21,7,20,19],[]⟩)] [] [] []) (Wp:=λxs Q=>DR.wp xs.1 xs.2.1 Q) AJ E5 (AN Tryd.func47 (by kernel_rfl) (by kernel_rfl)) λxs Q=>by kernel_rfl λ⟨x0,x1,_⟩hl hp=>DR.spec x0 x1
noncomputable def CJ.con:AQ:=⟨[.d tC,.d (.sl tI)],some λx=>CJ.pre x,λx=>AO [.bool] (CJ.fn x)⟩
theorem CJ.ok:AR prog 15 CJ.con:=AX (A:=.mk [] [] [] [] []) (Wp:=λxs Q=>CJ.wp xs.1 xs.2.1 Q) AJ E5 (AN Tryd.func15 (by kernel_rfl) (by kernel_rfl)) λxs Q=>by kernel_rfl λ⟨x0,x1,_⟩hl hp=>CJ.spec x0 x1 hp
noncomputable def QO:List (Nat×CX):=(45,.con CI.con)::(24,.con CN.con)::(103,.con Cb.con)::(52,.con CM.con)::(69,.con CP.con)::(48,.con Bc.con)::(59,.con CD.con)::(44,.con DV.con)::(35,.con DU.con)::(22,.con DD.con)::(47,.con DR.con)::(15,.con CJ.con)::QM
theorem RL:Aj prog λn=>BP n QO:=AV CI.ok (AV CN.ok (AV Cb.ok (AV CM.ok (AV CP.ok (AV Bc.ok (AV CD.ok (AV DV.ok (AV DU.ok (AV DD.ok (AV DR.ok (AV CJ.ok RI)))))))))))
noncomputable def κ2:AZ:=λn=>BP n QO
theorem WM:Aj prog κ2:=RL
theorem Im:Bf prog (walk τ0 κ2 φA):=Cn AJ WM Dd mixed
noncomputable def Ay.con:AQ:=⟨[.d tC],none,λx=>AO [.bool] (Ay.fn x)⟩
theorem Ay.ok:AR prog 34 Ay.con:=AX (A:=.mk [] [] [] [] []) (Wp:=λxs Q=>Ay.wp xs.1 Q) AJ Im (AN Tryd.func34 (by kernel_rfl) (by kernel_rfl)) λxs Q=>by kernel_rfl λ⟨x0,_⟩hl hp=>Ay.spec x0
noncomputable def Bo.con:AQ:=⟨[.d (.sl tI)],some λx=>Bo.pre x,λx=>AO [tI,tI] (Bo.fn x)⟩
theorem Bo.ok:AR prog 88 Bo.con:=AX (A:=.mk [] [] [] [] []) (Wp:=λxs Q=>Bo.wp xs.1 Q) AJ Im (AN Tryd.func88 (by kernel_rfl) (by kernel_rfl)) λxs Q=>by kernel_rfl λ⟨x0,_⟩hl hp=>Bo.spec x0 hp
noncomputable def Do.con:AQ:=⟨[.d (.sl tI),.d (.sl tI)],none,λx=>AO [tI] (Do.fn x)⟩
theorem Do.ok:AR prog 70 Do.con:=AX (A:=.mk [] [(0,⟨[.t 11 tI],[],[30,28,27,8,26,25,24,7,23,22,21,20,19,18,17,16,6,5,15,14,13,12],[]⟩)] [] [] []) (Wp:=λxs Q=>Do.wp xs.1 xs.2.1 Q) AJ Im (AN Tryd.func70 (by kernel_rfl) (by kernel_rfl)) λxs Q=>by kernel_rfl λ⟨x0,x1,_⟩hl hp=>Do.spec x0 x1 hl.1.1
noncomputable def DX.con:AQ:=⟨[.d (.sl tC),.d (.sl tC)],none,λx=>AO [.bool] (DX.fn x)⟩
theorem DX.ok:AR prog 33 DX.con:=AX (A:=.mk [] [(0,⟨[.t 13 tI],[],[26,25,24,23,22,21,20,19,18,17,16,5,15,14],[]⟩)] [] [] []) (Wp:=λxs Q=>DX.wp xs.1 xs.2.1 Q) AJ Im (AN Tryd.func33 (by kernel_rfl) (by kernel_rfl)) λxs Q=>by kernel_rfl λ⟨x0,x1,_⟩hl hp=>DX.spec x0 x1 hl.1.1
noncomputable def DW.con:AQ:=⟨[.d tC],none,λx=>AO [.bool] (DW.fn x)⟩
theorem DW.ok:AR prog 21 DW.con:=AX (A:=.mk [] [] [] [] []) (Wp:=λxs Q=>DW.wp xs.1 Q) AJ Im (AN Tryd.func21 (by kernel_rfl) (by kernel_rfl)) λxs Q=>by kernel_rfl λ⟨x0,_⟩hl hp=>DW.spec x0
noncomputable def DQ.con:AQ:=⟨[.d tL,.d (.sl tI)],none,λx=>AO [tI,tI] (DQ.fn x)⟩
theorem DQ.ok:AR prog 38 DQ.con:=AX (A:=.mk [] [] [] [] []) (Wp:=λxs Q=>DQ.wp xs.1 xs.2.1 Q) AJ Im (AN Tryd.func38 (by kernel_rfl) (by kernel_rfl)) λxs Q=>by kernel_rfl λ⟨x0,x1,_⟩hl hp=>DQ.spec x0 x1
noncomputable def QP:List (Nat×CX):=(34,.con Ay.con)::(88,.con Bo.con)::(70,.con Do.con)::(33,.con DX.con)::(21,.con DW.con)::(38,.con DQ.con)::QO
theorem RM:Aj prog λn=>BP n QP:=AV Ay.ok (AV Bo.ok (AV Do.ok (AV DX.ok (AV DW.ok (AV DQ.ok RL)))))
noncomputable def κ3:AZ:=λn=>BP n QP
theorem WN:Aj prog κ3:=RM
theorem F5:Bf prog (walk τ0 κ3 φA):=Cn AJ WN Dd mixed
noncomputable def Db.con:AQ:=⟨[.d (.sl tC),.d tI],none,λx=>AO [.bool] (Db.fn x)⟩
theorem Db.ok:AR prog 20 Db.con:=AX (A:=.mk [] [(0,⟨[.t 9 tI],[],[24,23,22,21,20,19,18,17,16,15,14,13,6,12,11,10],[]⟩)] [] [] []) (Wp:=λxs Q=>Db.wp xs.1 xs.2.1 Q) AJ F5 (AN Tryd.func20 (by kernel_rfl) (by kernel_rfl)) λxs Q=>by kernel_rfl λ⟨x0,x1,_⟩hl hp=>Db.spec x0 x1 hl.1.1
noncomputable def CT.con:AQ:=⟨[.d tC],some λx=>CT.pre x,λx=>AO [tC,tI] (CT.fn x)⟩
theorem CT.ok:AR prog 73 CT.con:=AX (A:=.mk [] [] [] [] []) (Wp:=λxs Q=>CT.wp xs.1 Q) AJ F5 (AN Tryd.func73 (by kernel_rfl) (by kernel_rfl)) λxs Q=>by kernel_rfl λ⟨x0,_⟩hl hp=>CT.spec x0 hp
noncomputable def CS.con:AQ:=⟨[.d tC],some λx=>CS.pre x,λx=>AO [tC,tI] (CS.fn x)⟩
theorem CS.ok:AR prog 74 CS.con:=AX (A:=.mk [] [(0,⟨[.t 44 tI],[],[54,49,48,7,47,46,45],[]⟩)] [] [] []) (Wp:=λxs Q=>CS.wp xs.1 Q) AJ F5 (AN Tryd.func74 (by kernel_rfl) (by kernel_rfl)) λxs Q=>by kernel_rfl λ⟨x0,_⟩hl hp=>CS.spec x0 hp
noncomputable def CQ.con:AQ:=⟨[.d tC],some λx=>CQ.pre x,λx=>AO [tC,tI] (CQ.fn x)⟩
theorem CQ.ok:AR prog 75 CQ.con:=AX (A:=.mk [] [(0,⟨[.t 25 tI,.t 6 tI,.row 2 tI],[],[51,50,49,40,48,47,46,45,44,43,42,41,39,38,37,30,36,35,34,33,32,31,8,7,29,28,27,26],[]⟩)] [] [] []) (Wp:=λxs Q=>CQ.wp xs.1 Q) AJ F5 (AN Tryd.func75 (by kernel_rfl) (by kernel_rfl)) λxs Q=>by kernel_rfl λ⟨x0,_⟩hl hp=>CQ.spec x0 hp
noncomputable def Da.con:AQ:=⟨[.d tC],none,λx=>AO [.bool] (Da.fn x)⟩
theorem Da.ok:AR prog 50 Da.con:=AX (A:=.mk [] [] [] [] []) (Wp:=λxs Q=>Da.wp xs.1 Q) AJ F5 (AN Tryd.func50 (by kernel_rfl) (by kernel_rfl)) λxs Q=>by kernel_rfl λ⟨x0,_⟩hl hp=>Da.spec x0
noncomputable def Bl.con:AQ:=⟨[.d tC,.d tC],some λx=>Bl.pre x,λx=>AO [tI] (Bl.fn x)⟩
theorem Bl.ok:AR prog 55 Bl.con:=AX (A:=.mk [] [] [] [] []) (Wp:=λxs Q=>Bl.wp xs.1 xs.2.1 Q) AJ F5 (AN Tryd.func55 (by kernel_rfl) (by kernel_rfl)) λxs Q=>by kernel_rfl λ⟨x0,x1,_⟩hl hp=>Bl.spec x0 x1 hp
noncomputable def Cf.con:AQ:=⟨[.d tS,.d tS],none,λx=>AO [.bool] (Cf.fn x)⟩
theorem Cf.ok:AR prog 19 Cf.con:=AX (A:=.mk [] [(0,⟨[.t 23 tI],[],[38,37,36,35,34,33,32,31,30,29,28,27,26,5,25,24],[]⟩)] [] [] []) (Wp:=λxs Q=>Cf.wp xs.1 xs.2.1 Q) AJ F5 (AN Tryd.func19 (by kernel_rfl) (by kernel_rfl)) λxs Q=>by kernel_rfl λ⟨x0,x1,_⟩hl hp=>Cf.spec x0 x1 hl.1.2.1
noncomputable def BL.con:AQ:=⟨[.d tS],none,λx=>AO [.bool] (BL.fn x)⟩
theorem BL.ok:AR prog 12 BL.con:=AX (A:=.mk [] [(2,⟨[.t 33 tI],[],[49,48,47,46,45,44,43,42,41,40,39,38,37,6,36,35,34],[]⟩),(0,⟨[.t 24 tI],[],[50,34,49,48,47,46,45,44,43,42,41,40,39,38,37,6,36,35,33,32,31,30,29,28,4,27,26,25],[]⟩)] [] [] []) (Wp:=λxs Q=>BL.wp xs.1 Q) AJ F5 (AN Tryd.func12 (by kernel_rfl) (by kernel_rfl)) λxs Q=>by kernel_rfl λ⟨x0,_⟩hl hp=>BL.spec x0 hl.1.2.1
noncomputable def Dg.con:AQ:=⟨[.d tC,.d (.sl tI)],none,λx=>AO [.bool,tI] (Dg.fn x)⟩
theorem Dg.ok:AR prog 26 Dg.con:=AX (A:=.mk [] [] [] [] []) (Wp:=λxs Q=>Dg.wp xs.1 xs.2.1 Q) AJ F5 (AN Tryd.func26 (by kernel_rfl) (by kernel_rfl)) λxs Q=>by kernel_rfl λ⟨x0,x1,_⟩hl hp=>Dg.spec x0 x1
noncomputable def QQ:List (Nat×CX):=(20,.con Db.con)::(73,.con CT.con)::(74,.con CS.con)::(75,.con CQ.con)::(50,.con Da.con)::(55,.con Bl.con)::(19,.con Cf.con)::(12,.con BL.con)::(26,.con Dg.con)::QP
theorem RN:Aj prog λn=>BP n QQ:=AV Db.ok (AV CT.ok (AV CS.ok (AV CQ.ok (AV Da.ok (AV Bl.ok (AV Cf.ok (AV BL.ok (AV Dg.ok RM))))))))
noncomputable def κ4:AZ:=λn=>BP n QQ
theorem RF:Aj prog κ4:=RN
theorem ML:Bf prog (walk τ0 κ4 φA):=Cn AJ RF Dd mixed
noncomputable def Ap.con:AQ:=⟨[.d tS],none,λx=>AO [.bool] (Ap.fn x)⟩
theorem Ap.ok:AR prog 11 Ap.con:=AX (A:=.mk [] [(0,⟨[.t 22 tI],[],[36,35,34,33,32,31,30,29,28,27,26,4,25,24,23],[]⟩)] [] [] []) (Wp:=λxs Q=>Ap.wp xs.1 Q) AJ ML (AN Tryd.func11 (by kernel_rfl) (by kernel_rfl)) λxs Q=>by kernel_rfl λ⟨x0,_⟩hl hp=>Ap.spec x0 hl.1.2.1
noncomputable def G6.con:AQ:=⟨[],none,λ_=>.agg [.fn (.func 73) [] [],.fn (.func 74) [] [],.fn (.func 75) [] []]⟩
theorem G6.val(xs:BO [])(Q:V→Prop):Q (G6.con.res xs)=JT τ0 (walk τ0 κ4 φA) An.none (D9 Tryd.f65) [] xs Q:=by kernel_rfl
theorem G6.ok:AR prog 65 G6.con:=RC AJ (Cn AJ RF Dd mixed) (AN Tryd.func65 (by kernel_rfl) (by kernel_rfl)) λxs _ _=>Eq.mp (G6.val xs _) rfl
noncomputable def By.con:AQ:=⟨[.d tC,.d tC],some λx=>By.pre x,λx=>AO [.bool] (By.fn x)⟩
theorem By.ok:AR prog 57 By.con:=AX (A:=.mk [] [] [] [] []) (Wp:=λxs Q=>By.wp xs.1 xs.2.1 Q) AJ ML (AN Tryd.func57 (by kernel_rfl) (by kernel_rfl)) λxs Q=>by kernel_rfl λ⟨x0,x1,_⟩hl hp=>By.spec x0 x1 hp
noncomputable def Ca.con:AQ:=⟨[.d tS,.d tI,.d tS,.d tI],none,λx=>AO [.bool] (Ca.fn x)⟩
theorem Ca.ok:AR prog 13 Ca.con:=AX (A:=.mk [] [] [] [] []) (Wp:=λxs Q=>Ca.wp xs.1 xs.2.1 xs.2.2.1 xs.2.2.2.1 Q) AJ ML (AN Tryd.func13 (by kernel_rfl) (by kernel_rfl)) λxs Q=>by kernel_rfl λ⟨x0,x1,x2,x3,_⟩hl hp=>Ca.spec x0 x1 x2 x3
noncomputable def D4.con:AQ:=⟨[.d tC,.e (.sl tI)],none,λx=>AO [.bool] (D4.fn x)⟩
theorem D4.ok:AR prog 25 D4.con:=AX (A:=.mk [] [] [] [] []) (Wp:=λxs Q=>D4.wp xs.1 xs.2.1 Q) AJ ML (AN Tryd.func25 (by kernel_rfl) (by kernel_rfl)) λxs Q=>by kernel_rfl λ⟨x0,x1,_⟩hl hp=>D4.spec x0 x1
noncomputable def QR:List (Nat×CX):=(11,.con Ap.con)::(65,.con G6.con)::(57,.con By.con)::(13,.con Ca.con)::(25,.con D4.con)::QQ
theorem RO:Aj prog λn=>BP n QR:=AV Ap.ok (AV G6.ok (AV By.ok (AV Ca.ok (AV D4.ok RN))))
noncomputable def κ5:AZ:=λn=>BP n QR
theorem WO:Aj prog κ5:=RO
theorem Ph:Bf prog (walk τ0 κ5 φA):=Cn AJ WO Dd mixed
noncomputable def As.con:AQ:=⟨[.d tC],some λx=>As.pre x,λx=>AO [tC,tI] (As.fn x)⟩
theorem As.ok:AR prog 49 As.con:=AX (A:=.mk [(1,[.cases 1 0 3])] [] [] [] []) (Wp:=λxs Q=>As.wp xs.1 Q) AJ Ph (AN Tryd.func49 (by kernel_rfl) (by kernel_rfl)) λxs Q=>by kernel_rfl λ⟨x0,_⟩hl hp=>As.spec x0 hp
noncomputable def Dc.con:AQ:=⟨[.d tS,.d tS],none,λx=>AO [tI] (Dc.fn x)⟩
theorem Dc.ok:AR prog 28 Dc.con:=AX (A:=.mk [] [] [] [] []) (Wp:=λxs Q=>Dc.wp xs.1 xs.2.1 Q) AJ Ph (AN Tryd.func28 (by kernel_rfl) (by kernel_rfl)) λxs Q=>by kernel_rfl λ⟨x0,x1,_⟩hl hp=>Dc.spec x0 x1
noncomputable def D3.con:AQ:=⟨[.d (.sl tC),.e (.sl tI)],none,λx=>AO [.bool] (D3.fn x)⟩
theorem D3.ok:AR prog 23 D3.con:=AX (A:=.mk [] [] [] [] []) (Wp:=λxs Q=>D3.wp xs.1 xs.2.1 Q) AJ Ph (AN Tryd.func23 (by kernel_rfl) (by kernel_rfl)) λxs Q=>by kernel_rfl λ⟨x0,x1,_⟩hl hp=>D3.spec x0 x1
noncomputable def QS:List (Nat×CX):=(49,.con As.con)::(28,.con Dc.con)::(23,.con D3.con)::QR
theorem RP:Aj prog λn=>BP n QS:=AV As.ok (AV Dc.ok (AV D3.ok RO))
noncomputable def κ6:AZ:=λn=>BP n QS
theorem WP:Aj prog κ6:=RP
theorem Pj:Bf prog (walk τ0 κ6 φA):=Cn AJ WP Dd mixed
noncomputable def B9.con:AQ:=⟨[.d (.sl tC)],some λx=>B9.pre x,λx=>AO [.sl tC,.bool] (B9.fn x)⟩
theorem B9.ok:AR prog 51 B9.con:=AX (A:=.mk [(1002,[.own 7 tC])] [(0,⟨[.t 19 tI,.smap 0 tI],[],[33,32,31,30,29,28,27,26,25,24,5,6,23,22,21,20],[]⟩),(2,⟨[.t 37 tI,.row 2 tC,.imap 1 .bool],[7],[98,64,61,63,62,60,59,58,57,56,55,54,12,11,53,52,45,51,50,49,48,47,46,44,43,42,9,10,41,40,39,38,97,94,96,95,93,92,15,14,91,90,85,89,88,87,86,82,84,83,79,81,80,13,74,73,72,71,70,69,68,67,66,65,78,75,77,76],[]⟩)] [] [] []) (Wp:=λxs Q=>B9.wp xs.1 Q) AJ Pj (AN Tryd.func51 (by kernel_rfl) (by kernel_rfl)) λxs Q=>by kernel_rfl λ⟨x0,_⟩hl hp=>B9.spec x0 hp
noncomputable def Bj.con:AQ:=⟨[.d tC],some λx=>Bj.pre x,λx=>AO [tC,tI,tI] (Bj.fn x)⟩
theorem Bj.ok:AR prog 60 Bj.con:=AX (A:=.mk [] [] [] [] []) (Wp:=λxs Q=>Bj.wp xs.1 Q) AJ Pj (AN Tryd.func60 (by kernel_rfl) (by kernel_rfl)) λxs Q=>by kernel_rfl λ⟨x0,_⟩hl hp=>Bj.spec x0 hp
noncomputable def DY.con:AQ:=⟨[.d tS,.d (.sl tI)],none,λx=>AO [.bool,tI] (DY.fn x)⟩
theorem DY.ok:AR prog 14 DY.con:=AX (A:=.mk [] [(0,⟨[.t 18 tI],[],[28,27,26,25,24,23,22,7,21,20,19],[]⟩)] [] [] []) (Wp:=λxs Q=>DY.wp xs.1 xs.2.1 Q) AJ Pj (AN Tryd.func14 (by kernel_rfl) (by kernel_rfl)) λxs Q=>by kernel_rfl λ⟨x0,x1,_⟩hl hp=>DY.spec x0 x1 hl.2.1.1
noncomputable def QT:List (Nat×CX):=(51,.con B9.con)::(60,.con Bj.con)::(14,.con DY.con)::QS
theorem RQ:Aj prog λn=>BP n QT:=AV B9.ok (AV Bj.ok (AV DY.ok RP))
noncomputable def κ7:AZ:=λn=>BP n QT
theorem RG:Aj prog κ7:=RQ
theorem aP:Sp.Ok prog 54 (.sort tC 55 (λa b=>Bl.pre (a,b,())) λa b=>Bl.fn (a,b,())):=Qk aX aW λh=>aS (T:=tC) ZJ rfl aV aY h Bl.ok Gq.1 Gq.2
noncomputable def φB:Nat→Option FX:=λn=>B1 n ((54,.sp (.sort tC 55 (λa b=>Bl.pre (a,b,())) λa b=>Bl.fn (a,b,())))::Mg)
theorem cE:∀g fx,φB g=some fx→fx.Ok prog g:=Fp aP QW
theorem Zy:Bf prog (walk τ0 κ7 φB):=Cn AJ RG cE mixed
theorem Zx:Bf prog (walk τ0 κ7 φA):=Cn AJ RG Dd mixed
noncomputable def AP.con:AQ:=⟨[.d (.sl tC)],some λx=>AP.pre x,λx=>AO [.sl tC,.bool,tI] (AP.fn x)⟩
theorem AP.ok:AR prog 40 AP.con:=AX (A:=.mk [(20,[.part 5]),(1000,[.own 5 tC])] [(0,⟨[.t 14 tI,.row 0 tC],[5],[31,30,27,29,28,26,25,24,23,9,8,22,21,18,20,19,7,17,16,15],[]⟩)] [] [] [(50,.mk [] [(2,⟨[.t 7 tI,.t 5 tI,.row 2 tC],[],[37,36,58,57,56,55,54,53,52,51,50,49,48,47,46,45,44,43,42,41,40,39,38,35,34,33,32],[]⟩),(0,⟨[.t 5 tI],[],[17,16,28,27,26,25,24,23,22,21,20,19,18,15,14,13,12],[]⟩)] [] [] []),(43,.mk [(1002,[.own 10 tC])] [(0,⟨[.t 20 tI,.smap 1 tI],[],[50,26,25,24,6,23,22,21,49,48,47,46,45,44,43,42,41,40,39,38,37,9,8,36,35,31,34,33,32,7,30,29,28,27],[]⟩),(2,⟨[.t 53 tI,.row 2 tC],[10],[95,74,73,72,71,70,69,14,13,68,67,60,66,65,64,63,62,61,59,58,57,12,56,55,54,90,89,88,87,86,85,84,16,15,83,82,75,81,80,79,78,77,76,94,91,93,92],[]⟩)] [] [] [])]) (Wp:=λxs Q=>AP.wp xs.1 Q) AJ Zy (AN Tryd.func40 (by kernel_rfl) (by kernel_rfl)) λxs Q=>by kernel_rfl λ⟨x0,_⟩hl hp=>AP.spec x0 hp
noncomputable def DF.con:AQ:=⟨[.d tC],none,λx=>AO [.sl tC,tI] (DF.fn x)⟩
theorem DF.ok:AR prog 42 DF.con:=AX (A:=.mk [(1000,[.own 4 tC])] [(0,⟨[.t 16 tI,.row 1 tC],[4],[47,46,43,45,44,39,38,37,36,35,34,33,30,32,31,26,28,27,9,8,7,25,24,23,20,22,21,6,19,18,17,40,42,41],[]⟩)] [] [] []) (Wp:=λxs Q=>DF.wp xs.1 Q) AJ Zx (AN Tryd.func42 (by kernel_rfl) (by kernel_rfl)) λxs Q=>by kernel_rfl λ⟨x0,_⟩hl hp=>DF.spec x0
noncomputable def QU:List (Nat×CX):=(40,.con AP.con)::(42,.con DF.con)::QT
theorem RR:Aj prog λn=>BP n QU:=AV AP.ok (AV DF.ok RQ)
noncomputable def κ8:AZ:=λn=>BP n QU
theorem WQ:Aj prog κ8:=RR
theorem Uf:Bf prog (walk τ0 κ8 φA):=Cn AJ WQ Dd mixed
noncomputable def Be.con:AQ:=⟨[.d tS],none,λx=>AO [tS,tI] (Be.fn x)⟩
theorem Be.ok:AR prog 18 Be.con:=AX (A:=.mk [] [] [] [] [(13,.mk [] [] [] [] [(10,.mk [] [] [] [] [(5000,.mk [(1000,[.ownc 15 0 (.sl tC)])] [(0,⟨[.t 7 tI,.row 20 (.sl tC),.smap 16 .bool],[],[15,14,13,12,11,4,10,9,8],[]⟩)] [] [] [])])])]) (Wp:=λxs Q=>Be.wp xs.1 Q) AJ Uf (AN Tryd.func18 (by kernel_rfl) (by kernel_rfl)) λxs Q=>by kernel_rfl λ⟨x0,_⟩hl hp=>Be.spec x0
noncomputable def Cg.con:AQ:=⟨[.d (.sl tC),.d (.sl tC)],some λx=>Cg.pre x,λx=>AO [.sl (.sl tC),tI] (Cg.fn x)⟩
theorem Cg.ok:AR prog 31 Cg.con:=AX (A:=.mk [(1000,[.own 9 (.sl tC)])] [(2,⟨[.t 48 tI,.row 1 (.sl tC)],[9],[63,62,52,61,60,59,58,57,56,55,54,53,15,51,50,49],[]⟩),(0,⟨[.t 33 tI,.row 1 (.sl tC)],[],[64,49,63,62,52,61,60,59,58,57,56,55,54,53,15,51,50,48,47,46,44,43,13,12,42,41,38,40,39,10,11,37,36,35,34],[]⟩)] [] [] []) (Wp:=λxs Q=>Cg.wp xs.1 xs.2.1 Q) AJ Uf (AN Tryd.func31 (by kernel_rfl) (by kernel_rfl)) λxs Q=>by kernel_rfl λ⟨x0,x1,_⟩hl hp=>Cg.spec x0 x1 hp
noncomputable def QV:List (Nat×CX):=(18,.con Be.con)::(31,.con Cg.con)::QU
theorem RS:Aj prog λn=>BP n QV:=AV Be.ok (AV Cg.ok RR)
noncomputable def κ9:AZ:=λn=>BP n QV
theorem WR:Aj prog κ9:=RS
theorem Zz:Bf prog (walk τ0 κ9 φA):=Cn AJ WR Dd mixed
noncomputable def DZ.con:AQ:=⟨[.d tS,.d tS],none,λx=>AO [tS,tI] (DZ.fn x)⟩
theorem DZ.ok:AR prog 17 DZ.con:=AX (A:=.mk [] [(0,⟨[.t 42 tI,.t 8 tI,.cell 3 0 tI,.cell 3 1 (.sl (.sl tC)),.cell 5 0 tI],[],[62,60,59,58,57,56,55,54,53,48,52,51,50,49,14,47,46,13,45,44,43],[]⟩)] [] [] [(52,.mk [] [] [] [] [(10,.mk [] [] [] [] [(5000,.mk [(1000,[.ownc 11 0 (.sl tC)])] [(2,⟨[.t 28 tI,.row 16 (.sl tC),.smap 12 .bool],[],[36,35,34,33,32,10,31,30,29],[]⟩),(0,⟨[.t 13 tI,.row 16 (.sl tC),.smap 12 .bool],[],[37,29,36,35,34,33,32,10,31,30,28,27,26,24,23,8,7,22,21,17,20,19,18,6,16,15,14],[]⟩)] [] [] [])])])]) (Wp:=λxs Q=>DZ.wp xs.1 xs.2.1 Q) AJ Zz (AN Tryd.func17 (by kernel_rfl) (by kernel_rfl)) λxs Q=>by kernel_rfl λ⟨x0,x1,_⟩hl hp=>DZ.spec x0 x1
noncomputable def QN:List (Nat×CX):=(17,.con DZ.con)::QV
theorem RK:Aj prog λn=>BP n QN:=AV DZ.ok RS
noncomputable def VZ:AZ:=λn=>BP n QN
theorem WL:Aj prog VZ:=RK
theorem Zv:Bf prog (walk τ0 VZ φA):=Cn AJ WL Dd mixed
noncomputable def A4.con:AQ:=⟨[],none,λx=>AO [.bool] (A4.fn x)⟩
theorem A4.ok:AR prog 6 A4.con:=AX (A:=.mk [(6,[.frz 33])] [] [] [] []) (Wp:=λxs Q=>A4.wp Q) AJ Zv (AN Tryd.func6 (by kernel_rfl) (by kernel_rfl)) λxs Q=>by kernel_rfl λ()hl hp=>by first|exact A4.spec|exact A4.spec hp|exact A4.spec hl.1|exact A4.spec hl.1 hp|exact A4.spec hl.1.1|exact A4.spec hl.1.1 hp|exact A4.spec hl.1.1.1|exact A4.spec hl.1.1.1 hp|exact A4.spec hl.1.2.1|exact A4.spec hl.1.2.1 hp|exact A4.spec hl.2.1|exact A4.spec hl.2.1 hp|exact A4.spec hl.2.1.1|exact A4.spec hl.2.1.1 hp|exact A4.spec hl.2.1.1.1|exact A4.spec hl.2.1.1.1 hp|exact A4.spec hl.2.2.1.1 λs hs=>(hl.2.2.1.2 s hs).2.1|exact A4.spec hl.2.2.2.1.1 λs hs=>⟨(hl.2.2.2.1.2 s hs).2.1,λp hp=>⟨((hl.2.2.2.1.2 s hs).2.2 p hp).1,λc hc=>(((hl.2.2.2.1.2 s hs).2.2 p hp).2 c hc).2.2.1.1⟩⟩
noncomputable def Va:List (Nat×CX):=(6,.con A4.con)::QN
theorem WS:Aj prog λn=>BP n Va:=AV A4.ok RK
noncomputable def QK:AZ:=λn=>BP n Va
theorem RE:Aj prog QK:=WS
def law04_SetMakes.A:An:=.mk [] [] [] [] []
theorem law04_SetMakes.walk(x0:PS.den (.d tS))(x1:PS.den (.d tI))(Q:A8 [.bool]→Prop):law04_SetMakes.wp x0 x1 Q=HJ τ0 (walk τ0 QK φA) law04_SetMakes.A (D9 Tryd.f3) [.d tS,.d tI] [.bool] (x0,x1,()) Q:=by kernel_rfl
theorem law04_SetMakes.calls(x0:PS.den (.d tS))(x1:PS.den (.d tI)){W:World}(hS:EO prog W (F8 W)){args:Array Value}(hr:AE prog (IB W) (C2 [.d tS,.d tI] (x0,x1,())) args.toList):Calls prog 3 args W λe w'=>e=.returned (.bool true)∧RowKit.Below W.heap.size W w':=Tv AJ (Cn AJ RE Dd mixed) (AN Tryd.func3 (by kernel_rfl) (by kernel_rfl)) (law04_SetMakes.walk x0 x1 _) (law04_SetMakes.spec x0 x1) hS hr
def law04_SetHolds.A:An:=.mk [] [(2,⟨[.t 40 tI,.t 10 .bool],[],[50,49,48,47,46,45,44,12,43,42,41],[]⟩),(0,⟨[.t 34 tI,.t 7 .bool],[],[55,54,53,52,51,41,50,49,48,47,46,45,44,12,43,42,40,10,39,38,9,37,36,35],[]⟩)] [] [] []
theorem law04_SetHolds.walk(x0:PS.den (.d tS))(x1:PS.den (.d (.sl tI)))(Q:A8 [.bool]→Prop):law04_SetHolds.wp x0 x1 Q=HJ τ0 (walk τ0 QK φA) law04_SetHolds.A (D9 Tryd.f4) [.d tS,.d (.sl tI)] [.bool] (x0,x1,()) Q:=by kernel_rfl
theorem law04_SetHolds.calls(x0:PS.den (.d tS))(x1:PS.den (.d (.sl tI))){W:World}(hS:EO prog W (F8 W)){args:Array Value}(hr:AE prog (IB W) (C2 [.d tS,.d (.sl tI)] (x0,x1,())) args.toList):Calls prog 4 args W λe w'=>e=.returned (.bool true)∧RowKit.Below W.heap.size W w':=Tv AJ (Cn AJ RE Dd mixed) (AN Tryd.func4 (by kernel_rfl) (by kernel_rfl)) (law04_SetHolds.walk x0 x1 _) (law04_SetHolds.spec x0 x1) hS hr
end Go.Proofs.YtldikbpclaeajaaDoor
