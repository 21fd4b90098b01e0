/- Part of a proof that a law of the program holds for every input: printed by a program of this work: how the functions are walked. No conditions. -/
import Derived.Test.YtldikbpclaeajaaGreatDoorP14
namespace Go.Proofs.YtldikbpclaeajaaGreatDoor
open Go
set_option linter.unusedVariables false
set_option maxRecDepth 8000
set_option maxHeartbeats 4000000
abbrev tI : Ty := .int .i64
abbrev tC : Ty := (.pair (.int .i64) (.pair (.int .i64) (.pair (.sl (.int .i64)) (.int .i64))))
abbrev tS : Ty := .pair (.int .i64) (.sl (.sl tC))
abbrev tL : Ty := .pair (.sl (.int .i64)) (.int .i64)
noncomputable def φL0 : List (Nat × FX) := []
theorem φok0 : ∀ g fx,(fun n => findL n φL0) g = some fx → fx.Ok prog g := fxOk_nil
noncomputable def φL1 : List (Nat × FX) := (97,.fi (fiOf Tryz.f97)) :: φL0
theorem φok1 : ∀ g fx,(fun n => findL n φL1) g = some fx → fx.Ok prog g := fxOk_cons (fiOk Tryz.func97 (by kernel_rfl) (by kernel_rfl)) φok0
noncomputable def φL2 : List (Nat × FX) := (100,.fi (fiOf Tryz.f100)) :: φL1
theorem φok2 : ∀ g fx,(fun n => findL n φL2) g = some fx → fx.Ok prog g := fxOk_cons (fiOk Tryz.func100 (by kernel_rfl) (by kernel_rfl)) φok1
noncomputable def φL3 : List (Nat × FX) := (83,.fi (fiOf Tryz.f83)) :: φL2
theorem φok3 : ∀ g fx,(fun n => findL n φL3) g = some fx → fx.Ok prog g := fxOk_cons (fiOk Tryz.func83 (by kernel_rfl) (by kernel_rfl)) φok2
noncomputable def φL4 : List (Nat × FX) := (45,.fi (fiOf Tryz.f45)) :: φL3
theorem φok4 : ∀ g fx,(fun n => findL n φL4) g = some fx → fx.Ok prog g := fxOk_cons (fiOk Tryz.func45 (by kernel_rfl) (by kernel_rfl)) φok3
noncomputable def φL5 : List (Nat × FX) := (84,.fi (fiOf Tryz.f84)) :: φL4
theorem φok5 : ∀ g fx,(fun n => findL n φL5) g = some fx → fx.Ok prog g := fxOk_cons (fiOk Tryz.func84 (by kernel_rfl) (by kernel_rfl)) φok4
noncomputable def φL6 : List (Nat × FX) := (105,.fi (fiOf Tryz.f105)) :: φL5
theorem φok6 : ∀ g fx,(fun n => findL n φL6) g = some fx → fx.Ok prog g := fxOk_cons (fiOk Tryz.func105 (by kernel_rfl) (by kernel_rfl)) φok5
noncomputable def φL7 : List (Nat × FX) := (49,.fi (fiOf Tryz.f49)) :: φL6
theorem φok7 : ∀ g fx,(fun n => findL n φL7) g = some fx → fx.Ok prog g := fxOk_cons (fiOk Tryz.func49 (by kernel_rfl) (by kernel_rfl)) φok6
noncomputable def φA : Nat → Option FX := fun n => findL n φL7
theorem φAok : ∀ g fx,φA g = some fx → fx.Ok prog g := φok7
noncomputable def φC : Nat → Option FX := fun n => findL n ((133,.sp .appInt) :: φL7)
theorem φCok : ∀ g fx,φC g = some fx → fx.Ok prog g := fxOk_cons appOk φok7
noncomputable def κL0 : List (Nat × CX) := κR
theorem consL0 : ConsOk prog (fun n => findC n κL0) := consR
noncomputable def κ0 : ConTab := fun n => findC n κL0
theorem cons0 : ConsOk prog κ0 := consL0
def law04_Few.A : An := .mk [] [(2,⟨[.t 26 tI],[],[34,33,32,31,30,11,29,28,27],[]⟩),(0,⟨[.t 14 tI,.t 7 tI],[],[35,27,34,33,32,31,30,11,29,28,26,25,24,23,22,21,20,19,18,9,17,16,15],[]⟩)] [] [] []
theorem law04_Few.walk (x0 : PS.den (.d tI)) (x1 : PS.den (.d tI)) (x2 : PS.den (.d (.sl tS))) (Q : denL [.bool] → Prop) : law04_Few.wp x0 x1 x2 Q = fnW τw (walk τw κ0 φA) law04_Few.A (fiOf Tryz.f13) [.d tI,.d tI,.d (.sl tS)] [.bool] (x0,x1,x2,()) Q := by kernel_rfl
noncomputable def law04_Few.con : Con := ⟨[.d tI,.d tI,.d (.sl tS)],none,fun x => resV [.bool] (law04_Few.fn x)⟩
theorem law04_Few.ok : ConOk prog 13 law04_Few.con := conOk_walk (Wp := fun xs Q => law04_Few.wp xs.1 xs.2.1 xs.2.2.1 Q) tabw (walk_ok tabw cons0 φAok mixed) (fiOk Tryz.func13 (by kernel_rfl) (by kernel_rfl)) (fun xs Q => law04_Few.walk xs.1 xs.2.1 xs.2.2.1 Q) fun ⟨x0,x1,x2,_⟩ hl hp => by first | exact law04_Few.spec x0 x1 x2  | exact law04_Few.spec x0 x1 x2 hp | exact law04_Few.spec x0 x1 x2 hl.1 | exact law04_Few.spec x0 x1 x2 hl.1 hp | exact law04_Few.spec x0 x1 x2 hl.1.1 | exact law04_Few.spec x0 x1 x2 hl.1.1 hp | exact law04_Few.spec x0 x1 x2 hl.1.1.1 | exact law04_Few.spec x0 x1 x2 hl.1.1.1 hp | exact law04_Few.spec x0 x1 x2 hl.1.2.1 | exact law04_Few.spec x0 x1 x2 hl.1.2.1 hp | exact law04_Few.spec x0 x1 x2 hl.2.1 | exact law04_Few.spec x0 x1 x2 hl.2.1 hp | exact law04_Few.spec x0 x1 x2 hl.2.1.1 | exact law04_Few.spec x0 x1 x2 hl.2.1.1 hp | exact law04_Few.spec x0 x1 x2 hl.2.1.1.1 | exact law04_Few.spec x0 x1 x2 hl.2.1.1.1 hp | exact law04_Few.spec x0 x1 x2 hl.2.2.1.1 (fun s hs => (hl.2.2.1.2 s hs).2.1)
def num_Fits.A : An := .mk [] [] [] [] []
theorem num_Fits.walk (x0 : PS.den (.d tI)) (Q : denL [.bool] → Prop) : num_Fits.wp x0 Q = fnW τ0 (walk τ0 κ0 φA) num_Fits.A (fiOf Tryz.f121) [.d tI] [.bool] (x0,()) Q := by kernel_rfl
noncomputable def num_Fits.con : Con := ⟨[.d tI],none,fun x => resV [.bool] (num_Fits.fn x)⟩
theorem num_Fits.ok : ConOk prog 121 num_Fits.con := conOk_walk (Wp := fun xs Q => num_Fits.wp xs.1 Q) tab0 (walk_ok tab0 cons0 φAok mixed) (fiOk Tryz.func121 (by kernel_rfl) (by kernel_rfl)) (fun xs Q => num_Fits.walk xs.1 Q) fun ⟨x0,_⟩ hl hp => num_Fits.spec x0
def slices_IndexFunc_Sapi_Cond_api_Cond.A : An := .mk [] [(0,⟨[.t 8 tI],[],[18,16,15,14,13,12,11,5,10,9],[]⟩)] [] [] []
theorem slices_IndexFunc_Sapi_Cond_api_Cond.walk (x0 : PS.den (.d (.sl tC))) (x1 : PS.den (.f [tC] [.bool])) (Q : denL [tI] → Prop) : slices_IndexFunc_Sapi_Cond_api_Cond.wp x0 x1 Q = fnW τ0 (walk τ0 κ0 φA) slices_IndexFunc_Sapi_Cond_api_Cond.A (fiOf Tryz.f91) [.d (.sl tC),.f [tC] [.bool]] [tI] (x0,x1,()) Q := by kernel_rfl
noncomputable def slices_IndexFunc_Sapi_Cond_api_Cond.con : Con := ⟨[.d (.sl tC),.f [tC] [.bool]],some fun x => slices_IndexFunc_Sapi_Cond_api_Cond.pre x,fun x => resV [tI] (slices_IndexFunc_Sapi_Cond_api_Cond.fn x)⟩
theorem slices_IndexFunc_Sapi_Cond_api_Cond.ok : ConOk prog 91 slices_IndexFunc_Sapi_Cond_api_Cond.con := conOk_walk (Wp := fun xs Q => slices_IndexFunc_Sapi_Cond_api_Cond.wp xs.1 xs.2.1 Q) tab0 (walk_ok tab0 cons0 φAok mixed) (fiOk Tryz.func91 (by kernel_rfl) (by kernel_rfl)) (fun xs Q => slices_IndexFunc_Sapi_Cond_api_Cond.walk xs.1 xs.2.1 Q) fun ⟨x0,x1,_⟩ hl hp => slices_IndexFunc_Sapi_Cond_api_Cond.spec x0 x1 hl.1.1 hp
def num_fold_uint64.A : An := .mk [] [(0,⟨[.t 11 tI,.t 1 (.int .u64)],[],[19,18,17,16,15,8,14,13,12],[]⟩)] [] [] []
theorem num_fold_uint64.walk (x0 : PS.den (.d (.sl tI))) (x1 : PS.den (.d (.int .u64))) (x2 : PS.den (.f [(.int .u64),tI] [(.int .u64)])) (Q : denL [(.int .u64)] → Prop) : num_fold_uint64.wp x0 x1 x2 Q = fnW τ0 (walk τ0 κ0 φA) num_fold_uint64.A (fiOf Tryz.f167) [.d (.sl tI),.d (.int .u64),.f [(.int .u64),tI] [(.int .u64)]] [(.int .u64)] (x0,x1,x2,()) Q := by kernel_rfl
noncomputable def num_fold_uint64.con : Con := ⟨[.d (.sl tI),.d (.int .u64),.f [(.int .u64),tI] [(.int .u64)]],some fun x => num_fold_uint64.pre x,fun x => resV [(.int .u64)] (num_fold_uint64.fn x)⟩
theorem num_fold_uint64.ok : ConOk prog 167 num_fold_uint64.con := conOk_walk (Wp := fun xs Q => num_fold_uint64.wp xs.1 xs.2.1 xs.2.2.1 Q) tab0 (walk_ok tab0 cons0 φAok mixed) (fiOk Tryz.func167 (by kernel_rfl) (by kernel_rfl)) (fun xs Q => num_fold_uint64.walk xs.1 xs.2.1 xs.2.2.1 Q) fun ⟨x0,x1,x2,_⟩ hl hp => num_fold_uint64.spec x0 x1 x2 hl.1.1 hp
def num_common.A : An := .mk [] [(0,⟨[.t 1 (.int .u64),.t 0 (.int .u64)],[],[10,9,8,7,6,5],[]⟩)] [] [] []
theorem num_common.walk (x0 : PS.den (.d (.int .u64))) (x1 : PS.den (.d (.int .u64))) (Q : denL [(.int .u64)] → Prop) : num_common.wp x0 x1 Q = fnW τ0 (walk τ0 κ0 φA) num_common.A (fiOf Tryz.f169) [.d (.int .u64),.d (.int .u64)] [(.int .u64)] (x0,x1,()) Q := by kernel_rfl
noncomputable def num_common.con : Con := ⟨[.d (.int .u64),.d (.int .u64)],none,fun x => resV [(.int .u64)] (num_common.fn x)⟩
theorem num_common.ok : ConOk prog 169 num_common.con := conOk_walk (Wp := fun xs Q => num_common.wp xs.1 xs.2.1 Q) tab0 (walk_ok tab0 cons0 φAok mixed) (fiOk Tryz.func169 (by kernel_rfl) (by kernel_rfl)) (fun xs Q => num_common.walk xs.1 xs.2.1 Q) fun ⟨x0,x1,_⟩ hl hp => num_common.spec x0 x1
def num_size.A : An := .mk [] [] [] [] []
theorem num_size.walk (x0 : PS.den (.d tI)) (Q : denL [(.int .u64)] → Prop) : num_size.wp x0 Q = fnW τ0 (walk τ0 κ0 φA) num_size.A (fiOf Tryz.f170) [.d tI] [(.int .u64)] (x0,()) Q := by kernel_rfl
noncomputable def num_size.con : Con := ⟨[.d tI],none,fun x => resV [(.int .u64)] (num_size.fn x)⟩
theorem num_size.ok : ConOk prog 170 num_size.con := conOk_walk (Wp := fun xs Q => num_size.wp xs.1 Q) tab0 (walk_ok tab0 cons0 φAok mixed) (fiOk Tryz.func170 (by kernel_rfl) (by kernel_rfl)) (fun xs Q => num_size.walk xs.1 Q) fun ⟨x0,_⟩ hl hp => num_size.spec x0
def cond_sure.A : An := .mk [] [] [] [] []
theorem cond_sure.walk (x0 : PS.den (.d .bool)) (Q : denL [tC,tI] → Prop) : cond_sure.wp x0 Q = fnW τ0 (walk τ0 κ0 φA) cond_sure.A (fiOf Tryz.f156) [.d .bool] [tC,tI] (x0,()) Q := by kernel_rfl
noncomputable def cond_sure.con : Con := ⟨[.d .bool],none,fun x => resV [tC,tI] (cond_sure.fn x)⟩
theorem cond_sure.ok : ConOk prog 156 cond_sure.con := conOk_walk (Wp := fun xs Q => cond_sure.wp xs.1 Q) tab0 (walk_ok tab0 cons0 φAok mixed) (fiOk Tryz.func156 (by kernel_rfl) (by kernel_rfl)) (fun xs Q => cond_sure.walk xs.1 Q) fun ⟨x0,_⟩ hl hp => cond_sure.spec x0
def num_Floor.A : An := .mk [] [] [] [] []
theorem num_Floor.walk (x0 : PS.den (.d tI)) (x1 : PS.den (.d tI)) (Q : denL [tI,tI] → Prop) : num_Floor.wp x0 x1 Q = fnW τ0 (walk τ0 κ0 φA) num_Floor.A (fiOf Tryz.f157) [.d tI,.d tI] [tI,tI] (x0,x1,()) Q := by kernel_rfl
noncomputable def num_Floor.con : Con := ⟨[.d tI,.d tI],some fun x => num_Floor.pre x,fun x => resV [tI,tI] (num_Floor.fn x)⟩
theorem num_Floor.ok : ConOk prog 157 num_Floor.con := conOk_walk (Wp := fun xs Q => num_Floor.wp xs.1 xs.2.1 Q) tab0 (walk_ok tab0 cons0 φAok mixed) (fiOk Tryz.func157 (by kernel_rfl) (by kernel_rfl)) (fun xs Q => num_Floor.walk xs.1 xs.2.1 Q) fun ⟨x0,x1,_⟩ hl hp => num_Floor.spec x0 x1 hp
def cond_maker_by.A : An := .mk [] [(0,⟨[.t 19 tI,.row 1 tI],[],[30,29,28,27,26,25,24,7,6,23,22,21,20],[]⟩)] [] [] []
theorem cond_maker_by.walk (x0 : PS.den (.d tC)) (x1 : PS.den (.d tI)) (Q : denL [(.sl tI)] → Prop) : cond_maker_by.wp x0 x1 Q = fnW τ0 (walk τ0 κ0 φA) cond_maker_by.A (fiOf Tryz.f158) [.d tC,.d tI] [(.sl tI)] (x0,x1,()) Q := by kernel_rfl
noncomputable def cond_maker_by.con : Con := ⟨[.d tC,.d tI],some fun x => cond_maker_by.pre x,fun x => resV [(.sl tI)] (cond_maker_by.fn x)⟩
theorem cond_maker_by.ok : ConOk prog 158 cond_maker_by.con := conOk_walk (Wp := fun xs Q => cond_maker_by.wp xs.1 xs.2.1 Q) tab0 (walk_ok tab0 cons0 φAok mixed) (fiOk Tryz.func158 (by kernel_rfl) (by kernel_rfl)) (fun xs Q => cond_maker_by.walk xs.1 xs.2.1 Q) fun ⟨x0,x1,_⟩ hl hp => cond_maker_by.spec x0 x1 hp
def num_Mod.A : An := .mk [] [] [] [] []
theorem num_Mod.walk (x0 : PS.den (.d tI)) (x1 : PS.den (.d tI)) (Q : denL [tI,tI] → Prop) : num_Mod.wp x0 x1 Q = fnW τ0 (walk τ0 κ0 φA) num_Mod.A (fiOf Tryz.f159) [.d tI,.d tI] [tI,tI] (x0,x1,()) Q := by kernel_rfl
noncomputable def num_Mod.con : Con := ⟨[.d tI,.d tI],some fun x => num_Mod.pre x,fun x => resV [tI,tI] (num_Mod.fn x)⟩
theorem num_Mod.ok : ConOk prog 159 num_Mod.con := conOk_walk (Wp := fun xs Q => num_Mod.wp xs.1 xs.2.1 Q) tab0 (walk_ok tab0 cons0 φAok mixed) (fiOk Tryz.func159 (by kernel_rfl) (by kernel_rfl)) (fun xs Q => num_Mod.walk xs.1 xs.2.1 Q) fun ⟨x0,x1,_⟩ hl hp => num_Mod.spec x0 x1 hp
def set_key.A : An := .mk [(1000,[.own 5 (.int .u8)])] [(0,⟨[.t 10 tI,.row 0 (.int .u8)],[5],[22,21,19,18,20,14,17,16,15,7,13,12,11],[]⟩)] [] [] []
theorem set_key.walk (x0 : PS.den (.d (.sl tI))) (x1 : PS.den (.d tI)) (Q : denL [.str] → Prop) : set_key.wp x0 x1 Q = fnW τ0 (walk τ0 κ0 φC) set_key.A (fiOf Tryz.f123) [.d (.sl tI),.d tI] [.str] (x0,x1,()) Q := by kernel_rfl
noncomputable def set_key.con : Con := ⟨[.d (.sl tI),.d tI],some fun x => set_key.pre x,fun x => resV [.str] (set_key.fn x)⟩
theorem set_key.ok : ConOk prog 123 set_key.con := conOk_walk (Wp := fun xs Q => set_key.wp xs.1 xs.2.1 Q) tab0 (walk_ok tab0 cons0 φCok mixed) (fiOk Tryz.func123 (by kernel_rfl) (by kernel_rfl)) (fun xs Q => set_key.walk xs.1 xs.2.1 Q) fun ⟨x0,x1,_⟩ hl hp => set_key.spec x0 x1 hp
def cmp_Or_int.A : An := .mk [] [(0,⟨[.t 8 tI],[],[16,14,13,12,5,11,10,9],[]⟩)] [] [] []
theorem cmp_Or_int.walk (x0 : PS.den (.d (.sl tI))) (Q : denL [tI] → Prop) : cmp_Or_int.wp x0 Q = fnW τ0 (walk τ0 κ0 φA) cmp_Or_int.A (fiOf Tryz.f126) [.d (.sl tI)] [tI] (x0,()) Q := by kernel_rfl
noncomputable def cmp_Or_int.con : Con := ⟨[.d (.sl tI)],none,fun x => resV [tI] (cmp_Or_int.fn x)⟩
theorem cmp_Or_int.ok : ConOk prog 126 cmp_Or_int.con := conOk_walk (Wp := fun xs Q => cmp_Or_int.wp xs.1 Q) tab0 (walk_ok tab0 cons0 φAok mixed) (fiOk Tryz.func126 (by kernel_rfl) (by kernel_rfl)) (fun xs Q => cmp_Or_int.walk xs.1 Q) fun ⟨x0,_⟩ hl hp => cmp_Or_int.spec x0 hl.1.1
def cmp_isNaN_int.A : An := .mk [] [] [] [] []
theorem cmp_isNaN_int.walk (x0 : PS.den (.d tI)) (Q : denL [.bool] → Prop) : cmp_isNaN_int.wp x0 Q = fnW τ0 (walk τ0 κ0 φA) cmp_isNaN_int.A (fiOf Tryz.f152) [.d tI] [.bool] (x0,()) Q := by kernel_rfl
noncomputable def cmp_isNaN_int.con : Con := ⟨[.d tI],none,fun x => resV [.bool] (cmp_isNaN_int.fn x)⟩
theorem cmp_isNaN_int.ok : ConOk prog 152 cmp_isNaN_int.con := conOk_walk (Wp := fun xs Q => cmp_isNaN_int.wp xs.1 Q) tab0 (walk_ok tab0 cons0 φAok mixed) (fiOk Tryz.func152 (by kernel_rfl) (by kernel_rfl)) (fun xs Q => cmp_isNaN_int.walk xs.1 Q) fun ⟨x0,_⟩ hl hp => cmp_isNaN_int.spec x0
noncomputable def slices_Values_SSapi_Cond_Sapi_Cond.con : Con := ⟨[.d (.sl (.sl tC))],none,fun x => .fn (.func 84) [] [.er [.d (.sl (.sl tC)) x.1]]⟩
theorem slices_Values_SSapi_Cond_Sapi_Cond.val (xs : denPS [.d (.sl (.sl tC))]) (Q : V → Prop) : Q (slices_Values_SSapi_Cond_Sapi_Cond.con.res xs) = fnV τ0 (walk τ0 κ0 φA) An.none (fiOf Tryz.f46) [.d (.sl (.sl tC))] xs Q := by kernel_rfl
theorem slices_Values_SSapi_Cond_Sapi_Cond.ok : ConOk prog 46 slices_Values_SSapi_Cond_Sapi_Cond.con := conOk_val tab0 (walk_ok tab0 cons0 φAok mixed) (fiOk Tryz.func46 (by kernel_rfl) (by kernel_rfl)) fun xs _ _ => Eq.mp (slices_Values_SSapi_Cond_Sapi_Cond.val xs _) rfl
def slices_Concat_Sapi_Cond_api_Cond.A : An := .mk [(1002,[.own 6 tC,.zero 6])] [(0,⟨[.t 11 tI,.t 3 tI],[],[22,20,19,18,17,16,15,5,14,13,12],[]⟩),(2,⟨[.t 27 tI,.row 0 tC],[6],[34,33,31,32,8,30,29,28],[]⟩)] [] [] []
theorem slices_Concat_Sapi_Cond_api_Cond.walk (x0 : PS.den (.d (.sl (.sl tC)))) (Q : denL [(.sl tC)] → Prop) : slices_Concat_Sapi_Cond_api_Cond.wp x0 Q = fnW τ0 (walk τ0 κ0 φA) slices_Concat_Sapi_Cond_api_Cond.A (fiOf Tryz.f64) [.d (.sl (.sl tC))] [(.sl tC)] (x0,()) Q := by kernel_rfl
noncomputable def slices_Concat_Sapi_Cond_api_Cond.con : Con := ⟨[.d (.sl (.sl tC))],some fun x => slices_Concat_Sapi_Cond_api_Cond.pre x,fun x => resV [(.sl tC)] (slices_Concat_Sapi_Cond_api_Cond.fn x)⟩
theorem slices_Concat_Sapi_Cond_api_Cond.ok : ConOk prog 64 slices_Concat_Sapi_Cond_api_Cond.con := conOk_walk (Wp := fun xs Q => slices_Concat_Sapi_Cond_api_Cond.wp xs.1 Q) tab0 (walk_ok tab0 cons0 φAok mixed) (fiOk Tryz.func64 (by kernel_rfl) (by kernel_rfl)) (fun xs Q => slices_Concat_Sapi_Cond_api_Cond.walk xs.1 Q) fun ⟨x0,_⟩ hl hp => slices_Concat_Sapi_Cond_api_Cond.spec x0 hp
def cond_opposite.A : An := .mk [] [(0,⟨[.t 20 tI,.row 5 tI],[],[31,30,29,28,27,26,25,7,6,24,23,22,21],[]⟩)] [] [] []
theorem cond_opposite.walk (x0 : PS.den (.d tL)) (x1 : PS.den (.d tI)) (Q : denL [tL] → Prop) : cond_opposite.wp x0 x1 Q = fnW τ0 (walk τ0 κ0 φA) cond_opposite.A (fiOf Tryz.f134) [.d tL,.d tI] [tL] (x0,x1,()) Q := by kernel_rfl
noncomputable def cond_opposite.con : Con := ⟨[.d tL,.d tI],some fun x => cond_opposite.pre x,fun x => resV [tL] (cond_opposite.fn x)⟩
theorem cond_opposite.ok : ConOk prog 134 cond_opposite.con := conOk_walk (Wp := fun xs Q => cond_opposite.wp xs.1 xs.2.1 Q) tab0 (walk_ok tab0 cons0 φAok mixed) (fiOk Tryz.func134 (by kernel_rfl) (by kernel_rfl)) (fun xs Q => cond_opposite.walk xs.1 xs.2.1 Q) fun ⟨x0,x1,_⟩ hl hp => cond_opposite.spec x0 x1 hp
def ref02_Same.A : An := .mk [] [(0,⟨[.t 23 tI],[],[37,36,35,34,33,32,31,30,29,28,27,26,5,25,24],[]⟩)] [] [] []
theorem ref02_Same.walk (x0 : PS.den (.d tL)) (x1 : PS.den (.d tL)) (Q : denL [.bool] → Prop) : ref02_Same.wp x0 x1 Q = fnW τ0 (walk τ0 κ0 φA) ref02_Same.A (fiOf Tryz.f103) [.d tL,.d tL] [.bool] (x0,x1,()) Q := by kernel_rfl
noncomputable def ref02_Same.con : Con := ⟨[.d tL,.d tL],none,fun x => resV [.bool] (ref02_Same.fn x)⟩
theorem ref02_Same.ok : ConOk prog 103 ref02_Same.con := conOk_walk (Wp := fun xs Q => ref02_Same.wp xs.1 xs.2.1 Q) tab0 (walk_ok tab0 cons0 φAok mixed) (fiOk Tryz.func103 (by kernel_rfl) (by kernel_rfl)) (fun xs Q => ref02_Same.walk xs.1 xs.2.1 Q) fun ⟨x0,x1,_⟩ hl hp => ref02_Same.spec x0 x1 hl.1.1.1
def law04_at.A : An := .mk [] [] [] [] []
theorem law04_at.walk (x0 : PS.den (.d tI)) (x1 : PS.den (.d tI)) (Q : denL [tC] → Prop) : law04_at.wp x0 x1 Q = fnW τ0 (walk τ0 κ0 φA) law04_at.A (fiOf Tryz.f43) [.d tI,.d tI] [tC] (x0,x1,()) Q := by kernel_rfl
noncomputable def law04_at.con : Con := ⟨[.d tI,.d tI],none,fun x => resV [tC] (law04_at.fn x)⟩
theorem law04_at.ok : ConOk prog 43 law04_at.con := conOk_walk (Wp := fun xs Q => law04_at.wp xs.1 xs.2.1 Q) tab0 (walk_ok tab0 cons0 φAok mixed) (fiOk Tryz.func43 (by kernel_rfl) (by kernel_rfl)) (fun xs Q => law04_at.walk xs.1 xs.2.1 Q) fun ⟨x0,x1,_⟩ hl hp => law04_at.spec x0 x1
def set_each.A : An := .mk [(5,[.opn 2]),(9,[.ren 24 4]),(10,[.frzl 4,.cls 2]),(11,[.dne 2])] [(2,⟨[.t 28 tI,.vrow 2 tC (some 4),.row 4 tC],[],[52,50,39,51,49,48,47,46,45,44,43,42,41,40,38,37,36,35,34,33,32,11,31,30,29],[]⟩),(0,⟨[.t 21 tI,.vrow 2 tC none],[],[53,29,52,50,39,51,49,48,47,46,45,44,43,42,41,40,38,37,36,35,34,33,32,11,31,30,28,27,26,9,8,25,24,23,22],[]⟩)] [] [] []
theorem set_each.walk (x0 : PS.den (.d tS)) (x1 : PS.den (.d tI)) (x2 : PS.den (.f [tL] [tL])) (Q : denL [tS] → Prop) : set_each.wp x0 x1 x2 Q = fnW τz (walk τz κ0 φA) set_each.A (fiOf Tryz.f78) [.d tS,.d tI,.f [tL] [tL]] [tS] (x0,x1,x2,()) Q := by kernel_rfl
noncomputable def set_each.con : Con := ⟨[.d tS,.d tI,.f [tL] [tL]],some fun x => set_each.pre x,fun x => resV [tS] (set_each.fn x)⟩
theorem set_each.ok : ConOk prog 78 set_each.con := conOk_walk (Wp := fun xs Q => set_each.wp xs.1 xs.2.1 xs.2.2.1 Q) tabz (walk_ok tabz cons0 φAok mixed) (fiOk Tryz.func78 (by kernel_rfl) (by kernel_rfl)) (fun xs Q => set_each.walk xs.1 xs.2.1 xs.2.2.1 Q) fun ⟨x0,x1,x2,_⟩ hl hp => set_each.spec x0 x1 x2 hp
def ref01_Fits.A : An := .mk [] [] [] [] []
theorem ref01_Fits.walk (x0 : PS.den (.d tI)) (Q : denL [.bool] → Prop) : ref01_Fits.wp x0 Q = fnW τ0 (walk τ0 κ0 φA) ref01_Fits.A (fiOf Tryz.f129) [.d tI] [.bool] (x0,()) Q := by kernel_rfl
noncomputable def ref01_Fits.con : Con := ⟨[.d tI],none,fun x => resV [.bool] (ref01_Fits.fn x)⟩
theorem ref01_Fits.ok : ConOk prog 129 ref01_Fits.con := conOk_walk (Wp := fun xs Q => ref01_Fits.wp xs.1 Q) tab0 (walk_ok tab0 cons0 φAok mixed) (fiOk Tryz.func129 (by kernel_rfl) (by kernel_rfl)) (fun xs Q => ref01_Fits.walk xs.1 Q) fun ⟨x0,_⟩ hl hp => ref01_Fits.spec x0
def set_Turn_1.A : An := .mk [] [(0,⟨[.t 16 tI,.row 5 tI],[],[30,29,28,27,26,25,24,23,22,21,6,5,20,19,18,17],[]⟩)] [] [] []
theorem set_Turn_1.walk (x0 : PS.den (.d tL)) (x1 : PS.den (.e (.sl tI))) (Q : denL [tL] → Prop) : set_Turn_1.wp x0 x1 Q = fnW τ0 (walk τ0 κ0 φA) set_Turn_1.A (fiOf Tryz.f82) [.d tL,.e (.sl tI)] [tL] (x0,x1,()) Q := by kernel_rfl
noncomputable def set_Turn_1.con : Con := ⟨[.d tL,.e (.sl tI)],some fun x => set_Turn_1.pre x,fun x => resV [tL] (set_Turn_1.fn x)⟩
theorem set_Turn_1.ok : ConOk prog 82 set_Turn_1.con := conOk_walk (Wp := fun xs Q => set_Turn_1.wp xs.1 xs.2.1 Q) tab0 (walk_ok tab0 cons0 φAok mixed) (fiOk Tryz.func82 (by kernel_rfl) (by kernel_rfl)) (fun xs Q => set_Turn_1.walk xs.1 xs.2.1 Q) fun ⟨x0,x1,_⟩ hl hp => set_Turn_1.spec x0 x1 hp
noncomputable def κL1 : List (Nat × CX) := (13,.con law04_Few.con) :: (121,.con num_Fits.con) :: (91,.con slices_IndexFunc_Sapi_Cond_api_Cond.con) :: (167,.con num_fold_uint64.con) :: (169,.con num_common.con) :: (170,.con num_size.con) :: (156,.con cond_sure.con) :: (157,.con num_Floor.con) :: (158,.con cond_maker_by.con) :: (159,.con num_Mod.con) :: (123,.con set_key.con) :: (126,.con cmp_Or_int.con) :: (152,.con cmp_isNaN_int.con) :: (46,.con slices_Values_SSapi_Cond_Sapi_Cond.con) :: (64,.con slices_Concat_Sapi_Cond_api_Cond.con) :: (134,.con cond_opposite.con) :: (103,.con ref02_Same.con) :: (43,.con law04_at.con) :: (78,.con set_each.con) :: (129,.con ref01_Fits.con) :: (82,.con set_Turn_1.con) :: κL0
theorem consL1 : ConsOk prog (fun n => findC n κL1) := cons_cons law04_Few.ok (cons_cons num_Fits.ok (cons_cons slices_IndexFunc_Sapi_Cond_api_Cond.ok (cons_cons num_fold_uint64.ok (cons_cons num_common.ok (cons_cons num_size.ok (cons_cons cond_sure.ok (cons_cons num_Floor.ok (cons_cons cond_maker_by.ok (cons_cons num_Mod.ok (cons_cons set_key.ok (cons_cons cmp_Or_int.ok (cons_cons cmp_isNaN_int.ok (cons_cons slices_Values_SSapi_Cond_Sapi_Cond.ok (cons_cons slices_Concat_Sapi_Cond_api_Cond.ok (cons_cons cond_opposite.ok (cons_cons ref02_Same.ok (cons_cons law04_at.ok (cons_cons set_each.ok (cons_cons ref01_Fits.ok (cons_cons set_Turn_1.ok consL0))))))))))))))))))))
noncomputable def κ1 : ConTab := fun n => findC n κL1
theorem cons1 : ConsOk prog κ1 := consL1
def lin_Valid.A : An := .mk [] [(0,⟨[.t 8 tI],[],[15,14,13,12,4,11,10,9],[]⟩)] [] [] []
theorem lin_Valid.walk (x0 : PS.den (.d tL)) (Q : denL [.bool] → Prop) : lin_Valid.wp x0 Q = fnW τ0 (walk τ0 κ1 φA) lin_Valid.A (fiOf Tryz.f92) [.d tL] [.bool] (x0,()) Q := by kernel_rfl
noncomputable def lin_Valid.con : Con := ⟨[.d tL],none,fun x => resV [.bool] (lin_Valid.fn x)⟩
theorem lin_Valid.ok : ConOk prog 92 lin_Valid.con := conOk_walk (Wp := fun xs Q => lin_Valid.wp xs.1 Q) tab0 (walk_ok tab0 cons1 φAok mixed) (fiOk Tryz.func92 (by kernel_rfl) (by kernel_rfl)) (fun xs Q => lin_Valid.walk xs.1 Q) fun ⟨x0,_⟩ hl hp => lin_Valid.spec x0 hl.1.1.1
def slices_ContainsFunc_Sapi_Cond_api_Cond.A : An := .mk [] [] [] [] []
theorem slices_ContainsFunc_Sapi_Cond_api_Cond.walk (x0 : PS.den (.d (.sl tC))) (x1 : PS.den (.f [tC] [.bool])) (Q : denL [.bool] → Prop) : slices_ContainsFunc_Sapi_Cond_api_Cond.wp x0 x1 Q = fnW τ0 (walk τ0 κ1 φA) slices_ContainsFunc_Sapi_Cond_api_Cond.A (fiOf Tryz.f55) [.d (.sl tC),.f [tC] [.bool]] [.bool] (x0,x1,()) Q := by kernel_rfl
noncomputable def slices_ContainsFunc_Sapi_Cond_api_Cond.con : Con := ⟨[.d (.sl tC),.f [tC] [.bool]],some fun x => slices_ContainsFunc_Sapi_Cond_api_Cond.pre x,fun x => resV [.bool] (slices_ContainsFunc_Sapi_Cond_api_Cond.fn x)⟩
theorem slices_ContainsFunc_Sapi_Cond_api_Cond.ok : ConOk prog 55 slices_ContainsFunc_Sapi_Cond_api_Cond.con := conOk_walk (Wp := fun xs Q => slices_ContainsFunc_Sapi_Cond_api_Cond.wp xs.1 xs.2.1 Q) tab0 (walk_ok tab0 cons1 φAok mixed) (fiOk Tryz.func55 (by kernel_rfl) (by kernel_rfl)) (fun xs Q => slices_ContainsFunc_Sapi_Cond_api_Cond.walk xs.1 xs.2.1 Q) fun ⟨x0,x1,_⟩ hl hp => slices_ContainsFunc_Sapi_Cond_api_Cond.spec x0 x1 hp
def num_Gcd_1.A : An := .mk [] [] [] [] []
theorem num_Gcd_1.walk (x0 : PS.den (.d (.int .u64))) (x1 : PS.den (.d tI)) (Q : denL [(.int .u64)] → Prop) : num_Gcd_1.wp x0 x1 Q = fnW τ0 (walk τ0 κ1 φA) num_Gcd_1.A (fiOf Tryz.f168) [.d (.int .u64),.d tI] [(.int .u64)] (x0,x1,()) Q := by kernel_rfl
noncomputable def num_Gcd_1.con : Con := ⟨[.d (.int .u64),.d tI],none,fun x => resV [(.int .u64)] (num_Gcd_1.fn x)⟩
theorem num_Gcd_1.ok : ConOk prog 168 num_Gcd_1.con := conOk_walk (Wp := fun xs Q => num_Gcd_1.wp xs.1 xs.2.1 Q) tab0 (walk_ok tab0 cons1 φAok mixed) (fiOk Tryz.func168 (by kernel_rfl) (by kernel_rfl)) (fun xs Q => num_Gcd_1.walk xs.1 xs.2.1 Q) fun ⟨x0,x1,_⟩ hl hp => num_Gcd_1.spec x0 x1
def set_least.A : An := .mk [(1000,[.own 3 tC])] [(0,⟨[.t 13 tI,.row 1 tC,.smap 0 tI],[3],[58,23,20,22,21,19,18,17,6,16,15,14,57,54,52,56,55,53,51,50,34,9,8,33,32,28,31,30,29,7,27,26,25,24,49,48,47,46,45,44,43,42,41,40,39,38,37,36,35],[]⟩)] [] [] []
theorem set_least.walk (x0 : PS.den (.d (.sl tC))) (Q : denL [(.sl tC)] → Prop) : set_least.wp x0 Q = fnW τ0 (walk τ0 κ1 φA) set_least.A (fiOf Tryz.f96) [.d (.sl tC)] [(.sl tC)] (x0,()) Q := by kernel_rfl
noncomputable def set_least.con : Con := ⟨[.d (.sl tC)],some fun x => set_least.pre x,fun x => resV [(.sl tC)] (set_least.fn x)⟩
theorem set_least.ok : ConOk prog 96 set_least.con := conOk_walk (Wp := fun xs Q => set_least.wp xs.1 Q) tab0 (walk_ok tab0 cons1 φAok mixed) (fiOk Tryz.func96 (by kernel_rfl) (by kernel_rfl)) (fun xs Q => set_least.walk xs.1 Q) fun ⟨x0,_⟩ hl hp => set_least.spec x0 hp
def cmp_Compare_int.A : An := .mk [] [] [] [] []
theorem cmp_Compare_int.walk (x0 : PS.den (.d tI)) (x1 : PS.den (.d tI)) (Q : denL [tI] → Prop) : cmp_Compare_int.wp x0 x1 Q = fnW τ0 (walk τ0 κ1 φA) cmp_Compare_int.A (fiOf Tryz.f127) [.d tI,.d tI] [tI] (x0,x1,()) Q := by kernel_rfl
noncomputable def cmp_Compare_int.con : Con := ⟨[.d tI,.d tI],none,fun x => resV [tI] (cmp_Compare_int.fn x)⟩
theorem cmp_Compare_int.ok : ConOk prog 127 cmp_Compare_int.con := conOk_walk (Wp := fun xs Q => cmp_Compare_int.wp xs.1 xs.2.1 Q) tab0 (walk_ok tab0 cons1 φAok mixed) (fiOk Tryz.func127 (by kernel_rfl) (by kernel_rfl)) (fun xs Q => cmp_Compare_int.walk xs.1 xs.2.1 Q) fun ⟨x0,x1,_⟩ hl hp => cmp_Compare_int.spec x0 x1
def set_Name.A : An := .mk [(1000,[.own 3 (.int .u8)])] [(0,⟨[.t 8 tI,.row 0 (.int .u8)],[3],[40,39,37,36,38,32,31,35,34,33,26,25,30,29,28,27,23,22,24,19,18,21,20,16,15,17,12,14,13,5,11,10,9],[]⟩)] [] [] []
theorem set_Name.walk (x0 : PS.den (.d (.sl tC))) (Q : denL [.str] → Prop) : set_Name.wp x0 Q = fnW τ0 (walk τ0 κ1 φC) set_Name.A (fiOf Tryz.f111) [.d (.sl tC)] [.str] (x0,()) Q := by kernel_rfl
noncomputable def set_Name.con : Con := ⟨[.d (.sl tC)],some fun x => set_Name.pre x,fun x => resV [.str] (set_Name.fn x)⟩
theorem set_Name.ok : ConOk prog 111 set_Name.con := conOk_walk (Wp := fun xs Q => set_Name.wp xs.1 Q) tab0 (walk_ok tab0 cons1 φCok mixed) (fiOk Tryz.func111 (by kernel_rfl) (by kernel_rfl)) (fun xs Q => set_Name.walk xs.1 Q) fun ⟨x0,_⟩ hl hp => set_Name.spec x0 hp
def cond_others.A : An := .mk [(1001,[.own 4 tC])] [(1,⟨[.t 5 tI,.row 2 tC],[4],[34,33,49,35,48,47,46,45,44,43,42,41,40,39,38,37,36,32,31,30,29],[]⟩)] [] [] []
theorem cond_others.walk (x0 : PS.den (.d tC)) (Q : denL [(.sl tC)] → Prop) : cond_others.wp x0 Q = fnW τ0 (walk τ0 κ1 φA) cond_others.A (fiOf Tryz.f113) [.d tC] [(.sl tC)] (x0,()) Q := by kernel_rfl
noncomputable def cond_others.con : Con := ⟨[.d tC],some fun x => cond_others.pre x,fun x => resV [(.sl tC)] (cond_others.fn x)⟩
theorem cond_others.ok : ConOk prog 113 cond_others.con := conOk_walk (Wp := fun xs Q => cond_others.wp xs.1 Q) tab0 (walk_ok tab0 cons1 φAok mixed) (fiOk Tryz.func113 (by kernel_rfl) (by kernel_rfl)) (fun xs Q => cond_others.walk xs.1 Q) fun ⟨x0,_⟩ hl hp => cond_others.spec x0 hp
def ref03_Same.A : An := .mk [] [] [] [] []
theorem ref03_Same.walk (x0 : PS.den (.d tC)) (x1 : PS.den (.d tC)) (Q : denL [.bool] → Prop) : ref03_Same.wp x0 x1 Q = fnW τ0 (walk τ0 κ1 φA) ref03_Same.A (fiOf Tryz.f61) [.d tC,.d tC] [.bool] (x0,x1,()) Q := by kernel_rfl
noncomputable def ref03_Same.con : Con := ⟨[.d tC,.d tC],none,fun x => resV [.bool] (ref03_Same.fn x)⟩
theorem ref03_Same.ok : ConOk prog 61 ref03_Same.con := conOk_walk (Wp := fun xs Q => ref03_Same.wp xs.1 xs.2.1 Q) tab0 (walk_ok tab0 cons1 φAok mixed) (fiOk Tryz.func61 (by kernel_rfl) (by kernel_rfl)) (fun xs Q => ref03_Same.walk xs.1 xs.2.1 Q) fun ⟨x0,x1,_⟩ hl hp => ref03_Same.spec x0 x1
def ref02_Valid.A : An := .mk [] [(0,⟨[.t 8 tI],[],[15,14,13,12,4,11,10,9],[]⟩)] [] [] []
theorem ref02_Valid.walk (x0 : PS.den (.d tL)) (Q : denL [.bool] → Prop) : ref02_Valid.wp x0 Q = fnW τ0 (walk τ0 κ1 φA) ref02_Valid.A (fiOf Tryz.f102) [.d tL] [.bool] (x0,()) Q := by kernel_rfl
noncomputable def ref02_Valid.con : Con := ⟨[.d tL],none,fun x => resV [.bool] (ref02_Valid.fn x)⟩
theorem ref02_Valid.ok : ConOk prog 102 ref02_Valid.con := conOk_walk (Wp := fun xs Q => ref02_Valid.wp xs.1 Q) tab0 (walk_ok tab0 cons1 φAok mixed) (fiOk Tryz.func102 (by kernel_rfl) (by kernel_rfl)) (fun xs Q => ref02_Valid.walk xs.1 Q) fun ⟨x0,_⟩ hl hp => ref02_Valid.spec x0 hl.1.1.1
noncomputable def κL2 : List (Nat × CX) := (92,.con lin_Valid.con) :: (55,.con slices_ContainsFunc_Sapi_Cond_api_Cond.con) :: (168,.con num_Gcd_1.con) :: (96,.con set_least.con) :: (127,.con cmp_Compare_int.con) :: (111,.con set_Name.con) :: (113,.con cond_others.con) :: (61,.con ref03_Same.con) :: (102,.con ref02_Valid.con) :: κL1
theorem consL2 : ConsOk prog (fun n => findC n κL2) := cons_cons lin_Valid.ok (cons_cons slices_ContainsFunc_Sapi_Cond_api_Cond.ok (cons_cons num_Gcd_1.ok (cons_cons set_least.ok (cons_cons cmp_Compare_int.ok (cons_cons set_Name.ok (cons_cons cond_others.ok (cons_cons ref03_Same.ok (cons_cons ref02_Valid.ok consL1))))))))
noncomputable def κ2 : ConTab := fun n => findC n κL2
theorem cons2 : ConsOk prog κ2 := consL2
def cond_Valid.A : An := .mk [] [] [] [] []
theorem cond_Valid.walk (x0 : PS.den (.d tC)) (Q : denL [.bool] → Prop) : cond_Valid.wp x0 Q = fnW τ0 (walk τ0 κ2 φA) cond_Valid.A (fiOf Tryz.f57) [.d tC] [.bool] (x0,()) Q := by kernel_rfl
noncomputable def cond_Valid.con : Con := ⟨[.d tC],none,fun x => resV [.bool] (cond_Valid.fn x)⟩
theorem cond_Valid.ok : ConOk prog 57 cond_Valid.con := conOk_walk (Wp := fun xs Q => cond_Valid.wp xs.1 Q) tab0 (walk_ok tab0 cons2 φAok mixed) (fiOk Tryz.func57 (by kernel_rfl) (by kernel_rfl)) (fun xs Q => cond_Valid.walk xs.1 Q) fun ⟨x0,_⟩ hl hp => cond_Valid.spec x0
def num_Gcd.A : An := .mk [] [] [] [] []
theorem num_Gcd.walk (x0 : PS.den (.d (.sl tI))) (Q : denL [tI,tI] → Prop) : num_Gcd.wp x0 Q = fnW τ0 (walk τ0 κ2 φA) num_Gcd.A (fiOf Tryz.f155) [.d (.sl tI)] [tI,tI] (x0,()) Q := by kernel_rfl
noncomputable def num_Gcd.con : Con := ⟨[.d (.sl tI)],some fun x => num_Gcd.pre x,fun x => resV [tI,tI] (num_Gcd.fn x)⟩
theorem num_Gcd.ok : ConOk prog 155 num_Gcd.con := conOk_walk (Wp := fun xs Q => num_Gcd.wp xs.1 Q) tab0 (walk_ok tab0 cons2 φAok mixed) (fiOk Tryz.func155 (by kernel_rfl) (by kernel_rfl)) (fun xs Q => num_Gcd.walk xs.1 Q) fun ⟨x0,_⟩ hl hp => num_Gcd.spec x0 hp
def slices_Compare_Sint_int.A : An := .mk [] [(0,⟨[.t 11 tI],[],[30,28,27,8,26,25,24,7,23,22,21,20,19,18,17,16,6,5,15,14,13,12],[]⟩)] [] [] []
theorem slices_Compare_Sint_int.walk (x0 : PS.den (.d (.sl tI))) (x1 : PS.den (.d (.sl tI))) (Q : denL [tI] → Prop) : slices_Compare_Sint_int.wp x0 x1 Q = fnW τ0 (walk τ0 κ2 φA) slices_Compare_Sint_int.A (fiOf Tryz.f128) [.d (.sl tI),.d (.sl tI)] [tI] (x0,x1,()) Q := by kernel_rfl
noncomputable def slices_Compare_Sint_int.con : Con := ⟨[.d (.sl tI),.d (.sl tI)],none,fun x => resV [tI] (slices_Compare_Sint_int.fn x)⟩
theorem slices_Compare_Sint_int.ok : ConOk prog 128 slices_Compare_Sint_int.con := conOk_walk (Wp := fun xs Q => slices_Compare_Sint_int.wp xs.1 xs.2.1 Q) tab0 (walk_ok tab0 cons2 φAok mixed) (fiOk Tryz.func128 (by kernel_rfl) (by kernel_rfl)) (fun xs Q => slices_Compare_Sint_int.walk xs.1 xs.2.1 Q) fun ⟨x0,x1,_⟩ hl hp => slices_Compare_Sint_int.spec x0 x1 hl.1.1
def ref04_SamePiece.A : An := .mk [] [(0,⟨[.t 13 tI],[],[26,25,24,23,22,21,20,19,18,17,16,5,15,14],[]⟩)] [] [] []
theorem ref04_SamePiece.walk (x0 : PS.den (.d (.sl tC))) (x1 : PS.den (.d (.sl tC))) (Q : denL [.bool] → Prop) : ref04_SamePiece.wp x0 x1 Q = fnW τ0 (walk τ0 κ2 φA) ref04_SamePiece.A (fiOf Tryz.f22) [.d (.sl tC),.d (.sl tC)] [.bool] (x0,x1,()) Q := by kernel_rfl
noncomputable def ref04_SamePiece.con : Con := ⟨[.d (.sl tC),.d (.sl tC)],none,fun x => resV [.bool] (ref04_SamePiece.fn x)⟩
theorem ref04_SamePiece.ok : ConOk prog 22 ref04_SamePiece.con := conOk_walk (Wp := fun xs Q => ref04_SamePiece.wp xs.1 xs.2.1 Q) tab0 (walk_ok tab0 cons2 φAok mixed) (fiOk Tryz.func22 (by kernel_rfl) (by kernel_rfl)) (fun xs Q => ref04_SamePiece.walk xs.1 xs.2.1 Q) fun ⟨x0,x1,_⟩ hl hp => ref04_SamePiece.spec x0 x1 hl.1.1
def ref03_Valid.A : An := .mk [] [] [] [] []
theorem ref03_Valid.walk (x0 : PS.den (.d tC)) (Q : denL [.bool] → Prop) : ref03_Valid.wp x0 Q = fnW τ0 (walk τ0 κ2 φA) ref03_Valid.A (fiOf Tryz.f60) [.d tC] [.bool] (x0,()) Q := by kernel_rfl
noncomputable def ref03_Valid.con : Con := ⟨[.d tC],none,fun x => resV [.bool] (ref03_Valid.fn x)⟩
theorem ref03_Valid.ok : ConOk prog 60 ref03_Valid.con := conOk_walk (Wp := fun xs Q => ref03_Valid.wp xs.1 Q) tab0 (walk_ok tab0 cons2 φAok mixed) (fiOk Tryz.func60 (by kernel_rfl) (by kernel_rfl)) (fun xs Q => ref03_Valid.walk xs.1 Q) fun ⟨x0,_⟩ hl hp => ref03_Valid.spec x0
def ref02_Room.A : An := .mk [] [] [] [] []
theorem ref02_Room.walk (x0 : PS.den (.d tL)) (x1 : PS.den (.d tI)) (x2 : PS.den (.d tI)) (Q : denL [tL,tI] → Prop) : ref02_Room.wp x0 x1 x2 Q = fnW τ0 (walk τ0 κ2 φA) ref02_Room.A (fiOf Tryz.f81) [.d tL,.d tI,.d tI] [tL,tI] (x0,x1,x2,()) Q := by kernel_rfl
noncomputable def ref02_Room.con : Con := ⟨[.d tL,.d tI,.d tI],none,fun x => resV [tL,tI] (ref02_Room.fn x)⟩
theorem ref02_Room.ok : ConOk prog 81 ref02_Room.con := conOk_walk (Wp := fun xs Q => ref02_Room.wp xs.1 xs.2.1 xs.2.2.1 Q) tab0 (walk_ok tab0 cons2 φAok mixed) (fiOk Tryz.func81 (by kernel_rfl) (by kernel_rfl)) (fun xs Q => ref02_Room.walk xs.1 xs.2.1 xs.2.2.1 Q) fun ⟨x0,x1,x2,_⟩ hl hp => ref02_Room.spec x0 x1 x2 hl.1.1.1
noncomputable def κL3 : List (Nat × CX) := (57,.con cond_Valid.con) :: (155,.con num_Gcd.con) :: (128,.con slices_Compare_Sint_int.con) :: (22,.con ref04_SamePiece.con) :: (60,.con ref03_Valid.con) :: (81,.con ref02_Room.con) :: κL2
theorem consL3 : ConsOk prog (fun n => findC n κL3) := cons_cons cond_Valid.ok (cons_cons num_Gcd.ok (cons_cons slices_Compare_Sint_int.ok (cons_cons ref04_SamePiece.ok (cons_cons ref03_Valid.ok (cons_cons ref02_Room.ok consL2)))))
noncomputable def κ3 : ConTab := fun n => findC n κL3
theorem cons3 : ConsOk prog κ3 := consL3
def set_over.A : An := .mk [] [(0,⟨[.t 9 tI],[],[24,23,22,21,20,19,18,17,16,15,14,13,6,12,11,10],[]⟩)] [] [] []
theorem set_over.walk (x0 : PS.den (.d (.sl tC))) (x1 : PS.den (.d tI)) (Q : denL [.bool] → Prop) : set_over.wp x0 x1 Q = fnW τ0 (walk τ0 κ3 φA) set_over.A (fiOf Tryz.f58) [.d (.sl tC),.d tI] [.bool] (x0,x1,()) Q := by kernel_rfl
noncomputable def set_over.con : Con := ⟨[.d (.sl tC),.d tI],none,fun x => resV [.bool] (set_over.fn x)⟩
theorem set_over.ok : ConOk prog 58 set_over.con := conOk_walk (Wp := fun xs Q => set_over.wp xs.1 xs.2.1 Q) tab0 (walk_ok tab0 cons3 φAok mixed) (fiOk Tryz.func58 (by kernel_rfl) (by kernel_rfl)) (fun xs Q => set_over.walk xs.1 xs.2.1 Q) fun ⟨x0,x1,_⟩ hl hp => set_over.spec x0 x1 hl.1.1
def cond_maker_ge.A : An := .mk [] [] [] [] []
theorem cond_maker_ge.walk (x0 : PS.den (.d tC)) (Q : denL [tC,tI] → Prop) : cond_maker_ge.wp x0 Q = fnW τ0 (walk τ0 κ3 φA) cond_maker_ge.A (fiOf Tryz.f139) [.d tC] [tC,tI] (x0,()) Q := by kernel_rfl
noncomputable def cond_maker_ge.con : Con := ⟨[.d tC],some fun x => cond_maker_ge.pre x,fun x => resV [tC,tI] (cond_maker_ge.fn x)⟩
theorem cond_maker_ge.ok : ConOk prog 139 cond_maker_ge.con := conOk_walk (Wp := fun xs Q => cond_maker_ge.wp xs.1 Q) tab0 (walk_ok tab0 cons3 φAok mixed) (fiOk Tryz.func139 (by kernel_rfl) (by kernel_rfl)) (fun xs Q => cond_maker_ge.walk xs.1 Q) fun ⟨x0,_⟩ hl hp => cond_maker_ge.spec x0 hp
def cond_maker_eq.A : An := .mk [] [(0,⟨[.t 44 tI],[],[54,49,48,7,47,46,45],[]⟩)] [] [] []
theorem cond_maker_eq.walk (x0 : PS.den (.d tC)) (Q : denL [tC,tI] → Prop) : cond_maker_eq.wp x0 Q = fnW τ0 (walk τ0 κ3 φA) cond_maker_eq.A (fiOf Tryz.f140) [.d tC] [tC,tI] (x0,()) Q := by kernel_rfl
noncomputable def cond_maker_eq.con : Con := ⟨[.d tC],some fun x => cond_maker_eq.pre x,fun x => resV [tC,tI] (cond_maker_eq.fn x)⟩
theorem cond_maker_eq.ok : ConOk prog 140 cond_maker_eq.con := conOk_walk (Wp := fun xs Q => cond_maker_eq.wp xs.1 Q) tab0 (walk_ok tab0 cons3 φAok mixed) (fiOk Tryz.func140 (by kernel_rfl) (by kernel_rfl)) (fun xs Q => cond_maker_eq.walk xs.1 Q) fun ⟨x0,_⟩ hl hp => cond_maker_eq.spec x0 hp
def cond_maker_div.A : An := .mk [] [(0,⟨[.t 25 tI,.t 6 tI,.row 2 tI],[],[51,50,49,40,48,47,46,45,44,43,42,41,39,38,37,30,36,35,34,33,32,31,8,7,29,28,27,26],[]⟩)] [] [] []
theorem cond_maker_div.walk (x0 : PS.den (.d tC)) (Q : denL [tC,tI] → Prop) : cond_maker_div.wp x0 Q = fnW τ0 (walk τ0 κ3 φA) cond_maker_div.A (fiOf Tryz.f141) [.d tC] [tC,tI] (x0,()) Q := by kernel_rfl
noncomputable def cond_maker_div.con : Con := ⟨[.d tC],some fun x => cond_maker_div.pre x,fun x => resV [tC,tI] (cond_maker_div.fn x)⟩
theorem cond_maker_div.ok : ConOk prog 141 cond_maker_div.con := conOk_walk (Wp := fun xs Q => cond_maker_div.wp xs.1 Q) tab0 (walk_ok tab0 cons3 φAok mixed) (fiOk Tryz.func141 (by kernel_rfl) (by kernel_rfl)) (fun xs Q => cond_maker_div.walk xs.1 Q) fun ⟨x0,_⟩ hl hp => cond_maker_div.spec x0 hp
def set_Tidy_1.A : An := .mk [] [] [] [] []
theorem set_Tidy_1.walk (x0 : PS.den (.d tC)) (Q : denL [.bool] → Prop) : set_Tidy_1.wp x0 Q = fnW τ0 (walk τ0 κ3 φA) set_Tidy_1.A (fiOf Tryz.f94) [.d tC] [.bool] (x0,()) Q := by kernel_rfl
noncomputable def set_Tidy_1.con : Con := ⟨[.d tC],none,fun x => resV [.bool] (set_Tidy_1.fn x)⟩
theorem set_Tidy_1.ok : ConOk prog 94 set_Tidy_1.con := conOk_walk (Wp := fun xs Q => set_Tidy_1.wp xs.1 Q) tab0 (walk_ok tab0 cons3 φAok mixed) (fiOk Tryz.func94 (by kernel_rfl) (by kernel_rfl)) (fun xs Q => set_Tidy_1.walk xs.1 Q) fun ⟨x0,_⟩ hl hp => set_Tidy_1.spec x0
def set_order.A : An := .mk [] [] [] [] []
theorem set_order.walk (x0 : PS.den (.d tC)) (x1 : PS.den (.d tC)) (Q : denL [tI] → Prop) : set_order.wp x0 x1 Q = fnW τ0 (walk τ0 κ3 φA) set_order.A (fiOf Tryz.f99) [.d tC,.d tC] [tI] (x0,x1,()) Q := by kernel_rfl
noncomputable def set_order.con : Con := ⟨[.d tC,.d tC],some fun x => set_order.pre x,fun x => resV [tI] (set_order.fn x)⟩
theorem set_order.ok : ConOk prog 99 set_order.con := conOk_walk (Wp := fun xs Q => set_order.wp xs.1 xs.2.1 Q) tab0 (walk_ok tab0 cons3 φAok mixed) (fiOk Tryz.func99 (by kernel_rfl) (by kernel_rfl)) (fun xs Q => set_order.walk xs.1 xs.2.1 Q) fun ⟨x0,x1,_⟩ hl hp => set_order.spec x0 x1 hp
def ref04_Same.A : An := .mk [] [(0,⟨[.t 23 tI],[],[38,37,36,35,34,33,32,31,30,29,28,27,26,5,25,24],[]⟩)] [] [] []
theorem ref04_Same.walk (x0 : PS.den (.d tS)) (x1 : PS.den (.d tS)) (Q : denL [.bool] → Prop) : ref04_Same.wp x0 x1 Q = fnW τ0 (walk τ0 κ3 φA) ref04_Same.A (fiOf Tryz.f32) [.d tS,.d tS] [.bool] (x0,x1,()) Q := by kernel_rfl
noncomputable def ref04_Same.con : Con := ⟨[.d tS,.d tS],none,fun x => resV [.bool] (ref04_Same.fn x)⟩
theorem ref04_Same.ok : ConOk prog 32 ref04_Same.con := conOk_walk (Wp := fun xs Q => ref04_Same.wp xs.1 xs.2.1 Q) tab0 (walk_ok tab0 cons3 φAok mixed) (fiOk Tryz.func32 (by kernel_rfl) (by kernel_rfl)) (fun xs Q => ref04_Same.walk xs.1 xs.2.1 Q) fun ⟨x0,x1,_⟩ hl hp => ref04_Same.spec x0 x1 hl.1.2.1
def lin_Room.A : An := .mk [] [] [] [] []
theorem lin_Room.walk (x0 : PS.den (.d tL)) (x1 : PS.den (.d tI)) (x2 : PS.den (.d tI)) (Q : denL [tL,tI] → Prop) : lin_Room.wp x0 x1 x2 Q = fnW τ0 (walk τ0 κ3 φA) lin_Room.A (fiOf Tryz.f80) [.d tL,.d tI,.d tI] [tL,tI] (x0,x1,x2,()) Q := by kernel_rfl
noncomputable def lin_Room.con : Con := ⟨[.d tL,.d tI,.d tI],none,fun x => resV [tL,tI] (lin_Room.fn x)⟩
theorem lin_Room.ok : ConOk prog 80 lin_Room.con := conOk_walk (Wp := fun xs Q => lin_Room.wp xs.1 xs.2.1 xs.2.2.1 Q) tab0 (walk_ok tab0 cons3 φAok mixed) (fiOk Tryz.func80 (by kernel_rfl) (by kernel_rfl)) (fun xs Q => lin_Room.walk xs.1 xs.2.1 xs.2.2.1 Q) fun ⟨x0,x1,x2,_⟩ hl hp => lin_Room.spec x0 x1 x2 hl.1.1.1
def ref04_Valid.A : An := .mk [] [(2,⟨[.t 33 tI],[],[49,48,47,46,45,44,43,42,41,40,39,38,37,6,36,35,34],[]⟩),(0,⟨[.t 24 tI],[],[50,34,49,48,47,46,45,44,43,42,41,40,39,38,37,6,36,35,33,32,31,30,29,28,4,27,26,25],[]⟩)] [] [] []
theorem ref04_Valid.walk (x0 : PS.den (.d tS)) (Q : denL [.bool] → Prop) : ref04_Valid.wp x0 Q = fnW τ0 (walk τ0 κ3 φA) ref04_Valid.A (fiOf Tryz.f33) [.d tS] [.bool] (x0,()) Q := by kernel_rfl
noncomputable def ref04_Valid.con : Con := ⟨[.d tS],none,fun x => resV [.bool] (ref04_Valid.fn x)⟩
theorem ref04_Valid.ok : ConOk prog 33 ref04_Valid.con := conOk_walk (Wp := fun xs Q => ref04_Valid.wp xs.1 Q) tab0 (walk_ok tab0 cons3 φAok mixed) (fiOk Tryz.func33 (by kernel_rfl) (by kernel_rfl)) (fun xs Q => ref04_Valid.walk xs.1 Q) fun ⟨x0,_⟩ hl hp => ref04_Valid.spec x0 hl.1.2.1
noncomputable def κL4 : List (Nat × CX) := (58,.con set_over.con) :: (139,.con cond_maker_ge.con) :: (140,.con cond_maker_eq.con) :: (141,.con cond_maker_div.con) :: (94,.con set_Tidy_1.con) :: (99,.con set_order.con) :: (32,.con ref04_Same.con) :: (80,.con lin_Room.con) :: (33,.con ref04_Valid.con) :: κL3
theorem consL4 : ConsOk prog (fun n => findC n κL4) := cons_cons set_over.ok (cons_cons cond_maker_ge.ok (cons_cons cond_maker_eq.ok (cons_cons cond_maker_div.ok (cons_cons set_Tidy_1.ok (cons_cons set_order.ok (cons_cons ref04_Same.ok (cons_cons lin_Room.ok (cons_cons ref04_Valid.ok consL3))))))))
noncomputable def κ4 : ConTab := fun n => findC n κL4
theorem cons4 : ConsOk prog κ4 := consL4
def set_Valid.A : An := .mk [] [(0,⟨[.t 22 tI],[],[36,35,34,33,32,31,30,29,28,27,26,4,25,24,23],[]⟩)] [] [] []
theorem set_Valid.walk (x0 : PS.den (.d tS)) (Q : denL [.bool] → Prop) : set_Valid.wp x0 Q = fnW τ0 (walk τ0 κ4 φA) set_Valid.A (fiOf Tryz.f44) [.d tS] [.bool] (x0,()) Q := by kernel_rfl
noncomputable def set_Valid.con : Con := ⟨[.d tS],none,fun x => resV [.bool] (set_Valid.fn x)⟩
theorem set_Valid.ok : ConOk prog 44 set_Valid.con := conOk_walk (Wp := fun xs Q => set_Valid.wp xs.1 Q) tab0 (walk_ok tab0 cons4 φAok mixed) (fiOk Tryz.func44 (by kernel_rfl) (by kernel_rfl)) (fun xs Q => set_Valid.walk xs.1 Q) fun ⟨x0,_⟩ hl hp => set_Valid.spec x0 hl.1.2.1
noncomputable def cond_makers.con : Con := ⟨[],none,fun _ => .agg [.fn (.func 139) [] [],.fn (.func 140) [] [],.fn (.func 141) [] []]⟩
theorem cond_makers.val (xs : denPS []) (Q : V → Prop) : Q (cond_makers.con.res xs) = fnV τ0 (walk τ0 κ4 φA) An.none (fiOf Tryz.f122) [] xs Q := by kernel_rfl
theorem cond_makers.ok : ConOk prog 122 cond_makers.con := conOk_val tab0 (walk_ok tab0 cons4 φAok mixed) (fiOk Tryz.func122 (by kernel_rfl) (by kernel_rfl)) fun xs _ _ => Eq.mp (cond_makers.val xs _) rfl
def set_Tidy_2.A : An := .mk [] [] [] [] []
theorem set_Tidy_2.walk (x0 : PS.den (.d tC)) (x1 : PS.den (.d tC)) (Q : denL [.bool] → Prop) : set_Tidy_2.wp x0 x1 Q = fnW τ0 (walk τ0 κ4 φA) set_Tidy_2.A (fiOf Tryz.f101) [.d tC,.d tC] [.bool] (x0,x1,()) Q := by kernel_rfl
noncomputable def set_Tidy_2.con : Con := ⟨[.d tC,.d tC],some fun x => set_Tidy_2.pre x,fun x => resV [.bool] (set_Tidy_2.fn x)⟩
theorem set_Tidy_2.ok : ConOk prog 101 set_Tidy_2.con := conOk_walk (Wp := fun xs Q => set_Tidy_2.wp xs.1 xs.2.1 Q) tab0 (walk_ok tab0 cons4 φAok mixed) (fiOk Tryz.func101 (by kernel_rfl) (by kernel_rfl)) (fun xs Q => set_Tidy_2.walk xs.1 xs.2.1 Q) fun ⟨x0,x1,_⟩ hl hp => set_Tidy_2.spec x0 x1 hp
def law04_is.A : An := .mk [] [] [] [] []
theorem law04_is.walk (x0 : PS.den (.d tS)) (x1 : PS.den (.d tI)) (x2 : PS.den (.d tS)) (x3 : PS.den (.d tI)) (Q : denL [.bool] → Prop) : law04_is.wp x0 x1 x2 x3 Q = fnW τ0 (walk τ0 κ4 φA) law04_is.A (fiOf Tryz.f17) [.d tS,.d tI,.d tS,.d tI] [.bool] (x0,x1,x2,x3,()) Q := by kernel_rfl
noncomputable def law04_is.con : Con := ⟨[.d tS,.d tI,.d tS,.d tI],none,fun x => resV [.bool] (law04_is.fn x)⟩
theorem law04_is.ok : ConOk prog 17 law04_is.con := conOk_walk (Wp := fun xs Q => law04_is.wp xs.1 xs.2.1 xs.2.2.1 xs.2.2.2.1 Q) tab0 (walk_ok tab0 cons4 φAok mixed) (fiOk Tryz.func17 (by kernel_rfl) (by kernel_rfl)) (fun xs Q => law04_is.walk xs.1 xs.2.1 xs.2.2.1 xs.2.2.2.1 Q) fun ⟨x0,x1,x2,x3,_⟩ hl hp => law04_is.spec x0 x1 x2 x3
def set_Room_1.A : An := .mk [] [] [] [] []
theorem set_Room_1.walk (x0 : PS.den (.d tL)) (x1 : PS.den (.e tI)) (x2 : PS.den (.e tI)) (Q : denL [tL] → Prop) : set_Room_1.wp x0 x1 x2 Q = fnW τ0 (walk τ0 κ4 φA) set_Room_1.A (fiOf Tryz.f79) [.d tL,.e tI,.e tI] [tL] (x0,x1,x2,()) Q := by kernel_rfl
noncomputable def set_Room_1.con : Con := ⟨[.d tL,.e tI,.e tI],some fun x => set_Room_1.pre x,fun x => resV [tL] (set_Room_1.fn x)⟩
theorem set_Room_1.ok : ConOk prog 79 set_Room_1.con := conOk_walk (Wp := fun xs Q => set_Room_1.wp xs.1 xs.2.1 xs.2.2.1 Q) tab0 (walk_ok tab0 cons4 φAok mixed) (fiOk Tryz.func79 (by kernel_rfl) (by kernel_rfl)) (fun xs Q => set_Room_1.walk xs.1 xs.2.1 xs.2.2.1 Q) fun ⟨x0,x1,x2,_⟩ hl hp => set_Room_1.spec x0 x1 x2 hp
def ref04_Room.A : An := .mk [(1001,[.ownc 2 1 (.sl tC)]),(1003,[.own 11 tC])] [(3,⟨[.t 56 tI,.row 4 tC],[11],[77,76,68,75,74,73,72,71,70,69,15,14,67,66,60,65,64,63,62,61,13,59,58,57],[]⟩),(1,⟨[.t 50 tI,.cell 2 0 tI,.row 3 (.sl tC)],[],[84,83,82,79,81,80,11,78,57,77,76,68,75,74,73,72,71,70,69,15,14,67,66,60,65,64,63,62,61,13,59,58,56,55,54,10,53,52,51],[]⟩)] [] [] []
theorem ref04_Room.walk (x0 : PS.den (.d tS)) (x1 : PS.den (.d tI)) (x2 : PS.den (.d tI)) (Q : denL [tS,tI] → Prop) : ref04_Room.wp x0 x1 x2 Q = fnW τ0 (walk τ0 κ4 φA) ref04_Room.A (fiOf Tryz.f40) [.d tS,.d tI,.d tI] [tS,tI] (x0,x1,x2,()) Q := by kernel_rfl
noncomputable def ref04_Room.con : Con := ⟨[.d tS,.d tI,.d tI],none,fun x => resV [tS,tI] (ref04_Room.fn x)⟩
theorem ref04_Room.ok : ConOk prog 40 ref04_Room.con := conOk_walk (Wp := fun xs Q => ref04_Room.wp xs.1 xs.2.1 xs.2.2.1 Q) tab0 (walk_ok tab0 cons4 φAok mixed) (fiOk Tryz.func40 (by kernel_rfl) (by kernel_rfl)) (fun xs Q => ref04_Room.walk xs.1 xs.2.1 xs.2.2.1 Q) fun ⟨x0,x1,x2,_⟩ hl hp => ref04_Room.spec x0 x1 x2
def ref04_Turn.A : An := .mk [(1004,[.ownc 2 1 (.sl tC)]),(1006,[.own 13 tC])] [(2,⟨[.t 49 tI],[],[57,55,54,53,9,52,51,50],[]⟩),(0,⟨[.t 31 tI],[],[58,50,49,48,47,46,45,43,42,41,40,39,38,37,36,7,6,35,34,33,32,57,55,54,53,9,52,51],[]⟩),(8,⟨[.t 84 tI,.row 11 tI],[],[99,98,97,96,95,94,93,92,91,90,89,18,17,88,87,86,85],[]⟩),(6,⟨[.t 71 tI,.row 4 tC],[13],[109,108,100,107,106,105,81,80,104,103,102,101,85,99,98,97,96,95,94,93,92,91,90,89,18,17,88,87,86,84,83,82,16,79,78,77,76,75,15,74,73,72],[]⟩),(4,⟨[.t 65 tI,.cell 2 0 tI,.row 3 (.sl tC)],[],[116,115,114,111,113,112,13,110,72,109,108,100,107,106,105,81,80,104,103,102,101,85,99,98,97,96,95,94,93,92,91,90,89,18,17,88,87,86,84,83,82,16,79,78,77,76,75,15,74,73,71,70,69,12,68,67,66],[]⟩)] [] [] []
theorem ref04_Turn.walk (x0 : PS.den (.d tS)) (x1 : PS.den (.d (.sl tI))) (Q : denL [tS,tI] → Prop) : ref04_Turn.wp x0 x1 Q = fnW τ0 (walk τ0 κ4 φA) ref04_Turn.A (fiOf Tryz.f42) [.d tS,.d (.sl tI)] [tS,tI] (x0,x1,()) Q := by kernel_rfl
noncomputable def ref04_Turn.con : Con := ⟨[.d tS,.d (.sl tI)],none,fun x => resV [tS,tI] (ref04_Turn.fn x)⟩
theorem ref04_Turn.ok : ConOk prog 42 ref04_Turn.con := conOk_walk (Wp := fun xs Q => ref04_Turn.wp xs.1 xs.2.1 Q) tab0 (walk_ok tab0 cons4 φAok mixed) (fiOk Tryz.func42 (by kernel_rfl) (by kernel_rfl)) (fun xs Q => ref04_Turn.walk xs.1 xs.2.1 Q) fun ⟨x0,x1,_⟩ hl hp => ref04_Turn.spec x0 x1 hl.2.1.1
noncomputable def κL5 : List (Nat × CX) := (44,.con set_Valid.con) :: (122,.con cond_makers.con) :: (101,.con set_Tidy_2.con) :: (17,.con law04_is.con) :: (79,.con set_Room_1.con) :: (40,.con ref04_Room.con) :: (42,.con ref04_Turn.con) :: κL4
theorem consL5 : ConsOk prog (fun n => findC n κL5) := cons_cons set_Valid.ok (cons_cons cond_makers.ok (cons_cons set_Tidy_2.ok (cons_cons law04_is.ok (cons_cons set_Room_1.ok (cons_cons ref04_Room.ok (cons_cons ref04_Turn.ok consL4))))))
noncomputable def κ5 : ConTab := fun n => findC n κL5
theorem cons5 : ConsOk prog κ5 := consL5
def cond_Raw.A : An := .mk [(1,[.cases 1 0 3])] [] [] [] []
theorem cond_Raw.walk (x0 : PS.den (.d tC)) (Q : denL [tC,tI] → Prop) : cond_Raw.wp x0 Q = fnW τ0 (walk τ0 κ5 φA) cond_Raw.A (fiOf Tryz.f93) [.d tC] [tC,tI] (x0,()) Q := by kernel_rfl
noncomputable def cond_Raw.con : Con := ⟨[.d tC],some fun x => cond_Raw.pre x,fun x => resV [tC,tI] (cond_Raw.fn x)⟩
theorem cond_Raw.ok : ConOk prog 93 cond_Raw.con := conOk_walk (Wp := fun xs Q => cond_Raw.wp xs.1 Q) tab0 (walk_ok tab0 cons5 φAok mixed) (fiOk Tryz.func93 (by kernel_rfl) (by kernel_rfl)) (fun xs Q => cond_Raw.walk xs.1 Q) fun ⟨x0,_⟩ hl hp => cond_Raw.spec x0 hp
def set_right.A : An := .mk [] [] [] [] []
theorem set_right.walk (x0 : PS.den (.d tS)) (x1 : PS.den (.d tS)) (Q : denL [tI] → Prop) : set_right.wp x0 x1 Q = fnW τ0 (walk τ0 κ5 φA) set_right.A (fiOf Tryz.f48) [.d tS,.d tS] [tI] (x0,x1,()) Q := by kernel_rfl
noncomputable def set_right.con : Con := ⟨[.d tS,.d tS],none,fun x => resV [tI] (set_right.fn x)⟩
theorem set_right.ok : ConOk prog 48 set_right.con := conOk_walk (Wp := fun xs Q => set_right.wp xs.1 xs.2.1 Q) tab0 (walk_ok tab0 cons5 φAok mixed) (fiOk Tryz.func48 (by kernel_rfl) (by kernel_rfl)) (fun xs Q => set_right.walk xs.1 xs.2.1 Q) fun ⟨x0,x1,_⟩ hl hp => set_right.spec x0 x1
def set_Room.A : An := .mk [] [] [] [] []
theorem set_Room.walk (x0 : PS.den (.d tS)) (x1 : PS.den (.d tI)) (x2 : PS.den (.d tI)) (Q : denL [tS,tI] → Prop) : set_Room.wp x0 x1 x2 Q = fnW τ0 (walk τ0 κ5 φA) set_Room.A (fiOf Tryz.f39) [.d tS,.d tI,.d tI] [tS,tI] (x0,x1,x2,()) Q := by kernel_rfl
noncomputable def set_Room.con : Con := ⟨[.d tS,.d tI,.d tI],none,fun x => resV [tS,tI] (set_Room.fn x)⟩
theorem set_Room.ok : ConOk prog 39 set_Room.con := conOk_walk (Wp := fun xs Q => set_Room.wp xs.1 xs.2.1 xs.2.2.1 Q) tab0 (walk_ok tab0 cons5 φAok mixed) (fiOk Tryz.func39 (by kernel_rfl) (by kernel_rfl)) (fun xs Q => set_Room.walk xs.1 xs.2.1 xs.2.2.1 Q) fun ⟨x0,x1,x2,_⟩ hl hp => set_Room.spec x0 x1 x2
def set_Turn.A : An := .mk [] [(0,⟨[.t 21 tI,.row 3 .bool],[],[41,40,39,37,36,35,34,33,32,31,30,29,28,27,26,25,8,24,23,22],[]⟩)] [] [] []
theorem set_Turn.walk (x0 : PS.den (.d tS)) (x1 : PS.den (.d (.sl tI))) (Q : denL [tS,tI] → Prop) : set_Turn.wp x0 x1 Q = fnW τ0 (walk τ0 κ5 φA) set_Turn.A (fiOf Tryz.f41) [.d tS,.d (.sl tI)] [tS,tI] (x0,x1,()) Q := by kernel_rfl
noncomputable def set_Turn.con : Con := ⟨[.d tS,.d (.sl tI)],none,fun x => resV [tS,tI] (set_Turn.fn x)⟩
theorem set_Turn.ok : ConOk prog 41 set_Turn.con := conOk_walk (Wp := fun xs Q => set_Turn.wp xs.1 xs.2.1 Q) tab0 (walk_ok tab0 cons5 φAok mixed) (fiOk Tryz.func41 (by kernel_rfl) (by kernel_rfl)) (fun xs Q => set_Turn.walk xs.1 xs.2.1 Q) fun ⟨x0,x1,_⟩ hl hp => set_Turn.spec x0 x1 hl.2.1.1
noncomputable def κL6 : List (Nat × CX) := (93,.con cond_Raw.con) :: (48,.con set_right.con) :: (39,.con set_Room.con) :: (41,.con set_Turn.con) :: κL5
theorem consL6 : ConsOk prog (fun n => findC n κL6) := cons_cons cond_Raw.ok (cons_cons set_right.ok (cons_cons set_Room.ok (cons_cons set_Turn.ok consL5)))
noncomputable def κ6 : ConTab := fun n => findC n κL6
theorem cons6 : ConsOk prog κ6 := consL6
def set_paired.A : An := .mk [(1002,[.own 7 tC])] [(0,⟨[.t 19 tI,.smap 0 tI],[],[33,32,31,30,29,28,27,26,25,24,5,6,23,22,21,20],[]⟩),(2,⟨[.t 37 tI,.row 2 tC,.imap 1 .bool],[7],[98,64,61,63,62,60,59,58,57,56,55,54,12,11,53,52,45,51,50,49,48,47,46,44,43,42,9,10,41,40,39,38,97,94,96,95,93,92,15,14,91,90,85,89,88,87,86,82,84,83,79,81,80,13,74,73,72,71,70,69,68,67,66,65,78,75,77,76],[]⟩)] [] [] []
theorem set_paired.walk (x0 : PS.den (.d (.sl tC))) (Q : denL [(.sl tC),.bool] → Prop) : set_paired.wp x0 Q = fnW τ0 (walk τ0 κ6 φA) set_paired.A (fiOf Tryz.f95) [.d (.sl tC)] [(.sl tC),.bool] (x0,()) Q := by kernel_rfl
noncomputable def set_paired.con : Con := ⟨[.d (.sl tC)],some fun x => set_paired.pre x,fun x => resV [(.sl tC),.bool] (set_paired.fn x)⟩
theorem set_paired.ok : ConOk prog 95 set_paired.con := conOk_walk (Wp := fun xs Q => set_paired.wp xs.1 Q) tab0 (walk_ok tab0 cons6 φAok mixed) (fiOk Tryz.func95 (by kernel_rfl) (by kernel_rfl)) (fun xs Q => set_paired.walk xs.1 Q) fun ⟨x0,_⟩ hl hp => set_paired.spec x0 hp
def cond_Make.A : An := .mk [] [] [] [] []
theorem cond_Make.walk (x0 : PS.den (.d tC)) (Q : denL [tC,tI,tI] → Prop) : cond_Make.wp x0 Q = fnW τ0 (walk τ0 κ6 φA) cond_Make.A (fiOf Tryz.f114) [.d tC] [tC,tI,tI] (x0,()) Q := by kernel_rfl
noncomputable def cond_Make.con : Con := ⟨[.d tC],some fun x => cond_Make.pre x,fun x => resV [tC,tI,tI] (cond_Make.fn x)⟩
theorem cond_Make.ok : ConOk prog 114 cond_Make.con := conOk_walk (Wp := fun xs Q => cond_Make.wp xs.1 Q) tab0 (walk_ok tab0 cons6 φAok mixed) (fiOk Tryz.func114 (by kernel_rfl) (by kernel_rfl)) (fun xs Q => cond_Make.walk xs.1 Q) fun ⟨x0,_⟩ hl hp => cond_Make.spec x0 hp
noncomputable def κL7 : List (Nat × CX) := (95,.con set_paired.con) :: (114,.con cond_Make.con) :: κL6
theorem consL7 : ConsOk prog (fun n => findC n κL7) := cons_cons set_paired.ok (cons_cons cond_Make.ok consL6)
noncomputable def κ7 : ConTab := fun n => findC n κL7
theorem cons7 : ConsOk prog κ7 := consL7
theorem sortOk : Sp.Ok prog 98 (.sort tC 99 (fun a b => set_order.pre (a,b,())) (fun a b => set_order.fn (a,b,()))) := appE srtF srtC fun h => sort_ok (T := tC) laysF6 rfl srtA srtZ h set_order.ok ordF_good.1 ordF_good.2
noncomputable def φB : Nat → Option FX := fun n => findL n ((98,.sp (.sort tC 99 (fun a b => set_order.pre (a,b,())) (fun a b => set_order.fn (a,b,())))) :: φL7)
theorem φBok : ∀ g fx,φB g = some fx → fx.Ok prog g := fxOk_cons sortOk φok7
def set_Tidy.A : An := .mk [(20,[.part 5]),(1000,[.own 5 tC])] [(0,⟨[.t 14 tI,.row 0 tC],[5],[31,30,27,29,28,26,25,24,23,9,8,22,21,18,20,19,7,17,16,15],[]⟩)] [] [] [(50,.mk [] [(2,⟨[.t 7 tI,.t 5 tI,.row 2 tC],[],[37,36,58,57,56,55,54,53,52,51,50,49,48,47,46,45,44,43,42,41,40,39,38,35,34,33,32],[]⟩),(0,⟨[.t 5 tI],[],[17,16,28,27,26,25,24,23,22,21,20,19,18,15,14,13,12],[]⟩)] [] [] []),(43,.mk [(1002,[.own 10 tC])] [(0,⟨[.t 20 tI,.smap 1 tI],[],[50,26,25,24,6,23,22,21,49,48,47,46,45,44,43,42,41,40,39,38,37,9,8,36,35,31,34,33,32,7,30,29,28,27],[]⟩),(2,⟨[.t 53 tI,.row 2 tC],[10],[95,74,73,72,71,70,69,14,13,68,67,60,66,65,64,63,62,61,59,58,57,12,56,55,54,90,89,88,87,86,85,84,16,15,83,82,75,81,80,79,78,77,76,94,91,93,92],[]⟩)] [] [] [])]
theorem set_Tidy.walk (x0 : PS.den (.d (.sl tC))) (Q : denL [(.sl tC),.bool,tI] → Prop) : set_Tidy.wp x0 Q = fnW τ0 (walk τ0 κ7 φB) set_Tidy.A (fiOf Tryz.f59) [.d (.sl tC)] [(.sl tC),.bool,tI] (x0,()) Q := by kernel_rfl
noncomputable def set_Tidy.con : Con := ⟨[.d (.sl tC)],some fun x => set_Tidy.pre x,fun x => resV [(.sl tC),.bool,tI] (set_Tidy.fn x)⟩
theorem set_Tidy.ok : ConOk prog 59 set_Tidy.con := conOk_walk (Wp := fun xs Q => set_Tidy.wp xs.1 Q) tab0 (walk_ok tab0 cons7 φBok mixed) (fiOk Tryz.func59 (by kernel_rfl) (by kernel_rfl)) (fun xs Q => set_Tidy.walk xs.1 Q) fun ⟨x0,_⟩ hl hp => set_Tidy.spec x0 hp
def cond_Negate.A : An := .mk [(1000,[.own 4 tC])] [(0,⟨[.t 16 tI,.row 1 tC],[4],[47,46,43,45,44,39,38,37,36,35,34,33,30,32,31,26,28,27,9,8,7,25,24,23,20,22,21,6,19,18,17,40,42,41],[]⟩)] [] [] []
theorem cond_Negate.walk (x0 : PS.den (.d tC)) (Q : denL [(.sl tC),tI] → Prop) : cond_Negate.wp x0 Q = fnW τ0 (walk τ0 κ7 φA) cond_Negate.A (fiOf Tryz.f86) [.d tC] [(.sl tC),tI] (x0,()) Q := by kernel_rfl
noncomputable def cond_Negate.con : Con := ⟨[.d tC],none,fun x => resV [(.sl tC),tI] (cond_Negate.fn x)⟩
theorem cond_Negate.ok : ConOk prog 86 cond_Negate.con := conOk_walk (Wp := fun xs Q => cond_Negate.wp xs.1 Q) tab0 (walk_ok tab0 cons7 φAok mixed) (fiOk Tryz.func86 (by kernel_rfl) (by kernel_rfl)) (fun xs Q => cond_Negate.walk xs.1 Q) fun ⟨x0,_⟩ hl hp => cond_Negate.spec x0
noncomputable def κL8 : List (Nat × CX) := (59,.con set_Tidy.con) :: (86,.con cond_Negate.con) :: κL7
theorem consL8 : ConsOk prog (fun n => findC n κL8) := cons_cons set_Tidy.ok (cons_cons cond_Negate.ok consL7)
noncomputable def κ8 : ConTab := fun n => findC n κL8
theorem cons8 : ConsOk prog κ8 := consL8
def set_Normal.A : An := .mk [] [] [] [] [(13,.mk [] [] [] [] [(10,.mk [] [] [] [] [(5000,.mk [(1000,[.ownc 15 0 (.sl tC)])] [(0,⟨[.t 7 tI,.row 20 (.sl tC),.smap 16 .bool],[],[15,14,13,12,11,4,10,9,8],[]⟩)] [] [] [])])])]
theorem set_Normal.walk (x0 : PS.den (.d tS)) (Q : denL [tS,tI] → Prop) : set_Normal.wp x0 Q = fnW τ0 (walk τ0 κ8 φA) set_Normal.A (fiOf Tryz.f15) [.d tS] [tS,tI] (x0,()) Q := by kernel_rfl
noncomputable def set_Normal.con : Con := ⟨[.d tS],none,fun x => resV [tS,tI] (set_Normal.fn x)⟩
theorem set_Normal.ok : ConOk prog 15 set_Normal.con := conOk_walk (Wp := fun xs Q => set_Normal.wp xs.1 Q) tab0 (walk_ok tab0 cons8 φAok mixed) (fiOk Tryz.func15 (by kernel_rfl) (by kernel_rfl)) (fun xs Q => set_Normal.walk xs.1 Q) fun ⟨x0,_⟩ hl hp => set_Normal.spec x0
def set_cut.A : An := .mk [(1000,[.own 9 (.sl tC)])] [(2,⟨[.t 48 tI,.row 1 (.sl tC)],[9],[63,62,52,61,60,59,58,57,56,55,54,53,15,51,50,49],[]⟩),(0,⟨[.t 33 tI,.row 1 (.sl tC)],[],[64,49,63,62,52,61,60,59,58,57,56,55,54,53,15,51,50,48,47,46,44,43,13,12,42,41,38,40,39,10,11,37,36,35,34],[]⟩)] [] [] []
theorem set_cut.walk (x0 : PS.den (.d (.sl tC))) (x1 : PS.den (.d (.sl tC))) (Q : denL [(.sl (.sl tC)),tI] → Prop) : set_cut.wp x0 x1 Q = fnW τ0 (walk τ0 κ8 φA) set_cut.A (fiOf Tryz.f50) [.d (.sl tC),.d (.sl tC)] [(.sl (.sl tC)),tI] (x0,x1,()) Q := by kernel_rfl
noncomputable def set_cut.con : Con := ⟨[.d (.sl tC),.d (.sl tC)],some fun x => set_cut.pre x,fun x => resV [(.sl (.sl tC)),tI] (set_cut.fn x)⟩
theorem set_cut.ok : ConOk prog 50 set_cut.con := conOk_walk (Wp := fun xs Q => set_cut.wp xs.1 xs.2.1 Q) tab0 (walk_ok tab0 cons8 φAok mixed) (fiOk Tryz.func50 (by kernel_rfl) (by kernel_rfl)) (fun xs Q => set_cut.walk xs.1 xs.2.1 Q) fun ⟨x0,x1,_⟩ hl hp => set_cut.spec x0 x1 hp
noncomputable def κL9 : List (Nat × CX) := (15,.con set_Normal.con) :: (50,.con set_cut.con) :: κL8
theorem consL9 : ConsOk prog (fun n => findC n κL9) := cons_cons set_Normal.ok (cons_cons set_cut.ok consL8)
noncomputable def κ9 : ConTab := fun n => findC n κL9
theorem cons9 : ConsOk prog κ9 := consL9
def set_Minus.A : An := .mk [] [(0,⟨[.t 42 tI,.t 8 tI,.cell 3 0 tI,.cell 3 1 (.sl (.sl tC)),.cell 5 0 tI],[],[62,60,59,58,57,56,55,54,53,48,52,51,50,49,14,47,46,13,45,44,43],[]⟩)] [] [] [(52,.mk [] [] [] [] [(10,.mk [] [] [] [] [(5000,.mk [(1000,[.ownc 11 0 (.sl tC)])] [(2,⟨[.t 28 tI,.row 16 (.sl tC),.smap 12 .bool],[],[36,35,34,33,32,10,31,30,29],[]⟩),(0,⟨[.t 13 tI,.row 16 (.sl tC),.smap 12 .bool],[],[37,29,36,35,34,33,32,10,31,30,28,27,26,24,23,8,7,22,21,17,20,19,18,6,16,15,14],[]⟩)] [] [] [])])])]
theorem set_Minus.walk (x0 : PS.den (.d tS)) (x1 : PS.den (.d tS)) (Q : denL [tS,tI] → Prop) : set_Minus.wp x0 x1 Q = fnW τ0 (walk τ0 κ9 φA) set_Minus.A (fiOf Tryz.f18) [.d tS,.d tS] [tS,tI] (x0,x1,()) Q := by kernel_rfl
noncomputable def set_Minus.con : Con := ⟨[.d tS,.d tS],none,fun x => resV [tS,tI] (set_Minus.fn x)⟩
theorem set_Minus.ok : ConOk prog 18 set_Minus.con := conOk_walk (Wp := fun xs Q => set_Minus.wp xs.1 xs.2.1 Q) tab0 (walk_ok tab0 cons9 φAok mixed) (fiOk Tryz.func18 (by kernel_rfl) (by kernel_rfl)) (fun xs Q => set_Minus.walk xs.1 xs.2.1 Q) fun ⟨x0,x1,_⟩ hl hp => set_Minus.spec x0 x1
noncomputable def κL10 : List (Nat × CX) := (18,.con set_Minus.con) :: κL9
theorem consL10 : ConsOk prog (fun n => findC n κL10) := cons_cons set_Minus.ok consL9
noncomputable def κ10 : ConTab := fun n => findC n κL10
theorem cons10 : ConsOk prog κ10 := consL10
def law04_awake.A : An := .mk [(6,[.frz 33])] [] [] [] []
theorem law04_awake.walk  (Q : denL [.bool] → Prop) : law04_awake.wp  Q = fnW τ0 (walk τ0 κ10 φA) law04_awake.A (fiOf Tryz.f14) [] [.bool] (()) Q := by kernel_rfl
noncomputable def law04_awake.con : Con := ⟨[],none,fun x => resV [.bool] (law04_awake.fn x)⟩
theorem law04_awake.ok : ConOk prog 14 law04_awake.con := conOk_walk (Wp := fun xs Q => law04_awake.wp  Q) tab0 (walk_ok tab0 cons10 φAok mixed) (fiOk Tryz.func14 (by kernel_rfl) (by kernel_rfl)) (fun xs Q => law04_awake.walk  Q) fun () hl hp => by first | exact law04_awake.spec   | exact law04_awake.spec  hp | exact law04_awake.spec  hl.1 | exact law04_awake.spec  hl.1 hp | exact law04_awake.spec  hl.1.1 | exact law04_awake.spec  hl.1.1 hp | exact law04_awake.spec  hl.1.1.1 | exact law04_awake.spec  hl.1.1.1 hp | exact law04_awake.spec  hl.1.2.1 | exact law04_awake.spec  hl.1.2.1 hp | exact law04_awake.spec  hl.2.1 | exact law04_awake.spec  hl.2.1 hp | exact law04_awake.spec  hl.2.1.1 | exact law04_awake.spec  hl.2.1.1 hp | exact law04_awake.spec  hl.2.1.1.1 | exact law04_awake.spec  hl.2.1.1.1 hp | exact law04_awake.spec  hl.2.2.1.1 (fun s hs => (hl.2.2.1.2 s hs).2.1)
noncomputable def κL11 : List (Nat × CX) := (14,.con law04_awake.con) :: κL10
theorem consL11 : ConsOk prog (fun n => findC n κL11) := cons_cons law04_awake.ok consL10
noncomputable def κ11 : ConTab := fun n => findC n κL11
theorem cons11 : ConsOk prog κ11 := consL11
def law04_SetTurns.A : An := .mk [] [] [] [] []
theorem law04_SetTurns.walk (x0 : PS.den (.d tS)) (x1 : PS.den (.d tI)) (x2 : PS.den (.d tI)) (x3 : PS.den (.d (.sl tI))) (Q : denL [.bool] → Prop) : law04_SetTurns.wp x0 x1 x2 x3 Q = fnW τ0 (walk τ0 κ11 φA) law04_SetTurns.A (fiOf Tryz.f12) [.d tS,.d tI,.d tI,.d (.sl tI)] [.bool] (x0,x1,x2,x3,()) Q := by kernel_rfl
theorem law04_SetTurns.calls (x0 : PS.den (.d tS)) (x1 : PS.den (.d tI)) (x2 : PS.den (.d tI)) (x3 : PS.den (.d (.sl tI))) {W : World} (hS : Sok prog W (stab W)) {args : Array Value} (hr : Reps prog (envOf W) (toVs [.d tS,.d tI,.d tI,.d (.sl tI)] (x0,x1,x2,x3,())) args.toList) : Calls prog 12 args W fun e w' => e = .returned (.bool true) ∧ RowKit.Below W.heap.size W w' :=
  law_calls tab0 (walk_ok tab0 cons11 φAok mixed) (fiOk Tryz.func12 (by kernel_rfl) (by kernel_rfl)) (law04_SetTurns.walk x0 x1 x2 x3 _) (law04_SetTurns.spec x0 x1 x2 x3) hS hr
end Go.Proofs.YtldikbpclaeajaaGreatDoor
