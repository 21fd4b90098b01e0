/- Part of a proof that a law of the program holds for every input: printed by a program of this work: how the functions are walked. No conditions. -/
import Derived.Ground.Names2Prog
import Derived.Test.YtgpdnmfpgkkgcaaGreatDoorF09
namespace Go.Proofs.YtgpdnmfpgkkgcaaGreatDoor
open Go Go.Proofs Go.Shelf
set_option linter.unusedSimpArgs false
def oN:Go.Shelf.Ren:=⟨fun|15=>92|n=>n,fun|22=>36|3=>3|4=>4|n=>n,fun|n=>n⟩
theorem ZCN:Go.Proofs.Lays2.n15 Tryz.prog oN where
 mixed:=by kernel_rfl
 f15:=Tryz.func92.trans (ZGr some (by kernel_rfl));t3:=Tryz.underlying3;a3:=Tryz.isAgg3;z3:=Tryz.sizeOf3;v3:=Tryz.zeroValue3;t4:=Tryz.underlying4;a4:=Tryz.isAgg4;z4:=Tryz.sizeOf4;v4:=Tryz.zeroValue4;t22:=Tryz.underlying36;a22:=Tryz.isAgg36;z22:=Tryz.sizeOf36;v22:=Tryz.zeroValue36;i3:=by kernel_rfl
theorem yA:oN.f 15=92:=by kernel_rfl
theorem xZ:DK prog 92:=⟨Tryz.f92,Tryz.func92,by kernel_rfl,by kernel_rfl⟩
theorem yB:LC prog 92 WU:=rY yA xZ (yC ZCN)
def oO:Go.Shelf.Ren:=⟨fun|23=>100|n=>n,fun|22=>36|3=>3|4=>4|0=>0|n=>n,fun|n=>n⟩
theorem ZCO:Go.Proofs.Lays2.n23 Tryz.prog oO where
 mixed:=by kernel_rfl
 f23:=Tryz.func100.trans (ZGr some (by kernel_rfl));t0:=Tryz.underlying0;a0:=Tryz.isAgg0;z0:=Tryz.sizeOf0;v0:=Tryz.zeroValue0;t3:=Tryz.underlying3;a3:=Tryz.isAgg3;z3:=Tryz.sizeOf3;v3:=Tryz.zeroValue3;t4:=Tryz.underlying4;a4:=Tryz.isAgg4;z4:=Tryz.sizeOf4;v4:=Tryz.zeroValue4;t22:=Tryz.underlying36;a22:=Tryz.isAgg36;z22:=Tryz.sizeOf36;v22:=Tryz.zeroValue36;i3:=by kernel_rfl
theorem zG:oO.f 23=100:=by kernel_rfl
theorem zF:DK prog 100:=⟨Tryz.f100,Tryz.func100,by kernel_rfl,by kernel_rfl⟩
theorem zH:LC prog 100 ND:=rY zG zF (zJ ZCO)
noncomputable def κR:List (Nat×CX):=[(92,.row WU),(100,.row ND)]
theorem yT:BK prog λn=>B5 n κR:=fW yB (fW zH yU)
end Go.Proofs.YtgpdnmfpgkkgcaaGreatDoor
