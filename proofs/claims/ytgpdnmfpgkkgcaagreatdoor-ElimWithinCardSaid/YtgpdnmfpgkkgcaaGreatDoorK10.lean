/- Part of a proof that a law of the program holds for every input: printed by a program of this work: how the functions are walked. No conditions. -/
import Derived.Ground.Names2Prog
import Derived.Shelf.Lay
import Derived.Test.YtgpdnmfpgkkgcaaGreatDoorF09
namespace Go.Proofs.YtgpdnmfpgkkgcaaGreatDoor
open Go Go.Proofs Go.Shelf
shelf_lay Lays2.n15 Nm2 15 at Tryz as lays_cloneC
theorem ZvR:lays_cloneC_ren.f 15=92:=by kernel_rfl
theorem Zqt:ZbT prog 92:=⟨Tryz.f92,Tryz.func92,by kernel_rfl,by kernel_rfl⟩
theorem Ztf:Zlk prog 92 Zra:=Zyc ZvR Zqt (ZtS lays_cloneC)
shelf_lay Lays2.n23 Nm2 23 at Tryz as lays_deleteC
theorem Ztw:lays_deleteC_ren.f 23=100:=by kernel_rfl
theorem Zot:ZbT prog 100:=⟨Tryz.f100,Tryz.func100,by kernel_rfl,by kernel_rfl⟩
theorem Zq9:Zlk prog 100 Zf3:=Zyc Ztw Zot (ZrU lays_deleteC)
noncomputable def κR:List (Nat×CX):=[(92,.row Zra),(100,.row Zf3)]
theorem Zxv:Zak prog (fun n=>Zb7 n κR):=ZpM Ztf (ZpM Zq9 (Zt4))
end Go.Proofs.YtgpdnmfpgkkgcaaGreatDoor
