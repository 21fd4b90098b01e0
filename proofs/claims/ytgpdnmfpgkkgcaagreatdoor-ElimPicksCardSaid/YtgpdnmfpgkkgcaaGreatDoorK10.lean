/- Part of a proof that a law of the program holds for every input: printed by a program of this work: how the functions are walked. No conditions. -/
import Derived.Ground.Names2Prog
import Derived.Shelf.Lay
import Derived.Test.YtgpdnmfpgkkgcaaGreatDoorF09
namespace Go.Proofs.YtgpdnmfpgkkgcaaGreatDoor
open Go Go.Proofs Go.Shelf
shelf_lay Lays2.n15 Nm2 15 at Tryz as lays_cloneC
theorem Zt0:lays_cloneC_ren.f 15=92:=by kernel_rfl
theorem ZoU:Zbp prog 92:=⟨Tryz.f92,Tryz.func92,by kernel_rfl,by kernel_rfl⟩
theorem Zrz:ZjF prog 92 ZpX:=Zv3 Zt0 ZoU (Zrq lays_cloneC)
shelf_lay Lays2.n23 Nm2 23 at Tryz as lays_deleteC
theorem ZrE:lays_deleteC_ren.f 23=100:=by kernel_rfl
theorem Zl3:Zbp prog 100:=⟨Tryz.f100,Tryz.func100,by kernel_rfl,by kernel_rfl⟩
theorem Zqk:ZjF prog 100 Ze6:=Zv3 ZrE Zl3 (Zps lays_deleteC)
noncomputable def κR:List (Nat×CX):=[(92,.row ZpX),(100,.row Ze6)]
theorem ZvD:Zag prog (fun n=>ZbF n κR):=ZnS Zrz (ZnS Zqk (Zsa))
end Go.Proofs.YtgpdnmfpgkkgcaaGreatDoor
