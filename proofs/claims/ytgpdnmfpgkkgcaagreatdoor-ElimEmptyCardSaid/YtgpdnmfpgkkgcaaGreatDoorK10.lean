/- Part of a proof that a law of the program holds for every input: printed by a program of this work: how the functions are walked. No conditions. -/
import Derived.Ground.Names2Prog
import Derived.Shelf.Lay
import Derived.Test.YtgpdnmfpgkkgcaaGreatDoorF09
namespace Go.Proofs.YtgpdnmfpgkkgcaaGreatDoor
open Go Go.Proofs Go.Shelf
shelf_lay Lays2.n15 Nm2 15 at Tryz as lays_cloneC
theorem ZuG:lays_cloneC_ren.f 15=92:=by kernel_rfl
theorem Zo8:ZbG prog 92:=⟨Tryz.f92,Tryz.func92,by kernel_rfl,by kernel_rfl⟩
theorem Zsm:ZkM prog 92 Zri:=ZwV ZuG Zo8 (Zto lays_cloneC)
shelf_lay Lays2.n23 Nm2 23 at Tryz as lays_deleteC
theorem Zsz:lays_deleteC_ren.f 23=100:=by kernel_rfl
theorem Znt:ZbG prog 100:=⟨Tryz.f100,Tryz.func100,by kernel_rfl,by kernel_rfl⟩
theorem Zq0:ZkM prog 100 Zfy:=ZwV Zsz Znt (Zqo lays_deleteC)
noncomputable def κR:List (Nat×CX):=[(92,.row Zri),(100,.row Zfy)]
theorem ZwE:Zay prog (fun n=>ZbU n κR):=ZoZ Zsm (ZoZ Zq0 (Ztl))
end Go.Proofs.YtgpdnmfpgkkgcaaGreatDoor
