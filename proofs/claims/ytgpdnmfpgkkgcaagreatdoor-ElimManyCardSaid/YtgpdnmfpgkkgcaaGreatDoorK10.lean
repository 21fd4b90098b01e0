/- Part of a proof that a law of the program holds for every input: printed by a program of this work: how the functions are walked. No conditions. -/
import Derived.Ground.Names2Prog
import Derived.Shelf.Lay
import Derived.Test.YtgpdnmfpgkkgcaaGreatDoorF09
namespace Go.Proofs.YtgpdnmfpgkkgcaaGreatDoor
open Go Go.Proofs Go.Shelf
shelf_lay Lays2.n15 Nm2 15 at Tryz as lays_cloneC
theorem Zuo:lays_cloneC_ren.f 15=92:=by kernel_rfl
theorem Zpo:ZbE prog 92:=⟨Tryz.f92,Tryz.func92,by kernel_rfl,by kernel_rfl⟩
theorem ZsZ:Zlp prog 92 Zsg:=Zxg Zuo Zpo (Zsp lays_cloneC)
shelf_lay Lays2.n23 Nm2 23 at Tryz as lays_deleteC
theorem ZsT:lays_deleteC_ren.f 23=100:=by kernel_rfl
theorem ZnU:ZbE prog 100:=⟨Tryz.f100,Tryz.func100,by kernel_rfl,by kernel_rfl⟩
theorem Zra:Zlp prog 100 ZfP:=Zxg ZsT ZnU (ZrY lays_deleteC)
noncomputable def κR:List (Nat×CX):=[(92,.row Zsg),(100,.row ZfP)]
theorem ZwS:Zad prog (fun n=>ZbW n κR):=ZoJ ZsZ (ZoJ Zra (Zto))
end Go.Proofs.YtgpdnmfpgkkgcaaGreatDoor
