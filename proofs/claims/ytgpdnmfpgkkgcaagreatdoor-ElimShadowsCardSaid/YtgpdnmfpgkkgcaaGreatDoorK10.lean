/- Part of a proof that a law of the program holds for every input: printed by a program of this work: how the functions are walked. No conditions. -/
import Derived.Ground.Names2Prog
import Derived.Shelf.Lay
import Derived.Test.YtgpdnmfpgkkgcaaGreatDoorF09
namespace Go.Proofs.YtgpdnmfpgkkgcaaGreatDoor
open Go Go.Proofs Go.Shelf
shelf_lay Lays2.n15 Nm2 15 at Tryz as lays_cloneC
theorem Zui:lays_cloneC_ren.f 15=92:=by kernel_rfl
theorem Zpy:ZbD prog 92:=⟨Tryz.f92,Tryz.func92,by kernel_rfl,by kernel_rfl⟩
theorem ZsH:Zlo prog 92 ZrR:=ZwL Zui Zpy (ZsD lays_cloneC)
shelf_lay Lays2.n23 Nm2 23 at Tryz as lays_deleteC
theorem Zr5:lays_deleteC_ren.f 23=100:=by kernel_rfl
theorem ZnF:ZbD prog 100:=⟨Tryz.f100,Tryz.func100,by kernel_rfl,by kernel_rfl⟩
theorem Zrb:Zlo prog 100 Zfx:=ZwL Zr5 ZnF (Zru lays_deleteC)
noncomputable def κR:List (Nat×CX):=[(92,.row ZrR),(100,.row Zfx)]
theorem Zwj:Zau prog (fun n=>ZbT n κR):=Zoc ZsH (Zoc Zrb (Zte))
end Go.Proofs.YtgpdnmfpgkkgcaaGreatDoor
