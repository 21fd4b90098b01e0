/- Part of a proof that a law of the program holds for every input: printed by a program of this work: how the functions are walked. No conditions. -/
import Derived.Ground.Names2Prog
import Derived.Shelf.Lay
import Derived.Test.YtldikbpclaeajaaGreatDoorF09
namespace Go.Proofs.YtldikbpclaeajaaGreatDoor
open Go Go.Proofs Go.Shelf
shelf_lay Lays2.n15 Nm2 15 at Tryz as lays_cloneC
theorem cloneCF : lays_cloneC_ren.f 15 = 69 := by kernel_rfl
theorem cloneCCall : CallOk prog 69 := ⟨Tryz.f69,Tryz.func69,by kernel_rfl,by kernel_rfl⟩
theorem cloneCOk : RowOk prog 69 cloneC := rowE cloneCF cloneCCall (clone_ok lays_cloneC)
shelf_lay Lays2.n21 Nm2 21 at Tryz as lays_insC
theorem insCF : lays_insC_ren.f 21 = 110 := by kernel_rfl
theorem insCCall : CallOk prog 110 := ⟨Tryz.f110,Tryz.func110,by kernel_rfl,by kernel_rfl⟩
theorem insCOk : InsOk prog 110 := insE insCF insCCall (ins_ok lays_insC)
noncomputable def κR : List (Nat × CX) := [(69,.row cloneC),(110,.ins)]
theorem consR : ConsOk prog (fun n => findC n κR) := cons_row cloneCOk (cons_ins insCOk (cons_nil))
end Go.Proofs.YtldikbpclaeajaaGreatDoor
