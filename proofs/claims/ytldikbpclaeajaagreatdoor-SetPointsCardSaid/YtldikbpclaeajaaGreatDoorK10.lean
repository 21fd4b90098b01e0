/- Part of a proof that a law of the program holds for every input: printed by a program of this work: how the functions are walked. No conditions. -/
import Derived.Ground.Names2Prog
import Derived.Shelf.Lay
import Derived.Test.YtldikbpclaeajaaGreatDoorF09
namespace Go.Proofs.YtldikbpclaeajaaGreatDoor
open Go Go.Proofs Go.Shelf
shelf_lay Lays2.n23 Nm2 23 at Tryz as lays_deleteC
theorem deleteCF : lays_deleteC_ren.f 23 = 68 := by kernel_rfl
theorem deleteCCall : CallOk prog 68 := ⟨Tryz.f68,Tryz.func68,by kernel_rfl,by kernel_rfl⟩
theorem deleteCOk : RowOk prog 68 deleteC := rowE deleteCF deleteCCall (delete_ok lays_deleteC)
shelf_lay Lays2.n15 Nm2 15 at Tryz as lays_cloneC
theorem cloneCF : lays_cloneC_ren.f 15 = 69 := by kernel_rfl
theorem cloneCCall : CallOk prog 69 := ⟨Tryz.f69,Tryz.func69,by kernel_rfl,by kernel_rfl⟩
theorem cloneCOk : RowOk prog 69 cloneC := rowE cloneCF cloneCCall (clone_ok lays_cloneC)
noncomputable def κR : List (Nat × CX) := [(68,.row deleteC),(69,.row cloneC)]
theorem consR : ConsOk prog (fun n => findC n κR) := cons_row deleteCOk (cons_row cloneCOk (cons_nil))
end Go.Proofs.YtldikbpclaeajaaGreatDoor
