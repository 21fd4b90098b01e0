/- Part of a proof that a law of the program holds for every input: printed by a program of this work: how the functions are walked. No conditions. -/
import Derived.Ground.FneProg
import Derived.Shelf.Lay
import Derived.Shelf.LaySoft
import Derived.Shelf.LaysM
import Derived.Test.YtldikbpclaeajaaGreatDoorP05
namespace Go.Proofs.YtldikbpclaeajaaGreatDoor
open Go Go.Proofs Go.Shelf
shelf_lay LaysM.n176 Nm 176 at Tryz as laysM176
theorem appF : laysM176_ren.f 176 = 133 := by kernel_rfl
theorem appC : CallOk prog 133 := ⟨Tryz.f133,Tryz.func133,by kernel_rfl,by kernel_rfl⟩
theorem appE {n m : Nat} {sp : Sp} (h : n = m) (hc : CallOk prog m) (k : CallOk prog n → Sp.Ok prog n sp) : Sp.Ok prog m sp := by subst h;exact k hc
theorem appOk : Sp.Ok prog 133 .appInt := appE appF appC (appInt_ok laysM176)
end Go.Proofs.YtldikbpclaeajaaGreatDoor
