/- Part of a proof that a law of the program holds for every input: printed by a program of this work: how the functions are walked. No conditions. -/
import Derived.Ground.FneProg
import Derived.Shelf.Lay
import Derived.Shelf.LaySoft
import Derived.Shelf.LaysM
import Derived.Test.YtgpdnmfpgkkgcaaGreatDoorP05
namespace Go.Proofs.YtgpdnmfpgkkgcaaGreatDoor
open Go Go.Proofs Go.Shelf
shelf_lay LaysM.n176 Nm 176 at Tryz as laysM176
theorem ZxH:laysM176_ren.f 176=115:=by kernel_rfl
theorem ZxJ:ZbE prog 115:=⟨Tryz.f115,Tryz.func115,by kernel_rfl,by kernel_rfl⟩
theorem Zxi{n m:Nat}{sp:Sp}(h:n=m)(hc:ZbE prog m)(k:ZbE prog n→Sp.Ok prog n sp):Sp.Ok prog m sp:=by subst h;exact k hc
theorem ZwV:Sp.Ok prog 115 .appInt:=Zxi ZxH ZxJ (Zqf laysM176)
end Go.Proofs.YtgpdnmfpgkkgcaaGreatDoor
