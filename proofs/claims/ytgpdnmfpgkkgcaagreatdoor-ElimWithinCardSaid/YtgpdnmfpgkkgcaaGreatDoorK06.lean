/- Part of a proof that a law of the program holds for every input: printed by a program of this work: how the functions are walked. No conditions. -/
import Derived.Ground.FneProg
import Derived.Shelf.Lay
import Derived.Shelf.LaySoft
import Derived.Shelf.LaysM
import Derived.Test.YtgpdnmfpgkkgcaaGreatDoorP05
namespace Go.Proofs.YtgpdnmfpgkkgcaaGreatDoor
open Go Go.Proofs Go.Shelf
shelf_lay LaysM.n176 Nm 176 at Tryz as laysM176
theorem Zyv:laysM176_ren.f 176=115:=by kernel_rfl
theorem Zyy:ZbT prog 115:=⟨Tryz.f115,Tryz.func115,by kernel_rfl,by kernel_rfl⟩
theorem Zx6{n m:Nat}{sp:Sp}(h:n=m)(hc:ZbT prog m)(k:ZbT prog n→Sp.Ok prog n sp):Sp.Ok prog m sp:=by subst h;exact k hc
theorem Zxs:Sp.Ok prog 115 .appInt:=Zx6 Zyv Zyy (ZsU laysM176)
end Go.Proofs.YtgpdnmfpgkkgcaaGreatDoor
