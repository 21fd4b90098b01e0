/- Part of a proof that a law of the program holds for every input: printed by a program of this work: how the functions are walked. No conditions. -/
import Derived.Ground.SlsfProg
import Derived.Shelf.LaySoft
import Derived.Shelf.SlLaysF0
import Derived.Test.YtldikbpclaeajaaGreatDoorP07
namespace Go.Proofs.YtldikbpclaeajaaGreatDoor
open Go Go.Proofs Go.Shelf
shelf_lay_g SlLaysF0.n6 Slsf 6 at Tryz 98 as laysF6
theorem srtF : laysF6_ren.f 6 = 98 := by kernel_rfl
theorem srtT : laysF6_ren.t 24 = 57 := by kernel_rfl
theorem srtC : CallOk prog 98 := ⟨Tryz.f98,Tryz.func98,by kernel_rfl,by kernel_rfl⟩
theorem srtA (w : World) : (isAgg (laysF6_ren.t 24)).run prog w = .ok true w := by rw [srtT];exact Tryz.isAgg57 w
theorem srtZ (w : World) : (Go.sizeOf (laysF6_ren.t 24)).run prog w = .ok 4 w := by rw [srtT];exact Tryz.sizeOf57 w
end Go.Proofs.YtldikbpclaeajaaGreatDoor
