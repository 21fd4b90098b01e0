/- Part of a proof that a law of the program holds for every input: printed by a program of this work: how the functions are walked. No conditions. -/
import Derived.Ground.SlsfProg
import Derived.Shelf.LaySoft
import Derived.Shelf.SlLaysF0
import Derived.Test.YtldikbpclaeajaaDoorP07
namespace Go.Proofs.YtldikbpclaeajaaDoor
open Go Go.Proofs Go.Shelf
shelf_lay_g SlLaysF0.n6 Slsf 6 at Tryd 54 as laysF6
theorem srtF : laysF6_ren.f 6 = 54 := by kernel_rfl
theorem srtT : laysF6_ren.t 24 = 40 := by kernel_rfl
theorem srtC : CallOk prog 54 := ⟨Tryd.f54,Tryd.func54,by kernel_rfl,by kernel_rfl⟩
theorem srtA (w : World) : (isAgg (laysF6_ren.t 24)).run prog w = .ok true w := by rw [srtT];exact Tryd.isAgg40 w
theorem srtZ (w : World) : (Go.sizeOf (laysF6_ren.t 24)).run prog w = .ok 4 w := by rw [srtT];exact Tryd.sizeOf40 w
end Go.Proofs.YtldikbpclaeajaaDoor
