/- Part of a proof that a law of the program holds for every input: printed by a program of this work: how the functions are walked. No conditions. -/
import Derived.Ground.SlsfProg
import Derived.Shelf.LaySoft
import Derived.Shelf.SlLaysF0
import Derived.Test.YtgpdnmfpgkkgcaaGreatDoorP07
namespace Go.Proofs.YtgpdnmfpgkkgcaaGreatDoor
open Go Go.Proofs Go.Shelf
shelf_lay_g SlLaysF0.n6 Slsf 6 at Tryz 111 as laysF6
theorem Zyh:laysF6_ren.f 6=111:=by kernel_rfl
theorem Zyd:laysF6_ren.t 24=58:=by kernel_rfl
theorem Zyu:ZbT prog 111:=⟨Tryz.f111,Tryz.func111,by kernel_rfl,by kernel_rfl⟩
theorem Zyx(w:World):(isAgg (laysF6_ren.t 24)).run prog w=.ok true w:=by rw[Zyd];exact Tryz.isAgg58 w
theorem Zyt(w:World):(Go.sizeOf (laysF6_ren.t 24)).run prog w=.ok 4 w:=by rw[Zyd];exact Tryz.sizeOf58 w
end Go.Proofs.YtgpdnmfpgkkgcaaGreatDoor
