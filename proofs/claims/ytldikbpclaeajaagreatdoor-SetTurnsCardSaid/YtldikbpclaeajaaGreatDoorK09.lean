/- Part of a proof that a law of the program holds for every input: printed by a program of this work: how the functions are walked. No conditions. -/
import Derived.Ground.Names2Prog
import Derived.Test.YtldikbpclaeajaaGreatDoorF08
namespace Go.Proofs.YtldikbpclaeajaaGreatDoor
open Go Go.Proofs Go.Shelf
set_option linter.unusedSimpArgs false
def Zn:Go.Shelf.Ren:=⟨fun|23=>68|n=>n,fun|22=>45|3=>3|4=>4|0=>0|n=>n,fun|n=>n⟩
theorem rD:Go.Proofs.Lays2.n23 Tryz.prog Zn where
 mixed:=by kernel_rfl
 f23:=Tryz.func68.trans (zX some (by kernel_rfl));t0:=Tryz.underlying0;a0:=Tryz.isAgg0;z0:=Tryz.sizeOf0;v0:=Tryz.zeroValue0;t3:=Tryz.underlying3;a3:=Tryz.isAgg3;z3:=Tryz.sizeOf3;v3:=Tryz.zeroValue3;t4:=Tryz.underlying4;a4:=Tryz.isAgg4;z4:=Tryz.sizeOf4;v4:=Tryz.zeroValue4;t22:=Tryz.underlying45;a22:=Tryz.isAgg45;z22:=Tryz.sizeOf45;v22:=Tryz.zeroValue45;i3:=by kernel_rfl
theorem iY:Zn.f 23=68:=by kernel_rfl
theorem iX:Bz prog 68:=⟨Tryz.f68,Tryz.func68,by kernel_rfl,by kernel_rfl⟩
theorem iZ:Ij prog 68 KF:=bU iY iX (jB rD)
def Zm:Go.Shelf.Ren:=⟨fun|15=>69|n=>n,fun|22=>45|3=>3|4=>4|n=>n,fun|n=>n⟩
theorem rC:Go.Proofs.Lays2.n15 Tryz.prog Zm where
 mixed:=by kernel_rfl
 f15:=Tryz.func69.trans (zX some (by kernel_rfl));t3:=Tryz.underlying3;a3:=Tryz.isAgg3;z3:=Tryz.sizeOf3;v3:=Tryz.zeroValue3;t4:=Tryz.underlying4;a4:=Tryz.isAgg4;z4:=Tryz.sizeOf4;v4:=Tryz.zeroValue4;t22:=Tryz.underlying45;a22:=Tryz.isAgg45;z22:=Tryz.sizeOf45;v22:=Tryz.zeroValue45;i3:=by kernel_rfl
theorem hJ:Zm.f 15=69:=by kernel_rfl
theorem gZ:Bz prog 69:=⟨Tryz.f69,Tryz.func69,by kernel_rfl,by kernel_rfl⟩
theorem hN:Ij prog 69 Rx:=bU hJ gZ (hU rC)
def Zo:Go.Shelf.Ren:=⟨fun|21=>110|27=>131|28=>132|35=>153|39=>165|n=>n,fun|22=>45|3=>3|4=>4|0=>0|n=>n,fun|n=>n⟩
theorem rE:Go.Proofs.Lays2.n21 Tryz.prog Zo where
 mixed:=by kernel_rfl
 f21:=Tryz.func110.trans (zX some (by kernel_rfl));f27:=Tryz.func131.trans (zX some (by kernel_rfl));f28:=Tryz.func132.trans (zX some (by kernel_rfl));f35:=Tryz.func153.trans (zX some (by kernel_rfl));f39:=Tryz.func165.trans (zX some (by kernel_rfl));t0:=Tryz.underlying0;a0:=Tryz.isAgg0;z0:=Tryz.sizeOf0;v0:=Tryz.zeroValue0;t3:=Tryz.underlying3;a3:=Tryz.isAgg3;z3:=Tryz.sizeOf3;v3:=Tryz.zeroValue3;t4:=Tryz.underlying4;a4:=Tryz.isAgg4;z4:=Tryz.sizeOf4;v4:=Tryz.zeroValue4;t22:=Tryz.underlying45;a22:=Tryz.isAgg45;z22:=Tryz.sizeOf45;v22:=Tryz.zeroValue45;i3:=by kernel_rfl
theorem qL:Zo.f 21=110:=by kernel_rfl
theorem qK:Bz prog 110:=⟨Tryz.f110,Tryz.func110,by kernel_rfl,by kernel_rfl⟩
theorem qM:J0 prog 110:=qN qL qK (qQ rE)
noncomputable def κR:List (Nat×CX):=[(68,.row KF),(69,.row Rx),(110,.ins)]
theorem iO:A3 prog λn=>Bp n κR:=W7 iZ (W7 hN (iP qM iQ))
end Go.Proofs.YtldikbpclaeajaaGreatDoor
