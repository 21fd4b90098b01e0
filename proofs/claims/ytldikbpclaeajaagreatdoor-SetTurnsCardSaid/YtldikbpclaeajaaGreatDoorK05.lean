/- Part of a proof that a law of the program holds for every input: printed by a program of this work: how the functions are walked. No conditions. -/
import Derived.Ground.FneProg
import Derived.Shelf.LaysM
import Derived.Test.YtldikbpclaeajaaGreatDoorP04
namespace Go.Proofs.YtldikbpclaeajaaGreatDoor
open Go Go.Proofs Go.Shelf
set_option linter.unusedSimpArgs false
def Zl:Go.Shelf.Ren:=⟨fun|176=>133|249=>154|288=>166|283=>172|284=>173|285=>174|286=>175|129=>151|317=>176|318=>177|319=>178|320=>179|337=>180|338=>181|n=>n,fun|37=>142|2=>2|3=>3|53=>144|4=>4|9=>9|171=>175|0=>0|173=>177|212=>180|51=>157|5=>5|20=>20|213=>181|46=>134|232=>182|233=>183|n=>n,fun|17=>0|18=>1|19=>2|n=>n⟩
theorem rB:Go.Proofs.LaysM.n176 Tryz.prog Zl where
 mixed:=by kernel_rfl
 f129:=Tryz.func151.trans (zX some (by kernel_rfl));f176:=Tryz.func133.trans (zX some (by kernel_rfl));f249:=Tryz.func154.trans (zX some (by kernel_rfl));f283:=Tryz.func172.trans (zX some (by kernel_rfl));f284:=Tryz.func173.trans (zX some (by kernel_rfl));f285:=Tryz.func174.trans (zX some (by kernel_rfl));f286:=Tryz.func175.trans (zX some (by kernel_rfl));f288:=Tryz.func166.trans (zX some (by kernel_rfl));f317:=Tryz.func176.trans (zX some (by kernel_rfl));f318:=Tryz.func177.trans (zX some (by kernel_rfl));f319:=Tryz.func178.trans (zX some (by kernel_rfl));f320:=Tryz.func179.trans (zX some (by kernel_rfl));f337:=Tryz.func180.trans (zX some (by kernel_rfl));f338:=Tryz.func181.trans (zX some (by kernel_rfl));t0:=Tryz.underlying0;a0:=Tryz.isAgg0;z0:=Tryz.sizeOf0;v0:=Tryz.zeroValue0;t2:=Tryz.underlying2;a2:=Tryz.isAgg2;z2:=Tryz.sizeOf2;v2:=Tryz.zeroValue2;t3:=Tryz.underlying3;a3:=Tryz.isAgg3;z3:=Tryz.sizeOf3;v3:=Tryz.zeroValue3;t4:=Tryz.underlying4;a4:=Tryz.isAgg4;z4:=Tryz.sizeOf4;v4:=Tryz.zeroValue4;t5:=Tryz.underlying5;a5:=Tryz.isAgg5;z5:=Tryz.sizeOf5;v5:=Tryz.zeroValue5;t9:=Tryz.underlying9;a9:=Tryz.isAgg9;z9:=Tryz.sizeOf9;v9:=Tryz.zeroValue9;t20:=Tryz.underlying20;a20:=Tryz.isAgg20;z20:=Tryz.sizeOf20;v20:=Tryz.zeroValue20;t37:=Tryz.underlying142;a37:=Tryz.isAgg142;z37:=Tryz.sizeOf142;v37:=Tryz.zeroValue142;t46:=Tryz.underlying134;a46:=Tryz.isAgg134;z46:=Tryz.sizeOf134;v46:=Tryz.zeroValue134;t51:=Tryz.underlying157;a51:=Tryz.isAgg157;z51:=Tryz.sizeOf157;v51:=Tryz.zeroValue157;t53:=Tryz.underlying144;a53:=Tryz.isAgg144;z53:=Tryz.sizeOf144;v53:=Tryz.zeroValue144;t171:=Tryz.underlying175;a171:=Tryz.isAgg175;z171:=Tryz.sizeOf175;v171:=Tryz.zeroValue175;t173:=Tryz.underlying177;a173:=Tryz.isAgg177;z173:=Tryz.sizeOf177;v173:=Tryz.zeroValue177;t212:=Tryz.underlying180;a212:=Tryz.isAgg180;z212:=Tryz.sizeOf180;v212:=Tryz.zeroValue180;t213:=Tryz.underlying181;a213:=Tryz.isAgg181;z213:=Tryz.sizeOf181;t232:=Tryz.underlying182;a232:=Tryz.isAgg182;z232:=Tryz.sizeOf182;v232:=Tryz.zeroValue182;t233:=Tryz.underlying183;a233:=Tryz.isAgg183;z233:=Tryz.sizeOf183;v233:=Tryz.zeroValue183;g17:=by kernel_rfl
 g18:=by kernel_rfl
 g19:=by kernel_rfl
 i0:=by kernel_rfl
 i2:=by kernel_rfl
 i3:=by kernel_rfl
 i4:=by kernel_rfl
 i5:=by kernel_rfl
 i9:=by kernel_rfl
 i20:=by kernel_rfl
 i37:=by kernel_rfl
 i46:=by kernel_rfl
 i51:=by kernel_rfl
 i53:=by kernel_rfl
 i171:=by kernel_rfl
 i173:=by kernel_rfl
 i212:=by kernel_rfl
 i232:=by kernel_rfl
 i233:=by kernel_rfl
 m17:=by kernel_rfl
 m18:=by kernel_rfl
 m19:=by kernel_rfl
theorem gC:Zl.f 176=133:=by kernel_rfl
theorem gB:Bz prog 133:=⟨Tryz.f133,Tryz.func133,by kernel_rfl,by kernel_rfl⟩
theorem WI{n m:Nat}{sp:Sp}(h:n=m)(hc:Bz prog m)(k:Bz prog n→Sp.Ok prog n sp):Sp.Ok prog m sp:=by subst h;exact k hc
theorem gF:Sp.Ok prog 133 .appInt:=WI gC gB (gE rB)
end Go.Proofs.YtldikbpclaeajaaGreatDoor
