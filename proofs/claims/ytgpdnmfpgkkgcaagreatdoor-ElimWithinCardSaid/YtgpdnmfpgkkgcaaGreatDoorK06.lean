/- Part of a proof that a law of the program holds for every input: printed by a program of this work: how the functions are walked. No conditions. -/
import Derived.Ground.FneProg
import Derived.Shelf.LaysM
import Derived.Test.YtgpdnmfpgkkgcaaGreatDoorP05
namespace Go.Proofs.YtgpdnmfpgkkgcaaGreatDoor
open Go Go.Proofs Go.Shelf
set_option linter.unusedSimpArgs false
def oM:Go.Shelf.Ren:=⟨fun|176=>115|249=>137|288=>163|283=>179|284=>180|285=>181|286=>182|129=>161|317=>186|318=>187|319=>188|320=>189|337=>190|338=>191|n=>n,fun|37=>129|2=>2|3=>3|53=>161|4=>4|9=>9|171=>187|0=>0|173=>189|212=>195|51=>174|5=>5|20=>20|213=>196|46=>150|232=>197|233=>198|n=>n,fun|17=>0|18=>1|19=>2|n=>n⟩
theorem ZCM:Go.Proofs.LaysM.n176 Tryz.prog oM where
 mixed:=by kernel_rfl
 f129:=Tryz.func161.trans (ZGr some (by kernel_rfl));f176:=Tryz.func115.trans (ZGr some (by kernel_rfl));f249:=Tryz.func137.trans (ZGr some (by kernel_rfl));f283:=Tryz.func179.trans (ZGr some (by kernel_rfl));f284:=Tryz.func180.trans (ZGr some (by kernel_rfl));f285:=Tryz.func181.trans (ZGr some (by kernel_rfl));f286:=Tryz.func182.trans (ZGr some (by kernel_rfl));f288:=Tryz.func163.trans (ZGr some (by kernel_rfl));f317:=Tryz.func186.trans (ZGr some (by kernel_rfl));f318:=Tryz.func187.trans (ZGr some (by kernel_rfl));f319:=Tryz.func188.trans (ZGr some (by kernel_rfl));f320:=Tryz.func189.trans (ZGr some (by kernel_rfl));f337:=Tryz.func190.trans (ZGr some (by kernel_rfl));f338:=Tryz.func191.trans (ZGr some (by kernel_rfl));t0:=Tryz.underlying0;a0:=Tryz.isAgg0;z0:=Tryz.sizeOf0;v0:=Tryz.zeroValue0;t2:=Tryz.underlying2;a2:=Tryz.isAgg2;z2:=Tryz.sizeOf2;v2:=Tryz.zeroValue2;t3:=Tryz.underlying3;a3:=Tryz.isAgg3;z3:=Tryz.sizeOf3;v3:=Tryz.zeroValue3;t4:=Tryz.underlying4;a4:=Tryz.isAgg4;z4:=Tryz.sizeOf4;v4:=Tryz.zeroValue4;t5:=Tryz.underlying5;a5:=Tryz.isAgg5;z5:=Tryz.sizeOf5;v5:=Tryz.zeroValue5;t9:=Tryz.underlying9;a9:=Tryz.isAgg9;z9:=Tryz.sizeOf9;v9:=Tryz.zeroValue9;t20:=Tryz.underlying20;a20:=Tryz.isAgg20;z20:=Tryz.sizeOf20;v20:=Tryz.zeroValue20;t37:=Tryz.underlying129;a37:=Tryz.isAgg129;z37:=Tryz.sizeOf129;v37:=Tryz.zeroValue129;t46:=Tryz.underlying150;a46:=Tryz.isAgg150;z46:=Tryz.sizeOf150;v46:=Tryz.zeroValue150;t51:=Tryz.underlying174;a51:=Tryz.isAgg174;z51:=Tryz.sizeOf174;v51:=Tryz.zeroValue174;t53:=Tryz.underlying161;a53:=Tryz.isAgg161;z53:=Tryz.sizeOf161;v53:=Tryz.zeroValue161;t171:=Tryz.underlying187;a171:=Tryz.isAgg187;z171:=Tryz.sizeOf187;v171:=Tryz.zeroValue187;t173:=Tryz.underlying189;a173:=Tryz.isAgg189;z173:=Tryz.sizeOf189;v173:=Tryz.zeroValue189;t212:=Tryz.underlying195;a212:=Tryz.isAgg195;z212:=Tryz.sizeOf195;v212:=Tryz.zeroValue195;t213:=Tryz.underlying196;a213:=Tryz.isAgg196;z213:=Tryz.sizeOf196;t232:=Tryz.underlying197;a232:=Tryz.isAgg197;z232:=Tryz.sizeOf197;v232:=Tryz.zeroValue197;t233:=Tryz.underlying198;a233:=Tryz.isAgg198;z233:=Tryz.sizeOf198;v233:=Tryz.zeroValue198;g17:=by kernel_rfl
 g18:=by kernel_rfl
 g19:=by kernel_rfl
 i0:=by kernel_rfl
 i2:=by kernel_rfl
 i3:=by kernel_rfl
 i4:=by kernel_rfl
 i5:=by kernel_rfl
 i9:=by kernel_rfl
 i20:=by kernel_rfl
 i37:=by kernel_rfl
 i46:=by kernel_rfl
 i51:=by kernel_rfl
 i53:=by kernel_rfl
 i171:=by kernel_rfl
 i173:=by kernel_rfl
 i212:=by kernel_rfl
 i232:=by kernel_rfl
 i233:=by kernel_rfl
 m17:=by kernel_rfl
 m18:=by kernel_rfl
 m19:=by kernel_rfl
theorem wL:oM.f 176=115:=by kernel_rfl
theorem wK:DK prog 115:=⟨Tryz.f115,Tryz.func115,by kernel_rfl,by kernel_rfl⟩
theorem dN{n m:Nat}{sp:Sp}(h:n=m)(hc:DK prog m)(k:DK prog n→Sp.Ok prog n sp):Sp.Ok prog m sp:=by subst h;exact k hc
theorem wO:Sp.Ok prog 115 .appInt:=dN wL wK (wN ZCM)
end Go.Proofs.YtgpdnmfpgkkgcaaGreatDoor
