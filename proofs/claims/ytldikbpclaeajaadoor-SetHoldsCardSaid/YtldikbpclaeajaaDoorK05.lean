/- Part of a proof that a law of the program holds for every input: printed by a program of this work: how the functions are walked. No conditions. -/
import Derived.Ground.FneProg
import Derived.Shelf.LaysM
import Derived.Test.YtldikbpclaeajaaDoorP04
namespace Go.Proofs.YtldikbpclaeajaaDoor
open Go Go.Proofs Go.Shelf
set_option linter.unusedSimpArgs false
def Tw:Go.Shelf.Ren:=⟨fun|176=>63|249=>72|288=>87|283=>98|284=>99|285=>100|286=>101|129=>85|317=>107|318=>108|319=>109|320=>110|337=>111|338=>112|n=>n,fun|37=>92|2=>2|3=>3|53=>122|4=>4|9=>9|171=>135|0=>0|173=>137|212=>148|51=>120|5=>5|20=>20|213=>149|46=>105|232=>150|233=>151|n=>n,fun|17=>0|18=>1|19=>2|n=>n⟩
theorem ZK:Go.Proofs.LaysM.n176 Tryd.prog Tw where
 mixed:=by kernel_rfl
 f129:=Tryd.func85.trans (eR some (by kernel_rfl));f176:=Tryd.func63.trans (eR some (by kernel_rfl));f249:=Tryd.func72.trans (eR some (by kernel_rfl));f283:=Tryd.func98.trans (eR some (by kernel_rfl));f284:=Tryd.func99.trans (eR some (by kernel_rfl));f285:=Tryd.func100.trans (eR some (by kernel_rfl));f286:=Tryd.func101.trans (eR some (by kernel_rfl));f288:=Tryd.func87.trans (eR some (by kernel_rfl));f317:=Tryd.func107.trans (eR some (by kernel_rfl));f318:=Tryd.func108.trans (eR some (by kernel_rfl));f319:=Tryd.func109.trans (eR some (by kernel_rfl));f320:=Tryd.func110.trans (eR some (by kernel_rfl));f337:=Tryd.func111.trans (eR some (by kernel_rfl));f338:=Tryd.func112.trans (eR some (by kernel_rfl));t0:=Tryd.underlying0;a0:=Tryd.isAgg0;z0:=Tryd.sizeOf0;v0:=Tryd.zeroValue0;t2:=Tryd.underlying2;a2:=Tryd.isAgg2;z2:=Tryd.sizeOf2;v2:=Tryd.zeroValue2;t3:=Tryd.underlying3;a3:=Tryd.isAgg3;z3:=Tryd.sizeOf3;v3:=Tryd.zeroValue3;t4:=Tryd.underlying4;a4:=Tryd.isAgg4;z4:=Tryd.sizeOf4;v4:=Tryd.zeroValue4;t5:=Tryd.underlying5;a5:=Tryd.isAgg5;z5:=Tryd.sizeOf5;v5:=Tryd.zeroValue5;t9:=Tryd.underlying9;a9:=Tryd.isAgg9;z9:=Tryd.sizeOf9;v9:=Tryd.zeroValue9;t20:=Tryd.underlying20;a20:=Tryd.isAgg20;z20:=Tryd.sizeOf20;v20:=Tryd.zeroValue20;t37:=Tryd.underlying92;a37:=Tryd.isAgg92;z37:=Tryd.sizeOf92;v37:=Tryd.zeroValue92;t46:=Tryd.underlying105;a46:=Tryd.isAgg105;z46:=Tryd.sizeOf105;v46:=Tryd.zeroValue105;t51:=Tryd.underlying120;a51:=Tryd.isAgg120;z51:=Tryd.sizeOf120;v51:=Tryd.zeroValue120;t53:=Tryd.underlying122;a53:=Tryd.isAgg122;z53:=Tryd.sizeOf122;v53:=Tryd.zeroValue122;t171:=Tryd.underlying135;a171:=Tryd.isAgg135;z171:=Tryd.sizeOf135;v171:=Tryd.zeroValue135;t173:=Tryd.underlying137;a173:=Tryd.isAgg137;z173:=Tryd.sizeOf137;v173:=Tryd.zeroValue137;t212:=Tryd.underlying148;a212:=Tryd.isAgg148;z212:=Tryd.sizeOf148;v212:=Tryd.zeroValue148;t213:=Tryd.underlying149;a213:=Tryd.isAgg149;z213:=Tryd.sizeOf149;t232:=Tryd.underlying150;a232:=Tryd.isAgg150;z232:=Tryd.sizeOf150;v232:=Tryd.zeroValue150;t233:=Tryd.underlying151;a233:=Tryd.isAgg151;z233:=Tryd.sizeOf151;v233:=Tryd.zeroValue151;g17:=by kernel_rfl
 g18:=by kernel_rfl
 g19:=by kernel_rfl
 i0:=by kernel_rfl
 i2:=by kernel_rfl
 i3:=by kernel_rfl
 i4:=by kernel_rfl
 i5:=by kernel_rfl
 i9:=by kernel_rfl
 i20:=by kernel_rfl
 i37:=by kernel_rfl
 i46:=by kernel_rfl
 i51:=by kernel_rfl
 i53:=by kernel_rfl
 i171:=by kernel_rfl
 i173:=by kernel_rfl
 i212:=by kernel_rfl
 i232:=by kernel_rfl
 i233:=by kernel_rfl
 m17:=by kernel_rfl
 m18:=by kernel_rfl
 m19:=by kernel_rfl
theorem Vq:Tw.f 176=63:=by kernel_rfl
theorem Vp:Bu prog 63:=⟨Tryd.f63,Tryd.func63,by kernel_rfl,by kernel_rfl⟩
theorem Qk{n m:Nat}{sp:Sp}(h:n=m)(hc:Bu prog m)(k:Bu prog n→Sp.Ok prog n sp):Sp.Ok prog m sp:=by subst h;exact k hc
theorem Vt:Sp.Ok prog 63 .appInt:=Qk Vq Vp (Vs ZK)
end Go.Proofs.YtldikbpclaeajaaDoor
