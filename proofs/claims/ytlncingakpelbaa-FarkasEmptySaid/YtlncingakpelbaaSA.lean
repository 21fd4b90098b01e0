/- Part of a proof that a law of the program holds for every input: what the law answers, in plain Lean. No conditions. -/
import Derived.Test.YtlncingakpelbaaES
import Derived.Test.YtlncingakpelbaaFwT
namespace Go.Proofs.Ytlncingakpelbaa
open Go
set_option linter.unusedVariables false

theorem awake09_ev : law09_awake.ev = some true := by kernel_rfl
theorem awake09_pre : law09_awake.pre := by show Option.isSome _ = true; rw [awake09_ev]; rfl
theorem awake09_fn : law09_awake.fn = true := by show Option.getD _ _ = true; rw [awake09_ev]; rfl
end Go.Proofs.Ytlncingakpelbaa
