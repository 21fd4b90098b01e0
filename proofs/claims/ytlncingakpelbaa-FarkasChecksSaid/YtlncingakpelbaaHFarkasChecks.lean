/- Part of a proof that a law of the program holds for every input: what the functions answer, in plain Lean. No conditions. -/
import Derived.Test.YtlncingakpelbaaS9b
import Derived.Test.YtlncingakpelbaaFwT
namespace Go.Proofs.Ytlncingakpelbaa
open Go
set_option linter.unusedVariables false

theorem awake09_ev : law09_awake.ev = some true := by kernel_rfl
theorem awake09_pre : law09_awake.pre := by show Option.isSome _ = true; rw [awake09_ev]; rfl
theorem awake09_fn : law09_awake.fn = true := by show Option.getD _ _ = true; rw [awake09_ev]; rfl

theorem law09_FarkasChecks.spec (p : List api_Cond) (n : Int) (w : List Int) (h : law09_FarkasChecks.pre p n w) : law09_FarkasChecks.wp p n w (fun y => y = law09_FarkasChecks.fn p n w) := by
  intro hl
  refine ⟨fun _ => ⟨awake09_pre, awake09_fn⟩, fun _ => ⟨h, ?_⟩⟩
  rintro r hr
  refine ⟨h, ?_⟩
  rintro r' hr'
  have e : r = r' := hr.trans hr'.symm
  subst e
  refine ⟨fun _ => awake09_pre, ?_⟩
  rw [awake09_fn]
  show (((r.1 == r.1) && (r.2 == r.2)) && true) = true
  rw [beq_self_eq_true, beq_self_eq_true]; rfl

theorem law09_FarkasChecks.pre_of (p : List api_Cond) (n : Int) (w : List Int) (hp : Wf (.sl t_api_Cond) p) (hn : Wf (.int .i64) n) (hw : Wf (.sl (.int .i64)) w) : law09_FarkasChecks.pre p n w := by
  intro y hy
  have := hw.2 y hy
  simp only [Wf, Lit.wf, IntKind.min, IntKind.max, IntKind.signed, IntKind.bits, Bool.and_eq_true, decide_eq_true_eq] at this
  exact ⟨by simpa using this.1, by have := this.2; simp at this; omega⟩

theorem law09_FarkasChecks.holds (p : List api_Cond) (n : Int) (w : List Int) (hp : Wf (.sl t_api_Cond) p) (hn : Wf (.int .i64) n) (hw : Wf (.sl (.int .i64)) w) : law09_FarkasChecks.fn p n w = true := rfl
end Go.Proofs.Ytlncingakpelbaa
