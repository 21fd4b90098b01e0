/- Part of a proof that a law of the program holds for every input: what the functions answer, in plain Lean. No conditions. -/
import Derived.Test.YtlncingakpelbaaS
import Derived.Test.YtlncingakpelbaaFwT
namespace Go.Proofs.Ytlncingakpelbaa
open Go
set_option linter.unusedVariables false

theorem awake09_ev : law09_awake.ev = some true := by kernel_rfl
theorem awake09_pre : law09_awake.pre := by show Option.isSome _ = true; rw [awake09_ev]; rfl
theorem awake09_fn : law09_awake.fn = true := by show Option.getD _ _ = true; rw [awake09_ev]; rfl

theorem law09_FarkasRefuted.spec (p : List api_Cond) (n : Int) (w x : List Int) (h : law09_FarkasRefuted.pre p n w x) : law09_FarkasRefuted.wp p n w x (fun y => y = law09_FarkasRefuted.fn p n w x) := by
  intro hl
  refine ⟨fun _ => ⟨awake09_pre, awake09_fn⟩, fun _ => ⟨h, ?_⟩⟩
  rintro r hr
  refine ⟨fun _ => ⟨awake09_pre, awake09_fn⟩, fun hg => ?_⟩
  simp only [Bool.or_eq_false_iff, bne_eq_false_iff_eq, Bool.not_eq_false'] at hg
  obtain ⟨⟨⟨h1, h2⟩, h3⟩, h4⟩ := hg
  have hc : farkas_Check.fn p n w = (true, 0) := by rw [← hr]; exact Prod.ext h2 h1
  have ha : farkas_asked.fn p n = 0 := by
    unfold farkas_Check.fn at hc
    split at hc
    · simp at hc
    · rename_i he; simpa using he
  obtain ⟨hn, h96, hv⟩ := asked_ok ha
  refine ⟨fun c hcm => ⟨(hv c hcm).1, ?_, h4⟩, fun _ => awake09_pre, ?_⟩
  · have := (hv c hcm).2; omega
  · rw [awake09_fn]
    cases hin : ref04_In.fn p x with
    | false => rfl
    | true => exact (no_point hc h3 hin).elim

theorem law09_FarkasRefuted.pre_of (p : List api_Cond) (n : Int) (w x : List Int) (hp : Wf (.sl t_api_Cond) p) (hn : Wf (.int .i64) n) (hw : Wf (.sl (.int .i64)) w) (hx : Wf (.sl (.int .i64)) x) : law09_FarkasRefuted.pre p n w x := by
  intro y hy
  have := hw.2 y hy
  simp only [Wf, Lit.wf, IntKind.min, IntKind.max, IntKind.signed, IntKind.bits, Bool.and_eq_true, decide_eq_true_eq] at this
  exact ⟨by simpa using this.1, by have := this.2; simp at this; omega⟩

theorem law09_FarkasRefuted.holds (p : List api_Cond) (n : Int) (w x : List Int) (hp : Wf (.sl t_api_Cond) p) (hn : Wf (.int .i64) n) (hw : Wf (.sl (.int .i64)) w) (hx : Wf (.sl (.int .i64)) x) : law09_FarkasRefuted.fn p n w x = true := rfl
end Go.Proofs.Ytlncingakpelbaa
