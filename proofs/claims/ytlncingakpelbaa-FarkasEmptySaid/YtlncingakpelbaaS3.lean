/- Part of a proof that a law of the program holds for every input: which conditions are valid, in plain Lean. No conditions. -/
import Derived.Test.YtlncingakpelbaaS
namespace Go.Proofs.Ytlncingakpelbaa
open Go
set_option linter.unusedVariables false

theorem ref01_Fits.spec (a : Int) : ref01_Fits.wp a (fun x => x = ref01_Fits.fn a) := rfl
theorem ref02_Valid.spec (l : api_Lin) : ref02_Valid.wp l (fun x => x = ref02_Valid.fn l) := by
  intro hl
  refine scan_wp ref01_Fits.fn 0 l.1 hl _ _ (fun h => ?_) (fun h => ?_)
  · have h : l.1.all num_Fits.fn = false := h
    simp [ref02_Valid.fn, lin_Valid.fn, h]
  · have h : l.1.all num_Fits.fn = true := h
    simp [ref02_Valid.fn, lin_Valid.fn, h, ref01_Fits.fn]
theorem ref03_Valid.spec (c : api_Cond) : ref03_Valid.wp c (fun x => x = ref03_Valid.fn c) := by
  unfold ref03_Valid.wp ref03_Valid.fn cond_Valid.fn ref02_Valid.fn
  refine ⟨fun h => ?_, fun h => ⟨fun h2 => ?_, fun h2 => ?_⟩⟩
  · simp [h]
  · simp [h, h2]
  · simp only [h, h2, Bool.and_true, if_false]
    by_cases h3 : c.1 = 0 ∨ c.1 = 1
    · rw [if_pos h3]; rcases h3 with h3 | h3 <;> simp [h3]
    · rw [if_neg h3]
      simp only [not_or] at h3
      simp [h3.1, h3.2]

end Go.Proofs.Ytlncingakpelbaa
