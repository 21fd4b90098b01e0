/- Part of a proof that a law of the program holds for every input: what the functions answer, in plain Lean. No conditions. -/
import Derived.Test.YtlncingakpelbaaES
import Derived.Test.YtlncingakpelbaaSH
namespace Go.Proofs.Ytlncingakpelbaa
open Go
set_option linter.unusedVariables false

theorem slices_Clone_Sint_int.spec (a1 : List Int) (h : slices_Clone_Sint_int.pre a1) : slices_Clone_Sint_int.wp a1 (fun x => x = slices_Clone_Sint_int.fn a1) := by
  intro b1 hb
  have h' : a1.length * 8 ≤ 140737488355328 := h
  refine ⟨fun h1 => (hb h1).symm, fun _ => ⟨⟨?_, ?_⟩, rfl⟩⟩
  · simpa using h'
  · simp; omega

theorem num_Fits.spec (a : Int) : num_Fits.wp a (fun x => x = num_Fits.fn a) := rfl
theorem farkas_asked_1.spec (c : api_Cond) : farkas_asked_1.wp c (fun x => x = farkas_asked_1.fn c) := rfl
theorem farkas_asked_2.spec (c : api_Cond) (n : Int) : farkas_asked_2.wp c n (fun x => x = farkas_asked_2.fn c n) := rfl
theorem lin_Valid.spec (l : api_Lin) : lin_Valid.wp l (fun x => x = lin_Valid.fn l) := by
  intro hl
  refine scan_wp num_Fits.fn 0 l.1 hl _ _ (fun h => ?_) (fun h => ?_)
  · simp [lin_Valid.fn, h]
  · simp [lin_Valid.fn, h]

theorem cond_Valid.spec (c : api_Cond) : cond_Valid.wp c (fun x => x = cond_Valid.fn c) := by
  refine ⟨fun x => x = decide (c.1 = 0 ∨ c.1 = 1), ⟨fun h => ?_, fun h => ?_⟩, ?_⟩
  · simp [h]
  · simp [h]; rfl
  · rintro x rfl
    unfold cond_Valid.fn
    refine ⟨fun h => ?_, fun h => ⟨fun h2 => ?_, fun h2 => ?_⟩⟩
    · rw [if_pos (by simpa using h)]
    · rw [if_neg (by simpa using h), if_pos h2]
    · rw [if_neg (by simpa using h), if_neg h2]

theorem slices_IndexFunc_Sapi_Cond_api_Cond__farkas_asked_1.spec (l : List api_Cond) : slices_IndexFunc_Sapi_Cond_api_Cond__farkas_asked_1.wp l (fun x => x = slices_IndexFunc_Sapi_Cond_api_Cond__farkas_asked_1.fn l) :=
  fun hl => idx_wp farkas_asked_1.fn d_api_Cond l hl _ rfl
theorem slices_IndexFunc_Sapi_Cond_api_Cond__farkas_asked_2.spec (l : List api_Cond) (n : Int) : slices_IndexFunc_Sapi_Cond_api_Cond__farkas_asked_2.wp l n (fun x => x = slices_IndexFunc_Sapi_Cond_api_Cond__farkas_asked_2.fn l n) :=
  fun hl => idx_wp (fun c => farkas_asked_2.fn c n) d_api_Cond l hl _ rfl
theorem slices_ContainsFunc_Sapi_Cond_api_Cond__farkas_asked_1.spec (l : List api_Cond) : slices_ContainsFunc_Sapi_Cond_api_Cond__farkas_asked_1.wp l (fun x => x = slices_ContainsFunc_Sapi_Cond_api_Cond__farkas_asked_1.fn l) := by
  rintro x rfl; exact idxI_ge _ l 0 (Int.le_refl 0)
theorem slices_ContainsFunc_Sapi_Cond_api_Cond__farkas_asked_2.spec (l : List api_Cond) (n : Int) : slices_ContainsFunc_Sapi_Cond_api_Cond__farkas_asked_2.wp l n (fun x => x = slices_ContainsFunc_Sapi_Cond_api_Cond__farkas_asked_2.fn l n) := by
  rintro x rfl; exact idxI_ge _ l 0 (Int.le_refl 0)

theorem farkas_asked.spec (p : List api_Cond) (n : Int) : farkas_asked.wp p n (fun x => x = farkas_asked.fn p n) := by
  unfold farkas_asked.wp farkas_asked.fn
  refine ⟨fun h => ?_, fun h _ => ⟨fun h2 => ?_, fun h2 => ⟨fun h3 => ?_, fun h3 => ⟨fun h4 => ?_, fun h4 => ?_⟩⟩⟩⟩
  · rw [if_pos (by simpa using h)]
  all_goals rw [if_neg (by simpa using h)]
  · rw [if_pos h2]
  all_goals rw [if_neg h2]
  · rw [if_pos (show p.any farkas_asked_1.fn = true from h3)]
  all_goals rw [if_neg (by have : p.any farkas_asked_1.fn = false := h3; rw [this]; simp)]
  · rw [if_pos (show (p.any fun c => farkas_asked_2.fn c n) = true from h4)]
  · rw [if_neg (by have : (p.any fun c => farkas_asked_2.fn c n) = false := h4; rw [this]; simp)]

end Go.Proofs.Ytlncingakpelbaa
