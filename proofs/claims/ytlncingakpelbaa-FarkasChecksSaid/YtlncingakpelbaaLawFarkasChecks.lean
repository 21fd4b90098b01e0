/- The law FarkasChecks of the program returns true for every input, and each argument reads afterwards as it read before. No conditions. -/
import Derived.Test.YtlncingakpelbaaK8
import Derived.Test.YtlncingakpelbaaHFarkasChecks
import Derived.Test.YtlncingakpelbaaFwT
import Derived.Test.YtlncingakpelbaaRows
namespace Go.Proofs.Ytlncingakpelbaa.farkasChecks
open Go
open Go.ChangeShapes Go.WideShapes Go.ChangeAt Go.RowKit
set_option linter.unusedVariables false
theorem own : ownKnob Try.prog.godebug = none := by kernel_rfl
theorem laidOut : laidOutB Try.prog = true := by kernel_rfl
theorem fit0 : Fit Try.prog 8 22 (.sl t_api_Cond) := (.inl ⟨35, Try.underlying22, by kernel_rfl, by decide, (.inr ⟨_, Try.underlying35, by kernel_rfl, ⟨rfl, by kernel_rfl, (.inl Try.underlying3), ⟨rfl, by kernel_rfl, (.inl Try.underlying3), ⟨rfl, by kernel_rfl, (.inr ⟨_, Try.underlying33, by kernel_rfl, ⟨rfl, by kernel_rfl, (.inl ⟨3, Try.underlying25, by kernel_rfl, by decide, (.inl Try.underlying3)⟩), ⟨rfl, by kernel_rfl, (.inl Try.underlying3)⟩⟩⟩)⟩⟩⟩⟩)⟩)
theorem fit1 : Fit Try.prog 8 3 (.int .i64) := (.inl Try.underlying3)
theorem fit2 : Fit Try.prog 8 25 (.sl (.int .i64)) := (.inl ⟨3, Try.underlying25, by kernel_rfl, by decide, (.inl Try.underlying3)⟩)
set_option maxRecDepth 100000 in
theorem lifted (os : Os) (started : os.Started) (H : Type) (enc : TypeId × Value → H) :
    ReturnsInHanded {} Try.checked os 6 .any (Rows.farkasChecksSpec.pre6 enc Try.prog Try.f6 Rows.farkasChecksRow.domain false) (Rows.farkasChecksSpec.post enc Try.prog Try.f6 false true false false) := by
  refine returnsInHanded_of_change_sized (C := Try.checked) own started (by kernel_rfl) Try.func6
    (ChangeSpec.witness6 (enc := enc) (C := Try.checked) false ⟨#[], #[.slice none 0 0, .int .i64 0, .slice none 0 0], []⟩ 8 (by kernel_rfl) (by kernel_rfl) (by kernel_rfl) (by kernel_rfl)) ?_
  intro W base args ds gs before hval0 hW hcnd hsz0 _
  have hval : ∀ (j : Nat) t v, Try.f6.params[j]? = some t → args[j]? = some v → Value.okWide Try.prog W .any base t v := hval0
  have hW' := hW
  obtain ⟨p, q, hA0, hV, rfl, hfz, hnd⟩ := hW
  have hA : DataW.TrodAll enc Try.prog W 0 (fun _ => true) true Try.f6.params.toList args.toList ds p := hA0
  rw [Try.params6] at hA hval
  obtain ⟨v0, vs0, d0, ds0, p0, q0, hargs, rfl, rfl, h0, r0⟩ := trodAll_cons hA
  obtain ⟨v1, vs1, d1, ds1, p1, q1, rfl, rfl, rfl, h1, r1⟩ := trodAll_cons r0
  obtain ⟨v2, vs2, d2, ds2, p2, q2, rfl, rfl, rfl, h2, r2⟩ := trodAll_cons r1
  obtain ⟨rfl, rfl, rfl⟩ := trodAll_nil r2
  obtain rfl : args = #[v0, v1, v2] := by cases args; simp_all
  obtain ⟨rfl, rfl⟩ := trodVars_none hV
  have lt0 : ∀ x ∈ p0, x.block < W.heap.size := by obtain ⟨m, hm⟩ := h0; exact DataW.trod_lt m _ _ _ hm
  obtain ⟨y0, e0, w0⟩ := arg_plain fit0 h0 (one_slice Try.underlying22 (hval 0 22 v0 rfl rfl))
  have lt1 : ∀ x ∈ p1, x.block < W.heap.size := by obtain ⟨m, hm⟩ := h1; exact DataW.trod_lt m _ _ _ hm
  obtain ⟨y1, e1, w1⟩ := arg_plain fit1 h1 (one_int Try.underlying3 (hval 1 3 v1 rfl rfl))
  have lt2 : ∀ x ∈ p2, x.block < W.heap.size := by obtain ⟨m, hm⟩ := h2; exact DataW.trod_lt m _ _ _ hm
  obtain ⟨y2, e2, w2⟩ := arg_plain fit2 h2 (one_slice Try.underlying25 (hval 2 25 v2 rfl rfl))
  have hok := ok_law09_FarkasChecks y0 y1 y2 (law09_FarkasChecks.pre_of y0 y1 y2 w0 w1 w2)
  rw [law09_FarkasChecks.holds y0 y1 y2 w0 w1 w2] at hok
  refine (law_calls hok (.cons e0 (.cons e1 (.cons e2 .nil)))).mono fun e W' ⟨he, bel⟩ => ?_
  subst he
  exact ⟨_, rfl, _, _, _, [], _, [], hW', trodAll_mk1 (shut_bool Try.underlying4 _), (trodAll_cons_mk (Below.trod laidOut (by kernel_rfl) (of_decide_eq_true (by kernel_rfl)) h0 bel lt0) (trodAll_cons_mk (Below.trod laidOut (by kernel_rfl) (of_decide_eq_true (by kernel_rfl)) h1 bel lt1) (trodAll_cons_mk (Below.trod laidOut (by kernel_rfl) (of_decide_eq_true (by kernel_rfl)) h2 bel lt2) trodAll_mk0))), rfl, bel.frame _, fun h => by cases h⟩
theorem over : Rows.farkasChecksRow.holds Try.pinned (OpenSpec.ofChange Rows.farkasChecksSpec) :=
  OpenClaim.holds_of_wide 6 Try.f6 rfl rfl rfl rfl rfl rfl rfl ⟨rfl, rfl, rfl, rfl, rfl⟩ rfl rfl rfl rfl rfl (by kernel_rfl) Try.func6 (by kernel_rfl)
    (of_decide_eq_true (by kernel_rfl)) (by unfold Func.isWrapper; first | (rw [if_pos (by decide +kernel)]; kernel_rfl) | (rw [if_neg (by decide +kernel)]; exact ⟨rfl, rfl⟩))
    (fun os started H enc _ => lifted os started H enc)
end Go.Proofs.Ytlncingakpelbaa.farkasChecks
namespace Go.Proofs.Ytlncingakpelbaa
/-- The law holds for every input. -/
theorem farkasChecks_holds : Rows.FarkasChecksSaid := farkasChecks.over
end Go.Proofs.Ytlncingakpelbaa
