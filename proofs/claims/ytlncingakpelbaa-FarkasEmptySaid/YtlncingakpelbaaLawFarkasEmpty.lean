/- The law FarkasEmpty of the program returns true for every input, and each argument reads afterwards as it read before. No conditions. -/
import Derived.Test.YtlncingakpelbaaK8
import Derived.Test.YtlncingakpelbaaHFarkasEmpty
import Derived.Test.YtlncingakpelbaaFwT
import Derived.Test.YtlncingakpelbaaRows
namespace Go.Proofs.Ytlncingakpelbaa.farkasEmpty
open Go
open Go.ChangeShapes Go.WideShapes Go.ChangeAt Go.RowKit
set_option linter.unusedVariables false
theorem own : ownKnob Try.prog.godebug = none := by kernel_rfl
theorem laidOut : laidOutB Try.prog = true := by kernel_rfl
theorem fit0 : Fit Try.prog 8 39 t_api_Set := (.inr ⟨_, Try.underlying39, by kernel_rfl, ⟨rfl, by kernel_rfl, (.inl Try.underlying3), ⟨rfl, by kernel_rfl, (.inl ⟨22, Try.underlying37, by kernel_rfl, by decide, (.inl ⟨35, Try.underlying22, by kernel_rfl, by decide, (.inr ⟨_, Try.underlying35, by kernel_rfl, ⟨rfl, by kernel_rfl, (.inl Try.underlying3), ⟨rfl, by kernel_rfl, (.inl Try.underlying3), ⟨rfl, by kernel_rfl, (.inr ⟨_, Try.underlying33, by kernel_rfl, ⟨rfl, by kernel_rfl, (.inl ⟨3, Try.underlying25, by kernel_rfl, by decide, (.inl Try.underlying3)⟩), ⟨rfl, by kernel_rfl, (.inl Try.underlying3)⟩⟩⟩)⟩⟩⟩⟩)⟩)⟩)⟩⟩⟩)
set_option maxRecDepth 100000 in
theorem lifted (os : Os) (started : os.Started) (H : Type) (enc : TypeId × Value → H) :
    ReturnsInHanded {} Try.checked os 5 .any (Rows.farkasEmptySpec.pre6 enc Try.prog Try.f5 Rows.farkasEmptyRow.domain false) (Rows.farkasEmptySpec.post enc Try.prog Try.f5 false true false false) := by
  refine returnsInHanded_of_change_sized (C := Try.checked) own started (by kernel_rfl) Try.func5
    (ChangeSpec.witness6 (enc := enc) (C := Try.checked) false ⟨#[], #[.agg #[.int .i64 0, .slice none 0 0]], []⟩ 8 (by kernel_rfl) (by kernel_rfl) (by kernel_rfl) (by kernel_rfl)) ?_
  intro W base args ds gs before hval0 hW hcnd hsz0 _
  have hval : ∀ (j : Nat) t v, Try.f5.params[j]? = some t → args[j]? = some v → Value.okWide Try.prog W .any base t v := hval0
  have hW' := hW
  obtain ⟨p, q, hA0, hV, rfl, hfz, hnd⟩ := hW
  have hA : DataW.TrodAll enc Try.prog W 0 (fun _ => true) true Try.f5.params.toList args.toList ds p := hA0
  rw [Try.params5] at hA hval
  obtain ⟨v0, vs0, d0, ds0, p0, q0, hargs, rfl, rfl, h0, r0⟩ := trodAll_cons hA
  obtain ⟨rfl, rfl, rfl⟩ := trodAll_nil r0
  obtain rfl : args = #[v0] := by cases args; simp_all
  obtain ⟨rfl, rfl⟩ := trodVars_none hV
  have lt0 : ∀ x ∈ p0, x.block < W.heap.size := by obtain ⟨m, hm⟩ := h0; exact DataW.trod_lt m _ _ _ hm
  obtain ⟨y0, e0, w0⟩ := arg_agg fit0 h0 Try.underlying39 (hval 0 39 v0 rfl rfl)
  have hok := ok_law09_FarkasEmpty y0 (law09_FarkasEmpty.pre_of y0 w0)
  rw [law09_FarkasEmpty.holds y0 w0] at hok
  refine (law_calls hok (.cons e0 .nil)).mono fun e W' ⟨he, bel⟩ => ?_
  subst he
  exact ⟨_, rfl, _, _, _, [], _, [], hW', trodAll_mk1 (shut_bool Try.underlying4 _), (trodAll_cons_mk (Below.trod laidOut (by kernel_rfl) (of_decide_eq_true (by kernel_rfl)) h0 bel lt0) trodAll_mk0), rfl, bel.frame _, fun h => by cases h⟩
theorem over : Rows.farkasEmptyRow.holds Try.pinned (OpenSpec.ofChange Rows.farkasEmptySpec) :=
  OpenClaim.holds_of_wide 5 Try.f5 rfl rfl rfl rfl rfl rfl rfl ⟨rfl, rfl, rfl, rfl, rfl⟩ rfl rfl rfl rfl rfl (by kernel_rfl) Try.func5 (by kernel_rfl)
    (of_decide_eq_true (by kernel_rfl)) (by unfold Func.isWrapper; first | (rw [if_pos (by decide +kernel)]; kernel_rfl) | (rw [if_neg (by decide +kernel)]; exact ⟨rfl, rfl⟩))
    (fun os started H enc _ => lifted os started H enc)
end Go.Proofs.Ytlncingakpelbaa.farkasEmpty
namespace Go.Proofs.Ytlncingakpelbaa
/-- The law holds for every input. -/
theorem farkasEmpty_holds : Rows.FarkasEmptySaid := farkasEmpty.over
end Go.Proofs.Ytlncingakpelbaa
