/- Part of a proof that a law of the program holds for every input: printed by a program of this work. No conditions. -/
import Derived.Test.YtlncingakpelbaaW
namespace Go.Proofs.Ytlncingakpelbaa
open Go
set_option linter.unusedVariables false
set_option maxHeartbeats 4000000

theorem law09_ge.ev_wp (a1 : Int) (a2 : (List Int)) (r : api_Cond) (h : law09_ge.ev a1 a2 = some r) : law09_ge.wp a1 a2 (fun x => x = r) := by
  unfold law09_ge.ev at h
  unfold law09_ge.wp
  exact Option.some.inj h
theorem law09_ge.spec (a1 : Int) (a2 : (List Int)) (h : law09_ge.pre a1 a2) : law09_ge.wp a1 a2 (fun x => x = law09_ge.fn a1 a2) := by
  obtain ⟨r, hr⟩ := Option.isSome_iff_exists.1 h
  have hf : law09_ge.fn a1 a2 = r := by show Option.getD _ _ = r; rw [hr]; rfl
  rw [hf]
  exact law09_ge.ev_wp a1 a2 r hr

theorem law09_awake.ev_wp (r : Bool) (h : law09_awake.ev = some r) : law09_awake.wp (fun x => x = r) := by
  unfold law09_awake.ev at h
  unfold law09_awake.wp
  obtain ⟨y1, hy1, h⟩ := Option.bind_eq_some_iff.1 h
  obtain ⟨hp, hy1f⟩ : law09_ge.pre (-3) [1] ∧ y1 = law09_ge.fn (-3) [1] := ev_get hy1
  subst hy1f
  refine ⟨hp, ?_⟩
  obtain ⟨y2, hy2, h⟩ := Option.bind_eq_some_iff.1 h
  obtain ⟨hp, hy2f⟩ : law09_ge.pre (2 : Int) [(-1)] ∧ y2 = law09_ge.fn (2 : Int) [(-1)] := ev_get hy2
  subst hy2f
  refine ⟨hp, ?_⟩
  intro x1 hx1
  replace h := evJ_eq h x1 hx1
  intro x2 hx2
  replace h := evJ_eq h x2 hx2
  intro x3 hx3
  replace h := evJ_eq h x3 hx3
  intro x4 hx4
  replace h := evJ_eq h x4 hx4
  intro x5 hx5
  replace h := evJ_eq h x5 hx5
  intro x6 hx6
  replace h := evJ_eq h x6 hx6
  intro x7 hx7
  replace h := evJ_eq h x7 hx7
  intro x8 hx8
  replace h := evJ_eq h x8 hx8
  intro x9 hx9
  replace h := evJ_eq h x9 hx9
  obtain ⟨y3, hy3, h⟩ := Option.bind_eq_some_iff.1 h
  obtain ⟨hp, hy3f⟩ : law09_ge.pre (0 : Int) [1, (-1)] ∧ y3 = law09_ge.fn (0 : Int) [1, (-1)] := ev_get hy3
  subst hy3f
  refine ⟨hp, ?_⟩
  obtain ⟨y4, hy4, h⟩ := Option.bind_eq_some_iff.1 h
  obtain ⟨hp, hy4f⟩ : law09_ge.pre (-1) [(-1), 1] ∧ y4 = law09_ge.fn (-1) [(-1), 1] := ev_get hy4
  subst hy4f
  refine ⟨hp, ?_⟩
  intro x10 hx10
  replace h := evJ_eq h x10 hx10
  intro x11 hx11
  replace h := evJ_eq h x11 hx11
  intro x12 hx12
  replace h := evJ_eq h x12 hx12
  exact Option.some.inj h
theorem law09_awake.spec (h : law09_awake.pre) : law09_awake.wp (fun x => x = law09_awake.fn) := by
  obtain ⟨r, hr⟩ := Option.isSome_iff_exists.1 h
  have hf : law09_awake.fn = r := by show Option.getD _ _ = r; rw [hr]; rfl
  rw [hf]
  exact law09_awake.ev_wp  r hr


end Go.Proofs.Ytlncingakpelbaa
