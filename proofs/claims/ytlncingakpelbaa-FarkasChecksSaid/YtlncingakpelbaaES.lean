/- Part of a proof that a law of the program holds for every input: printed by a program of this work. No conditions. -/
import Derived.Test.YtlncingakpelbaaW
namespace Go.Proofs.Ytlncingakpelbaa
open Go
set_option linter.unusedVariables false
set_option maxHeartbeats 4000000

theorem farkas_first.ev_wp (a1 : (List api_Cond)) (a2 : Int) (r : farkas_table) (h : farkas_first.ev a1 a2 = some r) : farkas_first.wp a1 a2 (fun x => x = r) := by
  unfold farkas_first.ev at h
  unfold farkas_first.wp
  intro _
  obtain ⟨iI7, hI70, hI7s, h⟩ := ev_rec2 h
  refine ⟨fun nn (x3 : Int) (x4 : (List farkas_row)) => iI7 nn x3 x4 = some r, ⟨_, h⟩, ?_⟩
  intro nn x3 x4 h
  cases nn with
  | zero => rw [hI70] at h; cases h
  | succ nn =>
    rw [hI7s] at h
    refine ⟨fun hc => ?_, fun hc => ?_⟩
    · replace h := of_pos hc h
      obtain ⟨hp, h⟩ := of_if h
      refine ⟨hp, ?_⟩
      intro x8 hx8
      replace h := evJ_eq h x8 hx8
      refine ⟨fun hc => ?_, fun hc => ?_⟩
      · replace h := of_pos hc h
        obtain ⟨hp, h⟩ := of_if h
        refine ⟨hp, ?_⟩
        exact ⟨_, Nat.lt_succ_self _, h⟩
      · replace h := of_neg (hc) h
        obtain ⟨hp, h⟩ := of_if h
        refine ⟨hp, ?_⟩
        obtain ⟨hp, h⟩ := of_if h
        refine ⟨hp, ?_⟩
        obtain ⟨hp, h⟩ := of_if h
        refine ⟨hp, ?_⟩
        intro x9 hx9
        replace h := evJ_eq h x9 hx9
        intro _
        intro x10 hx10
        replace h := evJ_eq h x10 hx10
        obtain ⟨hp, h⟩ := of_if h
        refine ⟨hp, ?_⟩
        obtain ⟨hp, h⟩ := of_if h
        refine ⟨hp, ?_⟩
        obtain ⟨hp, h⟩ := of_if h
        refine ⟨hp, ?_⟩
        obtain ⟨hp, h⟩ := of_if h
        refine ⟨hp, ?_⟩
        obtain ⟨hp, h⟩ := of_if h
        refine ⟨hp, ?_⟩
        obtain ⟨hp, h⟩ := of_if h
        refine ⟨hp, ?_⟩
        intro x11 hx11
        replace h := evJ_eq h x11 hx11
        obtain ⟨hp, h⟩ := of_if h
        refine ⟨hp, ?_⟩
        intro x12 hx12
        replace h := evJ_eq h x12 hx12
        obtain ⟨hp, h⟩ := of_if h
        refine ⟨hp, ?_⟩
        exact ⟨_, Nat.lt_succ_self _, h⟩
    · replace h := of_neg (hc) h
      exact Option.some.inj h
theorem farkas_first.spec (a1 : (List api_Cond)) (a2 : Int) (h : farkas_first.pre a1 a2) : farkas_first.wp a1 a2 (fun x => x = farkas_first.fn a1 a2) := by
  obtain ⟨r, hr⟩ := Option.isSome_iff_exists.1 h
  have hf : farkas_first.fn a1 a2 = r := by show Option.getD _ _ = r; rw [hr]; rfl
  rw [hf]
  exact farkas_first.ev_wp a1 a2 r hr

theorem farkas_vector_int_by.ev_wp (a1 : (List Int)) (a2 : Int) (r : (List Int)) (h : farkas_vector_int_by.ev a1 a2 = some r) : farkas_vector_int_by.wp a1 a2 (fun x => x = r) := by
  unfold farkas_vector_int_by.ev at h
  unfold farkas_vector_int_by.wp
  obtain ⟨hp, h⟩ := of_if h
  refine ⟨hp, ?_⟩
  intro x1 hx1
  replace h := evJ_eq h x1 hx1
  intro _
  intro x2 hx2
  replace h := evJ_eq h x2 hx2
  obtain ⟨iI9, hI90, hI9s, h⟩ := ev_rec2 h
  refine ⟨fun nn (x5 : Int) (x6 : (List Int)) => iI9 nn x5 x6 = some r, ⟨_, h⟩, ?_⟩
  intro nn x5 x6 h
  cases nn with
  | zero => rw [hI90] at h; cases h
  | succ nn =>
    rw [hI9s] at h
    refine ⟨fun hc => ?_, fun hc => ?_⟩
    · replace h := of_pos hc h
      obtain ⟨hp, h⟩ := of_if h
      refine ⟨hp, ?_⟩
      obtain ⟨hp, h⟩ := of_if h
      refine ⟨hp, ?_⟩
      obtain ⟨hp, h⟩ := of_if h
      refine ⟨hp, ?_⟩
      obtain ⟨hp, h⟩ := of_if h
      refine ⟨hp, ?_⟩
      obtain ⟨hp, h⟩ := of_if h
      refine ⟨hp, ?_⟩
      intro x10 hx10
      replace h := evJ_eq h x10 hx10
      obtain ⟨hp, h⟩ := of_if h
      refine ⟨hp, ?_⟩
      exact ⟨_, Nat.lt_succ_self _, h⟩
    · replace h := of_neg (hc) h
      exact Option.some.inj h
theorem farkas_vector_int_by.spec (a1 : (List Int)) (a2 : Int) (h : farkas_vector_int_by.pre a1 a2) : farkas_vector_int_by.wp a1 a2 (fun x => x = farkas_vector_int_by.fn a1 a2) := by
  obtain ⟨r, hr⟩ := Option.isSome_iff_exists.1 h
  have hf : farkas_vector_int_by.fn a1 a2 = r := by show Option.getD _ _ = r; rw [hr]; rfl
  rw [hf]
  exact farkas_vector_int_by.ev_wp a1 a2 r hr

theorem num_common.ev_wp (a1 : Int) (a2 : Int) (r : Int) (h : num_common.ev a1 a2 = some r) : num_common.wp a1 a2 (fun x => x = r) := by
  unfold num_common.ev at h
  unfold num_common.wp
  obtain ⟨iI7, hI70, hI7s, h⟩ := ev_rec2 h
  refine ⟨fun nn (x3 : Int) (x4 : Int) => iI7 nn x3 x4 = some r, ⟨_, h⟩, ?_⟩
  intro nn x3 x4 h
  cases nn with
  | zero => rw [hI70] at h; cases h
  | succ nn =>
    rw [hI7s] at h
    refine ⟨fun hc => ?_, fun hc => ?_⟩
    · replace h := of_pos hc h
      obtain ⟨hp, h⟩ := of_if h
      refine ⟨hp, ?_⟩
      exact ⟨_, Nat.lt_succ_self _, h⟩
    · replace h := of_neg (hc) h
      exact Option.some.inj h
theorem num_common.spec (a1 : Int) (a2 : Int) (h : num_common.pre a1 a2) : num_common.wp a1 a2 (fun x => x = num_common.fn a1 a2) := by
  obtain ⟨r, hr⟩ := Option.isSome_iff_exists.1 h
  have hf : num_common.fn a1 a2 = r := by show Option.getD _ _ = r; rw [hr]; rfl
  rw [hf]
  exact num_common.ev_wp a1 a2 r hr

theorem num_size.ev_wp (a1 : Int) (r : Int) (h : num_size.ev a1 = some r) : num_size.wp a1 (fun x => x = r) := by
  unfold num_size.ev at h
  unfold num_size.wp
  refine ⟨fun hc => ?_, fun hc => ?_⟩
  · replace h := of_pos hc h
    intro x1 hx1
    replace h := evJ_eq h x1 hx1
    exact Option.some.inj h
  · replace h := of_neg (hc) h
    exact Option.some.inj h
theorem num_size.spec (a1 : Int) (h : num_size.pre a1) : num_size.wp a1 (fun x => x = num_size.fn a1) := by
  obtain ⟨r, hr⟩ := Option.isSome_iff_exists.1 h
  have hf : num_size.fn a1 = r := by show Option.getD _ _ = r; rw [hr]; rfl
  rw [hf]
  exact num_size.ev_wp a1 r hr

theorem num_Gcd_1.ev_wp (a1 : Int) (a2 : Int) (r : Int) (h : num_Gcd_1.ev a1 a2 = some r) : num_Gcd_1.wp a1 a2 (fun x => x = r) := by
  unfold num_Gcd_1.ev at h
  unfold num_Gcd_1.wp
  obtain ⟨y1, hy1, h⟩ := Option.bind_eq_some_iff.1 h
  obtain ⟨hp, hy1f⟩ : num_size.pre a2 ∧ y1 = num_size.fn a2 := ev_get hy1
  subst hy1f
  refine ⟨hp, ?_⟩
  obtain ⟨y2, hy2, h⟩ := Option.bind_eq_some_iff.1 h
  obtain ⟨hp, hy2f⟩ : num_common.pre a1 (num_size.fn a2) ∧ y2 = num_common.fn a1 (num_size.fn a2) := ev_get hy2
  subst hy2f
  refine ⟨hp, ?_⟩
  intro x1 hx1
  replace h := evJ_eq h x1 hx1
  intro x2 hx2
  replace h := evJ_eq h x2 hx2
  exact Option.some.inj h
theorem num_Gcd_1.spec (a1 : Int) (a2 : Int) (h : num_Gcd_1.pre a1 a2) : num_Gcd_1.wp a1 a2 (fun x => x = num_Gcd_1.fn a1 a2) := by
  obtain ⟨r, hr⟩ := Option.isSome_iff_exists.1 h
  have hf : num_Gcd_1.fn a1 a2 = r := by show Option.getD _ _ = r; rw [hr]; rfl
  rw [hf]
  exact num_Gcd_1.ev_wp a1 a2 r hr

theorem num_fold_uint64__num_Gcd_1.ev_wp (a1 : (List Int)) (a2 : Int) (r : Int) (h : num_fold_uint64__num_Gcd_1.ev a1 a2 = some r) : num_fold_uint64__num_Gcd_1.wp a1 a2 (fun x => x = r) := by
  unfold num_fold_uint64__num_Gcd_1.ev at h
  unfold num_fold_uint64__num_Gcd_1.wp
  intro _
  obtain ⟨iI7, hI70, hI7s, h⟩ := ev_rec2 h
  refine ⟨fun nn (x3 : Int) (x4 : Int) => iI7 nn x3 x4 = some r, ⟨_, h⟩, ?_⟩
  intro nn x3 x4 h
  cases nn with
  | zero => rw [hI70] at h; cases h
  | succ nn =>
    rw [hI7s] at h
    refine ⟨fun hc => ?_, fun hc => ?_⟩
    · replace h := of_pos hc h
      obtain ⟨hp, h⟩ := of_if h
      refine ⟨hp, ?_⟩
      obtain ⟨y1, hy1, h⟩ := Option.bind_eq_some_iff.1 h
      obtain ⟨hp, hy1f⟩ : num_Gcd_1.pre x3 (gI a1 x4) ∧ y1 = num_Gcd_1.fn x3 (gI a1 x4) := ev_get hy1
      subst hy1f
      refine ⟨hp, ?_⟩
      intro x8 hx8
      replace h := evJ_eq h x8 hx8
      obtain ⟨hp, h⟩ := of_if h
      refine ⟨hp, ?_⟩
      exact ⟨_, Nat.lt_succ_self _, h⟩
    · replace h := of_neg (hc) h
      exact Option.some.inj h
theorem num_fold_uint64__num_Gcd_1.spec (a1 : (List Int)) (a2 : Int) (h : num_fold_uint64__num_Gcd_1.pre a1 a2) : num_fold_uint64__num_Gcd_1.wp a1 a2 (fun x => x = num_fold_uint64__num_Gcd_1.fn a1 a2) := by
  obtain ⟨r, hr⟩ := Option.isSome_iff_exists.1 h
  have hf : num_fold_uint64__num_Gcd_1.fn a1 a2 = r := by show Option.getD _ _ = r; rw [hr]; rfl
  rw [hf]
  exact num_fold_uint64__num_Gcd_1.ev_wp a1 a2 r hr

theorem num_Gcd.ev_wp (a1 : (List Int)) (r : Int × Int) (h : num_Gcd.ev a1 = some r) : num_Gcd.wp a1 (fun x => x = r) := by
  unfold num_Gcd.ev at h
  unfold num_Gcd.wp
  obtain ⟨y1, hy1, h⟩ := Option.bind_eq_some_iff.1 h
  obtain ⟨hp, hy1f⟩ : num_fold_uint64__num_Gcd_1.pre a1 (0 : Int) ∧ y1 = num_fold_uint64__num_Gcd_1.fn a1 (0 : Int) := ev_get hy1
  subst hy1f
  refine ⟨hp, ?_⟩
  intro x1 hx1
  replace h := evJ_eq h x1 hx1
  refine ⟨fun hc => ?_, fun hc => ?_⟩
  · replace h := of_pos hc h
    exact Option.some.inj h
  · replace h := of_neg (hc) h
    obtain ⟨hp, h⟩ := of_if h
    refine ⟨hp, ?_⟩
    exact Option.some.inj h
theorem num_Gcd.spec (a1 : (List Int)) (h : num_Gcd.pre a1) : num_Gcd.wp a1 (fun x => x = num_Gcd.fn a1) := by
  obtain ⟨r, hr⟩ := Option.isSome_iff_exists.1 h
  have hf : num_Gcd.fn a1 = r := by show Option.getD _ _ = r; rw [hr]; rfl
  rw [hf]
  exact num_Gcd.ev_wp a1 r hr

theorem farkas_row_reduced.ev_wp (a1 : farkas_row) (r : farkas_row) (h : farkas_row_reduced.ev a1 = some r) : farkas_row_reduced.wp a1 (fun x => x = r) := by
  unfold farkas_row_reduced.ev at h
  unfold farkas_row_reduced.wp
  obtain ⟨y1, hy1, h⟩ := Option.bind_eq_some_iff.1 h
  obtain ⟨hp, hy1f⟩ : num_Gcd.pre a1.2 ∧ y1 = num_Gcd.fn a1.2 := ev_get hy1
  subst hy1f
  refine ⟨hp, ?_⟩
  intro x1 hx1
  replace h := evJ_eq h x1 hx1
  refine ⟨fun hc => ?_, fun hc => ?_⟩
  · replace h := of_pos hc h
    obtain ⟨y2, hy2, h⟩ := Option.bind_eq_some_iff.1 h
    obtain ⟨hp, hy2f⟩ : farkas_vector_int_by.pre a1.2 x1.1 ∧ y2 = farkas_vector_int_by.fn a1.2 x1.1 := ev_get hy2
    subst hy2f
    refine ⟨hp, ?_⟩
    intro x2 hx2
    replace h := evJ_eq h x2 hx2
    exact Option.some.inj h
  · replace h := of_neg (hc) h
    exact Option.some.inj h
theorem farkas_row_reduced.spec (a1 : farkas_row) (h : farkas_row_reduced.pre a1) : farkas_row_reduced.wp a1 (fun x => x = farkas_row_reduced.fn a1) := by
  obtain ⟨r, hr⟩ := Option.isSome_iff_exists.1 h
  have hf : farkas_row_reduced.fn a1 = r := by show Option.getD _ _ = r; rw [hr]; rfl
  rw [hf]
  exact farkas_row_reduced.ev_wp a1 r hr

theorem slices_Equal_farkas_vector_int_int.ev_wp (a1 : (List Int)) (a2 : (List Int)) (r : Bool) (h : slices_Equal_farkas_vector_int_int.ev a1 a2 = some r) : slices_Equal_farkas_vector_int_int.wp a1 a2 (fun x => x = r) := by
  unfold slices_Equal_farkas_vector_int_int.ev at h
  unfold slices_Equal_farkas_vector_int_int.wp
  intro _
  intro _
  refine ⟨fun hc => ?_, fun hc => ?_⟩
  · replace h := of_pos hc h
    exact Option.some.inj h
  · replace h := of_neg (fun hne => hne hc) h
    intro _
    obtain ⟨iI4, hI40, hI4s, h⟩ := ev_rec1 h
    refine ⟨fun nn (x2 : Int) => iI4 nn x2 = some r, ⟨_, h⟩, ?_⟩
    intro nn x2 h
    cases nn with
    | zero => rw [hI40] at h; cases h
    | succ nn =>
      rw [hI4s] at h
      refine ⟨fun hc => ?_, fun hc => ?_⟩
      · replace h := of_pos hc h
        obtain ⟨hp, h⟩ := of_if h
        refine ⟨hp, ?_⟩
        obtain ⟨hp, h⟩ := of_if h
        refine ⟨hp, ?_⟩
        refine ⟨fun hc => ?_, fun hc => ?_⟩
        · replace h := of_pos hc h
          exact Option.some.inj h
        · replace h := of_neg (fun hne => hne hc) h
          obtain ⟨hp, h⟩ := of_if h
          refine ⟨hp, ?_⟩
          exact ⟨_, Nat.lt_succ_self _, h⟩
      · replace h := of_neg (hc) h
        exact Option.some.inj h
theorem slices_Equal_farkas_vector_int_int.spec (a1 : (List Int)) (a2 : (List Int)) (h : slices_Equal_farkas_vector_int_int.pre a1 a2) : slices_Equal_farkas_vector_int_int.wp a1 a2 (fun x => x = slices_Equal_farkas_vector_int_int.fn a1 a2) := by
  obtain ⟨r, hr⟩ := Option.isSome_iff_exists.1 h
  have hf : slices_Equal_farkas_vector_int_int.fn a1 a2 = r := by show Option.getD _ _ = r; rw [hr]; rfl
  rw [hf]
  exact slices_Equal_farkas_vector_int_int.ev_wp a1 a2 r hr

theorem farkas_table_kept_1.ev_wp (a1 : farkas_row) (a2 : Bool) (a3 : (List Int)) (a4 : Int) (a5 : (List farkas_row)) (r : Bool) (h : farkas_table_kept_1.ev a1 a2 a3 a4 a5 = some r) : farkas_table_kept_1.wp a1 a2 a3 a4 a5 (fun x => x = r) := by
  unfold farkas_table_kept_1.ev at h
  unfold farkas_table_kept_1.wp
  obtain ⟨hp, h⟩ := of_if h
  refine ⟨hp, ?_⟩
  obtain ⟨hp, h⟩ := of_if h
  refine ⟨hp, ?_⟩
  obtain ⟨hp, h⟩ := of_if h
  refine ⟨hp, ?_⟩
  obtain ⟨hp, h⟩ := of_if h
  refine ⟨hp, ?_⟩
  obtain ⟨hp, h⟩ := of_if h
  refine ⟨hp, ?_⟩
  exact Option.some.inj h
theorem farkas_table_kept_1.spec (a1 : farkas_row) (a2 : Bool) (a3 : (List Int)) (a4 : Int) (a5 : (List farkas_row)) (h : farkas_table_kept_1.pre a1 a2 a3 a4 a5) : farkas_table_kept_1.wp a1 a2 a3 a4 a5 (fun x => x = farkas_table_kept_1.fn a1 a2 a3 a4 a5) := by
  obtain ⟨r, hr⟩ := Option.isSome_iff_exists.1 h
  have hf : farkas_table_kept_1.fn a1 a2 a3 a4 a5 = r := by show Option.getD _ _ = r; rw [hr]; rfl
  rw [hf]
  exact farkas_table_kept_1.ev_wp a1 a2 a3 a4 a5 r hr

theorem slices_IndexFunc_Sfarkas_row_farkas_row__farkas_table_kept_1.ev_wp (a1 : (List farkas_row)) (a2 : Bool) (a3 : (List Int)) (a4 : Int) (a5 : (List farkas_row)) (r : Int) (h : slices_IndexFunc_Sfarkas_row_farkas_row__farkas_table_kept_1.ev a1 a2 a3 a4 a5 = some r) : slices_IndexFunc_Sfarkas_row_farkas_row__farkas_table_kept_1.wp a1 a2 a3 a4 a5 (fun x => x = r) := by
  unfold slices_IndexFunc_Sfarkas_row_farkas_row__farkas_table_kept_1.ev at h
  unfold slices_IndexFunc_Sfarkas_row_farkas_row__farkas_table_kept_1.wp
  intro _
  obtain ⟨iI4, hI40, hI4s, h⟩ := ev_rec1 h
  refine ⟨fun nn (x2 : Int) => iI4 nn x2 = some r, ⟨_, h⟩, ?_⟩
  intro nn x2 h
  cases nn with
  | zero => rw [hI40] at h; cases h
  | succ nn =>
    rw [hI4s] at h
    refine ⟨fun hc => ?_, fun hc => ?_⟩
    · replace h := of_pos hc h
      obtain ⟨hp, h⟩ := of_if h
      refine ⟨hp, ?_⟩
      obtain ⟨y1, hy1, h⟩ := Option.bind_eq_some_iff.1 h
      obtain ⟨hp, hy1f⟩ : farkas_table_kept_1.pre (a1.getD (Int.toNat x2) d_farkas_row) a2 a3 a4 a5 ∧ y1 = farkas_table_kept_1.fn (a1.getD (Int.toNat x2) d_farkas_row) a2 a3 a4 a5 := ev_get hy1
      subst hy1f
      refine ⟨hp, ?_⟩
      refine ⟨fun hc => ?_, fun hc => ?_⟩
      · replace h := of_pos hc h
        exact Option.some.inj h
      · replace h := of_neg (ne_true_of_eq_false hc) h
        obtain ⟨hp, h⟩ := of_if h
        refine ⟨hp, ?_⟩
        exact ⟨_, Nat.lt_succ_self _, h⟩
    · replace h := of_neg (hc) h
      exact Option.some.inj h
theorem slices_IndexFunc_Sfarkas_row_farkas_row__farkas_table_kept_1.spec (a1 : (List farkas_row)) (a2 : Bool) (a3 : (List Int)) (a4 : Int) (a5 : (List farkas_row)) (h : slices_IndexFunc_Sfarkas_row_farkas_row__farkas_table_kept_1.pre a1 a2 a3 a4 a5) : slices_IndexFunc_Sfarkas_row_farkas_row__farkas_table_kept_1.wp a1 a2 a3 a4 a5 (fun x => x = slices_IndexFunc_Sfarkas_row_farkas_row__farkas_table_kept_1.fn a1 a2 a3 a4 a5) := by
  obtain ⟨r, hr⟩ := Option.isSome_iff_exists.1 h
  have hf : slices_IndexFunc_Sfarkas_row_farkas_row__farkas_table_kept_1.fn a1 a2 a3 a4 a5 = r := by show Option.getD _ _ = r; rw [hr]; rfl
  rw [hf]
  exact slices_IndexFunc_Sfarkas_row_farkas_row__farkas_table_kept_1.ev_wp a1 a2 a3 a4 a5 r hr

theorem slices_ContainsFunc_Sfarkas_row_farkas_row__farkas_table_kept_1.ev_wp (a1 : (List farkas_row)) (a2 : Bool) (a3 : (List Int)) (a4 : Int) (a5 : (List farkas_row)) (r : Bool) (h : slices_ContainsFunc_Sfarkas_row_farkas_row__farkas_table_kept_1.ev a1 a2 a3 a4 a5 = some r) : slices_ContainsFunc_Sfarkas_row_farkas_row__farkas_table_kept_1.wp a1 a2 a3 a4 a5 (fun x => x = r) := by
  unfold slices_ContainsFunc_Sfarkas_row_farkas_row__farkas_table_kept_1.ev at h
  unfold slices_ContainsFunc_Sfarkas_row_farkas_row__farkas_table_kept_1.wp
  obtain ⟨y1, hy1, h⟩ := Option.bind_eq_some_iff.1 h
  obtain ⟨hp, hy1f⟩ : slices_IndexFunc_Sfarkas_row_farkas_row__farkas_table_kept_1.pre a1 a2 a3 a4 a5 ∧ y1 = slices_IndexFunc_Sfarkas_row_farkas_row__farkas_table_kept_1.fn a1 a2 a3 a4 a5 := ev_get hy1
  subst hy1f
  refine ⟨hp, ?_⟩
  intro x1 hx1
  replace h := evJ_eq h x1 hx1
  exact Option.some.inj h
theorem slices_ContainsFunc_Sfarkas_row_farkas_row__farkas_table_kept_1.spec (a1 : (List farkas_row)) (a2 : Bool) (a3 : (List Int)) (a4 : Int) (a5 : (List farkas_row)) (h : slices_ContainsFunc_Sfarkas_row_farkas_row__farkas_table_kept_1.pre a1 a2 a3 a4 a5) : slices_ContainsFunc_Sfarkas_row_farkas_row__farkas_table_kept_1.wp a1 a2 a3 a4 a5 (fun x => x = slices_ContainsFunc_Sfarkas_row_farkas_row__farkas_table_kept_1.fn a1 a2 a3 a4 a5) := by
  obtain ⟨r, hr⟩ := Option.isSome_iff_exists.1 h
  have hf : slices_ContainsFunc_Sfarkas_row_farkas_row__farkas_table_kept_1.fn a1 a2 a3 a4 a5 = r := by show Option.getD _ _ = r; rw [hr]; rfl
  rw [hf]
  exact slices_ContainsFunc_Sfarkas_row_farkas_row__farkas_table_kept_1.ev_wp a1 a2 a3 a4 a5 r hr

theorem farkas_table_kept_2.ev_wp (a1 : Int) (r : Bool) (h : farkas_table_kept_2.ev a1 = some r) : farkas_table_kept_2.wp a1 (fun x => x = r) := by
  unfold farkas_table_kept_2.ev at h
  unfold farkas_table_kept_2.wp
  exact Option.some.inj h
theorem farkas_table_kept_2.spec (a1 : Int) (h : farkas_table_kept_2.pre a1) : farkas_table_kept_2.wp a1 (fun x => x = farkas_table_kept_2.fn a1) := by
  obtain ⟨r, hr⟩ := Option.isSome_iff_exists.1 h
  have hf : farkas_table_kept_2.fn a1 = r := by show Option.getD _ _ = r; rw [hr]; rfl
  rw [hf]
  exact farkas_table_kept_2.ev_wp a1 r hr

theorem slices_IndexFunc_farkas_vector_int_int__farkas_table_kept_2.ev_wp (a1 : (List Int)) (r : Int) (h : slices_IndexFunc_farkas_vector_int_int__farkas_table_kept_2.ev a1 = some r) : slices_IndexFunc_farkas_vector_int_int__farkas_table_kept_2.wp a1 (fun x => x = r) := by
  unfold slices_IndexFunc_farkas_vector_int_int__farkas_table_kept_2.ev at h
  unfold slices_IndexFunc_farkas_vector_int_int__farkas_table_kept_2.wp
  intro _
  obtain ⟨iI4, hI40, hI4s, h⟩ := ev_rec1 h
  refine ⟨fun nn (x2 : Int) => iI4 nn x2 = some r, ⟨_, h⟩, ?_⟩
  intro nn x2 h
  cases nn with
  | zero => rw [hI40] at h; cases h
  | succ nn =>
    rw [hI4s] at h
    refine ⟨fun hc => ?_, fun hc => ?_⟩
    · replace h := of_pos hc h
      obtain ⟨hp, h⟩ := of_if h
      refine ⟨hp, ?_⟩
      obtain ⟨y1, hy1, h⟩ := Option.bind_eq_some_iff.1 h
      obtain ⟨hp, hy1f⟩ : farkas_table_kept_2.pre (gI a1 x2) ∧ y1 = farkas_table_kept_2.fn (gI a1 x2) := ev_get hy1
      subst hy1f
      refine ⟨hp, ?_⟩
      refine ⟨fun hc => ?_, fun hc => ?_⟩
      · replace h := of_pos hc h
        exact Option.some.inj h
      · replace h := of_neg (ne_true_of_eq_false hc) h
        obtain ⟨hp, h⟩ := of_if h
        refine ⟨hp, ?_⟩
        exact ⟨_, Nat.lt_succ_self _, h⟩
    · replace h := of_neg (hc) h
      exact Option.some.inj h
theorem slices_IndexFunc_farkas_vector_int_int__farkas_table_kept_2.spec (a1 : (List Int)) (h : slices_IndexFunc_farkas_vector_int_int__farkas_table_kept_2.pre a1) : slices_IndexFunc_farkas_vector_int_int__farkas_table_kept_2.wp a1 (fun x => x = slices_IndexFunc_farkas_vector_int_int__farkas_table_kept_2.fn a1) := by
  obtain ⟨r, hr⟩ := Option.isSome_iff_exists.1 h
  have hf : slices_IndexFunc_farkas_vector_int_int__farkas_table_kept_2.fn a1 = r := by show Option.getD _ _ = r; rw [hr]; rfl
  rw [hf]
  exact slices_IndexFunc_farkas_vector_int_int__farkas_table_kept_2.ev_wp a1 r hr

theorem slices_ContainsFunc_farkas_vector_int_int__farkas_table_kept_2.ev_wp (a1 : (List Int)) (r : Bool) (h : slices_ContainsFunc_farkas_vector_int_int__farkas_table_kept_2.ev a1 = some r) : slices_ContainsFunc_farkas_vector_int_int__farkas_table_kept_2.wp a1 (fun x => x = r) := by
  unfold slices_ContainsFunc_farkas_vector_int_int__farkas_table_kept_2.ev at h
  unfold slices_ContainsFunc_farkas_vector_int_int__farkas_table_kept_2.wp
  obtain ⟨y1, hy1, h⟩ := Option.bind_eq_some_iff.1 h
  obtain ⟨hp, hy1f⟩ : slices_IndexFunc_farkas_vector_int_int__farkas_table_kept_2.pre a1 ∧ y1 = slices_IndexFunc_farkas_vector_int_int__farkas_table_kept_2.fn a1 := ev_get hy1
  subst hy1f
  refine ⟨hp, ?_⟩
  intro x1 hx1
  replace h := evJ_eq h x1 hx1
  exact Option.some.inj h
theorem slices_ContainsFunc_farkas_vector_int_int__farkas_table_kept_2.spec (a1 : (List Int)) (h : slices_ContainsFunc_farkas_vector_int_int__farkas_table_kept_2.pre a1) : slices_ContainsFunc_farkas_vector_int_int__farkas_table_kept_2.wp a1 (fun x => x = slices_ContainsFunc_farkas_vector_int_int__farkas_table_kept_2.fn a1) := by
  obtain ⟨r, hr⟩ := Option.isSome_iff_exists.1 h
  have hf : slices_ContainsFunc_farkas_vector_int_int__farkas_table_kept_2.fn a1 = r := by show Option.getD _ _ = r; rw [hr]; rfl
  rw [hf]
  exact slices_ContainsFunc_farkas_vector_int_int__farkas_table_kept_2.ev_wp a1 r hr

theorem farkas_table_kept.ev_wp (a1 : farkas_table) (a2 : (List farkas_row)) (r : farkas_table × Int) (h : farkas_table_kept.ev a1 a2 = some r) : farkas_table_kept.wp a1 a2 (fun x => x = r) := by
  unfold farkas_table_kept.ev at h
  unfold farkas_table_kept.wp
  intro _
  obtain ⟨iI7, hI70, hI7s, h⟩ := ev_rec2 h
  refine ⟨fun nn (x3 : Int) (x4 : (List farkas_row)) => iI7 nn x3 x4 = some r, ⟨_, h⟩, ?_⟩
  intro nn x3 x4 h
  cases nn with
  | zero => rw [hI70] at h; cases h
  | succ nn =>
    rw [hI7s] at h
    refine ⟨fun hc => ?_, fun hc => ?_⟩
    · replace h := of_pos hc h
      obtain ⟨hp, h⟩ := of_if h
      refine ⟨hp, ?_⟩
      intro x8 hx8
      replace h := evJ_eq h x8 hx8
      obtain ⟨y1, hy1, h⟩ := Option.bind_eq_some_iff.1 h
      obtain ⟨hp, hy1f⟩ : farkas_row_reduced.pre x8 ∧ y1 = farkas_row_reduced.fn x8 := ev_get hy1
      subst hy1f
      refine ⟨hp, ?_⟩
      intro x9 hx9
      replace h := evJ_eq h x9 hx9
      obtain ⟨y2, hy2, h⟩ := Option.bind_eq_some_iff.1 h
      obtain ⟨hp, hy2f⟩ : slices_ContainsFunc_Sfarkas_row_farkas_row__farkas_table_kept_1.pre x4 x9.1 x9.2 a1.1 a1.2 ∧ y2 = slices_ContainsFunc_Sfarkas_row_farkas_row__farkas_table_kept_1.fn x4 x9.1 x9.2 a1.1 a1.2 := ev_get hy2
      subst hy2f
      refine ⟨hp, ?_⟩
      refine ⟨fun hc => ?_, fun hc => ?_⟩
      · replace h := of_pos hc h
        obtain ⟨hp, h⟩ := of_if h
        refine ⟨hp, ?_⟩
        obtain ⟨hp, h⟩ := of_if h
        refine ⟨hp, ?_⟩
        exact ⟨_, Nat.lt_succ_self _, h⟩
      · replace h := of_neg (ne_false_of_eq_true hc) h
        obtain ⟨hp, h⟩ := of_if h
        refine ⟨hp, ?_⟩
        exact ⟨_, Nat.lt_succ_self _, h⟩
    · replace h := of_neg (hc) h
      refine ⟨fun hc => ?_, fun hc => ?_⟩
      · replace h := of_pos hc h
        exact Option.some.inj h
      · replace h := of_neg (hc) h
        obtain ⟨iI13, hI130, hI13s, h⟩ := ev_rec1 h
        refine ⟨fun nn (x11 : Int) => iI13 nn x11 = some r, ⟨_, h⟩, ?_⟩
        intro nn x11 h
        cases nn with
        | zero => rw [hI130] at h; cases h
        | succ nn =>
          rw [hI13s] at h
          refine ⟨fun hc => ?_, fun hc => ?_⟩
          · replace h := of_pos hc h
            obtain ⟨hp, h⟩ := of_if h
            refine ⟨hp, ?_⟩
            obtain ⟨hp, h⟩ := of_if h
            refine ⟨hp, ?_⟩
            intro x14 hx14
            replace h := evJ_eq h x14 hx14
            obtain ⟨y3, hy3, h⟩ := Option.bind_eq_some_iff.1 h
            obtain ⟨hp, hy3f⟩ : slices_ContainsFunc_farkas_vector_int_int__farkas_table_kept_2.pre x14.2 ∧ y3 = slices_ContainsFunc_farkas_vector_int_int__farkas_table_kept_2.fn x14.2 := ev_get hy3
            subst hy3f
            refine ⟨hp, ?_⟩
            refine ⟨fun hc => ?_, fun hc => ?_⟩
            · replace h := of_pos hc h
              exact Option.some.inj h
            · replace h := of_neg (ne_true_of_eq_false hc) h
              obtain ⟨hp, h⟩ := of_if h
              refine ⟨hp, ?_⟩
              exact ⟨_, Nat.lt_succ_self _, h⟩
          · replace h := of_neg (hc) h
            exact Option.some.inj h
theorem farkas_table_kept.spec (a1 : farkas_table) (a2 : (List farkas_row)) (h : farkas_table_kept.pre a1 a2) : farkas_table_kept.wp a1 a2 (fun x => x = farkas_table_kept.fn a1 a2) := by
  obtain ⟨r, hr⟩ := Option.isSome_iff_exists.1 h
  have hf : farkas_table_kept.fn a1 a2 = r := by show Option.getD _ _ = r; rw [hr]; rfl
  rw [hf]
  exact farkas_table_kept.ev_wp a1 a2 r hr

theorem farkas_table_solver.ev_wp (a1 : farkas_table) (a2 : Int) (r : Int) (h : farkas_table_solver.ev a1 a2 = some r) : farkas_table_solver.wp a1 a2 (fun x => x = r) := by
  unfold farkas_table_solver.ev at h
  unfold farkas_table_solver.wp
  intro _
  obtain ⟨iI5, hI50, hI5s, h⟩ := ev_rec2 h
  refine ⟨fun nn (x1 : Int) (x2 : Int) => iI5 nn x1 x2 = some r, ⟨_, h⟩, ?_⟩
  intro nn x1 x2 h
  cases nn with
  | zero => rw [hI50] at h; cases h
  | succ nn =>
    rw [hI5s] at h
    refine ⟨fun hc => ?_, fun hc => ?_⟩
    · replace h := of_pos hc h
      obtain ⟨hp, h⟩ := of_if h
      refine ⟨hp, ?_⟩
      intro x6 hx6
      replace h := evJ_eq h x6 hx6
      obtain ⟨hp, h⟩ := of_if h
      refine ⟨hp, ?_⟩
      obtain ⟨hp, h⟩ := of_if h
      refine ⟨hp, ?_⟩
      obtain ⟨hp, h⟩ := of_if h
      refine ⟨hp, ?_⟩
      obtain ⟨hp, h⟩ := of_if h
      refine ⟨hp, ?_⟩
      obtain ⟨hp, h⟩ := of_if h
      refine ⟨hp, ?_⟩
      obtain ⟨hp, h⟩ := of_if h
      refine ⟨hp, ?_⟩
      obtain ⟨hp, h⟩ := of_if h
      refine ⟨hp, ?_⟩
      obtain ⟨hp, h⟩ := of_if h
      refine ⟨hp, ?_⟩
      obtain ⟨hp, h⟩ := of_if h
      refine ⟨hp, ?_⟩
      intro x7 hx7
      replace h := evJ_eq h x7 hx7
      refine ⟨fun hc => ?_, fun hc => ?_⟩
      · replace h := of_pos hc h
        obtain ⟨hp, h⟩ := of_if h
        refine ⟨hp, ?_⟩
        exact ⟨_, Nat.lt_succ_self _, h⟩
      · replace h := of_neg (ne_true_of_eq_false hc) h
        obtain ⟨hp, h⟩ := of_if h
        refine ⟨hp, ?_⟩
        exact ⟨_, Nat.lt_succ_self _, h⟩
    · replace h := of_neg (hc) h
      exact Option.some.inj h
theorem farkas_table_solver.spec (a1 : farkas_table) (a2 : Int) (h : farkas_table_solver.pre a1 a2) : farkas_table_solver.wp a1 a2 (fun x => x = farkas_table_solver.fn a1 a2) := by
  obtain ⟨r, hr⟩ := Option.isSome_iff_exists.1 h
  have hf : farkas_table_solver.fn a1 a2 = r := by show Option.getD _ _ = r; rw [hr]; rfl
  rw [hf]
  exact farkas_table_solver.ev_wp a1 a2 r hr

theorem farkas_vector_int_sum.ev_wp (a1 : (List Int)) (a2 : Int) (a3 : Int) (a4 : (List Int)) (r : (List Int)) (h : farkas_vector_int_sum.ev a1 a2 a3 a4 = some r) : farkas_vector_int_sum.wp a1 a2 a3 a4 (fun x => x = r) := by
  unfold farkas_vector_int_sum.ev at h
  unfold farkas_vector_int_sum.wp
  obtain ⟨hp, h⟩ := of_if h
  refine ⟨hp, ?_⟩
  intro x1 hx1
  replace h := evJ_eq h x1 hx1
  intro _
  intro _
  obtain ⟨iI8, hI80, hI8s, h⟩ := ev_rec2 h
  refine ⟨fun nn (x4 : Int) (x5 : (List Int)) => iI8 nn x4 x5 = some r, ⟨_, h⟩, ?_⟩
  intro nn x4 x5 h
  cases nn with
  | zero => rw [hI80] at h; cases h
  | succ nn =>
    rw [hI8s] at h
    refine ⟨fun hc => ?_, fun hc => ?_⟩
    · replace h := of_pos hc h
      obtain ⟨hp, h⟩ := of_if h
      refine ⟨hp, ?_⟩
      obtain ⟨hp, h⟩ := of_if h
      refine ⟨hp, ?_⟩
      obtain ⟨hp, h⟩ := of_if h
      refine ⟨hp, ?_⟩
      obtain ⟨hp, h⟩ := of_if h
      refine ⟨hp, ?_⟩
      obtain ⟨hp, h⟩ := of_if h
      refine ⟨hp, ?_⟩
      obtain ⟨hp, h⟩ := of_if h
      refine ⟨hp, ?_⟩
      obtain ⟨hp, h⟩ := of_if h
      refine ⟨hp, ?_⟩
      intro x9 hx9
      replace h := evJ_eq h x9 hx9
      obtain ⟨hp, h⟩ := of_if h
      refine ⟨hp, ?_⟩
      exact ⟨_, Nat.lt_succ_self _, h⟩
    · replace h := of_neg (hc) h
      exact Option.some.inj h
theorem farkas_vector_int_sum.spec (a1 : (List Int)) (a2 : Int) (a3 : Int) (a4 : (List Int)) (h : farkas_vector_int_sum.pre a1 a2 a3 a4) : farkas_vector_int_sum.wp a1 a2 a3 a4 (fun x => x = farkas_vector_int_sum.fn a1 a2 a3 a4) := by
  obtain ⟨r, hr⟩ := Option.isSome_iff_exists.1 h
  have hf : farkas_vector_int_sum.fn a1 a2 a3 a4 = r := by show Option.getD _ _ = r; rw [hr]; rfl
  rw [hf]
  exact farkas_vector_int_sum.ev_wp a1 a2 a3 a4 r hr

theorem farkas_table_without.ev_wp (a1 : farkas_table) (a2 : Int) (r : farkas_table × Int) (h : farkas_table_without.ev a1 a2 = some r) : farkas_table_without.wp a1 a2 (fun x => x = r) := by
  unfold farkas_table_without.ev at h
  unfold farkas_table_without.wp
  obtain ⟨y1, hy1, h⟩ := Option.bind_eq_some_iff.1 h
  obtain ⟨hp, hy1f⟩ : farkas_table_solver.pre a1 a2 ∧ y1 = farkas_table_solver.fn a1 a2 := ev_get hy1
  subst hy1f
  refine ⟨hp, ?_⟩
  intro x1 hx1
  replace h := evJ_eq h x1 hx1
  refine ⟨fun hc => ?_, fun hc => ?_⟩
  · replace h := of_pos hc h
    obtain ⟨hp, h⟩ := of_if h
    refine ⟨hp, ?_⟩
    intro x2 hx2
    replace h := evJ_eq h x2 hx2
    obtain ⟨hp, h⟩ := of_if h
    refine ⟨hp, ?_⟩
    obtain ⟨jR5, hjR5, h⟩ := evJ_inv2 h
    refine ⟨fun (x3 : Int) (x4 : Int) => jR5 x3 x4 = some r, ?_, ?_⟩
    · refine ⟨fun hc => ?_, fun hc => ?_⟩
      · replace h := of_pos hc h
        obtain ⟨hp, h⟩ := of_if h
        refine ⟨hp, ?_⟩
        exact h
      · replace h := of_neg (hc) h
        exact h
    · intro x3 x4 h
      rw [hjR5] at h
      intro _
      obtain ⟨iI12, hI120, hI12s, h⟩ := ev_rec2 h
      refine ⟨fun nn (x8 : Int) (x9 : (List farkas_row)) => iI12 nn x8 x9 = some r, ⟨_, h⟩, ?_⟩
      intro nn x8 x9 h
      cases nn with
      | zero => rw [hI120] at h; cases h
      | succ nn =>
        rw [hI12s] at h
        refine ⟨fun hc => ?_, fun hc => ?_⟩
        · replace h := of_pos hc h
          obtain ⟨hp, h⟩ := of_if h
          refine ⟨hp, ?_⟩
          intro x13 hx13
          replace h := evJ_eq h x13 hx13
          refine ⟨fun hc => ?_, fun hc => ?_⟩
          · replace h := of_pos hc h
            obtain ⟨hp, h⟩ := of_if h
            refine ⟨hp, ?_⟩
            exact ⟨_, Nat.lt_succ_self _, h⟩
          · replace h := of_neg (hc) h
            obtain ⟨hp, h⟩ := of_if h
            refine ⟨hp, ?_⟩
            refine ⟨fun hc => ?_, fun hc => ?_⟩
            · replace h := of_pos hc h
              obtain ⟨hp, h⟩ := of_if h
              refine ⟨hp, ?_⟩
              obtain ⟨hp, h⟩ := of_if h
              refine ⟨hp, ?_⟩
              exact ⟨_, Nat.lt_succ_self _, h⟩
            · replace h := of_neg (hc) h
              obtain ⟨hp, h⟩ := of_if h
              refine ⟨hp, ?_⟩
              obtain ⟨hp, h⟩ := of_if h
              refine ⟨hp, ?_⟩
              obtain ⟨hp, h⟩ := of_if h
              refine ⟨hp, ?_⟩
              obtain ⟨y2, hy2, h⟩ := Option.bind_eq_some_iff.1 h
              obtain ⟨hp, hy2f⟩ : farkas_vector_int_sum.pre x13.2 x4 ((-x3) * (gI x13.2 a2)) x2.2 ∧ y2 = farkas_vector_int_sum.fn x13.2 x4 ((-x3) * (gI x13.2 a2)) x2.2 := ev_get hy2
              subst hy2f
              refine ⟨hp, ?_⟩
              obtain ⟨hp, h⟩ := of_if h
              refine ⟨hp, ?_⟩
              intro x14 hx14
              replace h := evJ_eq h x14 hx14
              obtain ⟨hp, h⟩ := of_if h
              refine ⟨hp, ?_⟩
              exact ⟨_, Nat.lt_succ_self _, h⟩
        · replace h := of_neg (hc) h
          obtain ⟨y3, hy3, h⟩ := Option.bind_eq_some_iff.1 h
          obtain ⟨hp, hy3f⟩ : farkas_table_kept.pre a1 x9 ∧ y3 = farkas_table_kept.fn a1 x9 := ev_get hy3
          subst hy3f
          refine ⟨hp, ?_⟩
          intro x15 hx15
          replace h := evJ_eq h x15 hx15
          intro x16 hx16
          replace h := evJ_eq h x16 hx16
          intro x17 hx17
          replace h := evJ_eq h x17 hx17
          exact Option.some.inj h
  · replace h := of_neg (hc) h
    intro _
    obtain ⟨iI24, hI240, hI24s, h⟩ := ev_rec2 h
    refine ⟨fun nn (x20 : Int) (x21 : (List farkas_row)) => iI24 nn x20 x21 = some r, ⟨_, h⟩, ?_⟩
    intro nn x20 x21 h
    cases nn with
    | zero => rw [hI240] at h; cases h
    | succ nn =>
      rw [hI24s] at h
      refine ⟨fun hc => ?_, fun hc => ?_⟩
      · replace h := of_pos hc h
        obtain ⟨hp, h⟩ := of_if h
        refine ⟨hp, ?_⟩
        intro x25 hx25
        replace h := evJ_eq h x25 hx25
        obtain ⟨hp, h⟩ := of_if h
        refine ⟨hp, ?_⟩
        refine ⟨fun hc => ?_, fun hc => ?_⟩
        · replace h := of_pos hc h
          obtain ⟨hp, h⟩ := of_if h
          refine ⟨hp, ?_⟩
          obtain ⟨hp, h⟩ := of_if h
          refine ⟨hp, ?_⟩
          exact ⟨_, Nat.lt_succ_self _, h⟩
        · replace h := of_neg (hc) h
          obtain ⟨hp, h⟩ := of_if h
          refine ⟨hp, ?_⟩
          exact ⟨_, Nat.lt_succ_self _, h⟩
      · replace h := of_neg (hc) h
        intro _
        obtain ⟨iI32, hI320, hI32s, h⟩ := ev_rec2 h
        refine ⟨fun nn (x28 : Int) (x29 : (List farkas_row)) => iI32 nn x28 x29 = some r, ⟨_, h⟩, ?_⟩
        intro nn x28 x29 h
        cases nn with
        | zero => rw [hI320] at h; cases h
        | succ nn =>
          rw [hI32s] at h
          refine ⟨fun hc => ?_, fun hc => ?_⟩
          · replace h := of_pos hc h
            obtain ⟨hp, h⟩ := of_if h
            refine ⟨hp, ?_⟩
            intro x33 hx33
            replace h := evJ_eq h x33 hx33
            intro _
            obtain ⟨iI40, hI400, hI40s, h⟩ := ev_rec2 h
            refine ⟨fun nn (x36 : Int) (x37 : (List farkas_row)) => iI40 nn x36 x37 = some r, ⟨_, h⟩, ?_⟩
            intro nn x36 x37 h
            cases nn with
            | zero => rw [hI400] at h; cases h
            | succ nn =>
              rw [hI40s] at h
              refine ⟨fun hc => ?_, fun hc => ?_⟩
              · replace h := of_pos hc h
                obtain ⟨hp, h⟩ := of_if h
                refine ⟨hp, ?_⟩
                intro x41 hx41
                replace h := evJ_eq h x41 hx41
                obtain ⟨hp, h⟩ := of_if h
                refine ⟨hp, ?_⟩
                obtain ⟨hp, h⟩ := of_if h
                refine ⟨hp, ?_⟩
                refine ⟨fun hc => ?_, fun hc => ?_⟩
                · replace h := of_pos hc h
                  obtain ⟨hp, h⟩ := of_if h
                  refine ⟨hp, ?_⟩
                  obtain ⟨hp, h⟩ := of_if h
                  refine ⟨hp, ?_⟩
                  obtain ⟨hp, h⟩ := of_if h
                  refine ⟨hp, ?_⟩
                  obtain ⟨y4, hy4, h⟩ := Option.bind_eq_some_iff.1 h
                  obtain ⟨hp, hy4f⟩ : farkas_vector_int_sum.pre x33.2 (-(gI x41.2 a2)) (gI x33.2 a2) x41.2 ∧ y4 = farkas_vector_int_sum.fn x33.2 (-(gI x41.2 a2)) (gI x33.2 a2) x41.2 := ev_get hy4
                  subst hy4f
                  refine ⟨hp, ?_⟩
                  obtain ⟨hp, h⟩ := of_if h
                  refine ⟨hp, ?_⟩
                  intro x42 hx42
                  replace h := evJ_eq h x42 hx42
                  obtain ⟨hp, h⟩ := of_if h
                  refine ⟨hp, ?_⟩
                  exact ⟨_, Nat.lt_succ_self _, h⟩
                · replace h := of_neg (ne_true_of_eq_false hc) h
                  obtain ⟨hp, h⟩ := of_if h
                  refine ⟨hp, ?_⟩
                  exact ⟨_, Nat.lt_succ_self _, h⟩
              · replace h := of_neg (hc) h
                obtain ⟨hp, h⟩ := of_if h
                refine ⟨hp, ?_⟩
                exact ⟨_, Nat.lt_succ_self _, h⟩
          · replace h := of_neg (hc) h
            obtain ⟨y5, hy5, h⟩ := Option.bind_eq_some_iff.1 h
            obtain ⟨hp, hy5f⟩ : farkas_table_kept.pre a1 x29 ∧ y5 = farkas_table_kept.fn a1 x29 := ev_get hy5
            subst hy5f
            refine ⟨hp, ?_⟩
            intro x43 hx43
            replace h := evJ_eq h x43 hx43
            intro x44 hx44
            replace h := evJ_eq h x44 hx44
            intro x45 hx45
            replace h := evJ_eq h x45 hx45
            intro x46 hx46
            replace h := evJ_eq h x46 hx46
            exact Option.some.inj h
theorem farkas_table_without.spec (a1 : farkas_table) (a2 : Int) (h : farkas_table_without.pre a1 a2) : farkas_table_without.wp a1 a2 (fun x => x = farkas_table_without.fn a1 a2) := by
  obtain ⟨r, hr⟩ := Option.isSome_iff_exists.1 h
  have hf : farkas_table_without.fn a1 a2 = r := by show Option.getD _ _ = r; rw [hr]; rfl
  rw [hf]
  exact farkas_table_without.ev_wp a1 a2 r hr

theorem farkas_eliminated.ev_wp (a1 : (List api_Cond)) (a2 : Int) (r : (List farkas_table) × Int) (h : farkas_eliminated.ev a1 a2 = some r) : farkas_eliminated.wp a1 a2 (fun x => x = r) := by
  unfold farkas_eliminated.ev at h
  unfold farkas_eliminated.wp
  obtain ⟨hp, h⟩ := of_if h
  refine ⟨hp, ?_⟩
  obtain ⟨hp, h⟩ := of_if h
  refine ⟨hp, ?_⟩
  intro x1 hx1
  replace h := evJ_eq h x1 hx1
  obtain ⟨y1, hy1, h⟩ := Option.bind_eq_some_iff.1 h
  obtain ⟨hp, hy1f⟩ : farkas_first.pre a1 a2 ∧ y1 = farkas_first.fn a1 a2 := ev_get hy1
  subst hy1f
  refine ⟨hp, ?_⟩
  obtain ⟨hp, h⟩ := of_if h
  refine ⟨hp, ?_⟩
  obtain ⟨hp, h⟩ := of_if h
  refine ⟨hp, ?_⟩
  intro x2 hx2
  replace h := evJ_eq h x2 hx2
  intro x3 hx3
  replace h := evJ_eq h x3 hx3
  obtain ⟨hp, h⟩ := of_if h
  refine ⟨hp, ?_⟩
  obtain ⟨iI10, hI100, hI10s, h⟩ := ev_rec2 h
  refine ⟨fun nn (x6 : Int) (x7 : (List farkas_table)) => iI10 nn x6 x7 = some r, ⟨_, h⟩, ?_⟩
  intro nn x6 x7 h
  cases nn with
  | zero => rw [hI100] at h; cases h
  | succ nn =>
    rw [hI10s] at h
    refine ⟨fun hc => ?_, fun hc => ?_⟩
    · replace h := of_pos hc h
      obtain ⟨hp, h⟩ := of_if h
      refine ⟨hp, ?_⟩
      obtain ⟨hp, h⟩ := of_if h
      refine ⟨hp, ?_⟩
      obtain ⟨hp, h⟩ := of_if h
      refine ⟨hp, ?_⟩
      obtain ⟨y2, hy2, h⟩ := Option.bind_eq_some_iff.1 h
      obtain ⟨hp, hy2f⟩ : farkas_table_without.pre (x7.getD (Int.toNat (x6 + (1 : Int))) d_farkas_table) x6 ∧ y2 = farkas_table_without.fn (x7.getD (Int.toNat (x6 + (1 : Int))) d_farkas_table) x6 := ev_get hy2
      subst hy2f
      refine ⟨hp, ?_⟩
      obtain ⟨hp, h⟩ := of_if h
      refine ⟨hp, ?_⟩
      obtain ⟨hp, h⟩ := of_if h
      refine ⟨hp, ?_⟩
      intro x11 hx11
      replace h := evJ_eq h x11 hx11
      intro x12 hx12
      replace h := evJ_eq h x12 hx12
      intro x13 hx13
      replace h := evJ_eq h x13 hx13
      refine ⟨fun hc => ?_, fun hc => ?_⟩
      · replace h := of_pos hc h
        exact Option.some.inj h
      · replace h := of_neg (fun hne => hne hc) h
        obtain ⟨hp, h⟩ := of_if h
        refine ⟨hp, ?_⟩
        exact ⟨_, Nat.lt_succ_self _, h⟩
    · replace h := of_neg (hc) h
      exact Option.some.inj h
theorem farkas_eliminated.spec (a1 : (List api_Cond)) (a2 : Int) (h : farkas_eliminated.pre a1 a2) : farkas_eliminated.wp a1 a2 (fun x => x = farkas_eliminated.fn a1 a2) := by
  obtain ⟨r, hr⟩ := Option.isSome_iff_exists.1 h
  have hf : farkas_eliminated.fn a1 a2 = r := by show Option.getD _ _ = r; rw [hr]; rfl
  rw [hf]
  exact farkas_eliminated.ev_wp a1 a2 r hr

theorem farkas_size.ev_wp (a1 : Int) (r : Int) (h : farkas_size.ev a1 = some r) : farkas_size.wp a1 (fun x => x = r) := by
  unfold farkas_size.ev at h
  unfold farkas_size.wp
  refine ⟨fun hc => ?_, fun hc => ?_⟩
  · replace h := of_pos hc h
    intro x1 hx1
    replace h := evJ_eq h x1 hx1
    exact Option.some.inj h
  · replace h := of_neg (hc) h
    exact Option.some.inj h
theorem farkas_size.spec (a1 : Int) (h : farkas_size.pre a1) : farkas_size.wp a1 (fun x => x = farkas_size.fn a1) := by
  obtain ⟨r, hr⟩ := Option.isSome_iff_exists.1 h
  have hf : farkas_size.fn a1 = r := by show Option.getD _ _ = r; rw [hr]; rfl
  rw [hf]
  exact farkas_size.ev_wp a1 r hr

theorem math_bits_Mul64.ev_wp (a1 : Int) (a2 : Int) (r : Int × Int) (h : math_bits_Mul64.ev a1 a2 = some r) : math_bits_Mul64.wp a1 a2 (fun x => x = r) := by
  unfold math_bits_Mul64.ev at h
  unfold math_bits_Mul64.wp
  intro x1 hx1
  replace h := evJ_eq h x1 hx1
  obtain ⟨hp, h⟩ := of_if h
  refine ⟨hp, ?_⟩
  intro x2 hx2
  replace h := evJ_eq h x2 hx2
  intro x3 hx3
  replace h := evJ_eq h x3 hx3
  obtain ⟨hp, h⟩ := of_if h
  refine ⟨hp, ?_⟩
  intro x4 hx4
  replace h := evJ_eq h x4 hx4
  obtain ⟨hp, h⟩ := of_if h
  refine ⟨hp, ?_⟩
  intro x5 hx5
  replace h := evJ_eq h x5 hx5
  intro x6 hx6
  replace h := evJ_eq h x6 hx6
  obtain ⟨hp, h⟩ := of_if h
  refine ⟨hp, ?_⟩
  intro x7 hx7
  replace h := evJ_eq h x7 hx7
  intro x8 hx8
  replace h := evJ_eq h x8 hx8
  obtain ⟨hp, h⟩ := of_if h
  refine ⟨hp, ?_⟩
  intro x9 hx9
  replace h := evJ_eq h x9 hx9
  exact Option.some.inj h
theorem math_bits_Mul64.spec (a1 : Int) (a2 : Int) (h : math_bits_Mul64.pre a1 a2) : math_bits_Mul64.wp a1 a2 (fun x => x = math_bits_Mul64.fn a1 a2) := by
  obtain ⟨r, hr⟩ := Option.isSome_iff_exists.1 h
  have hf : math_bits_Mul64.fn a1 a2 = r := by show Option.getD _ _ = r; rw [hr]; rfl
  rw [hf]
  exact math_bits_Mul64.ev_wp a1 a2 r hr

theorem farkas_fraction_less.ev_wp (a1 : farkas_fraction) (a2 : farkas_fraction) (r : Bool) (h : farkas_fraction_less.ev a1 a2 = some r) : farkas_fraction_less.wp a1 a2 (fun x => x = r) := by
  unfold farkas_fraction_less.ev at h
  unfold farkas_fraction_less.wp
  refine ⟨fun hc => ?_, fun hc => ?_⟩
  · replace h := of_pos hc h
    exact Option.some.inj h
  · replace h := of_neg (fun hne => hne hc) h
    obtain ⟨y1, hy1, h⟩ := Option.bind_eq_some_iff.1 h
    obtain ⟨hp, hy1f⟩ : farkas_size.pre a1.1 ∧ y1 = farkas_size.fn a1.1 := ev_get hy1
    subst hy1f
    refine ⟨hp, ?_⟩
    obtain ⟨y2, hy2, h⟩ := Option.bind_eq_some_iff.1 h
    obtain ⟨hp, hy2f⟩ : math_bits_Mul64.pre (farkas_size.fn a1.1) (IntKind.wrap .u64 a2.2) ∧ y2 = math_bits_Mul64.fn (farkas_size.fn a1.1) (IntKind.wrap .u64 a2.2) := ev_get hy2
    subst hy2f
    refine ⟨hp, ?_⟩
    intro x1 hx1
    replace h := evJ_eq h x1 hx1
    intro x2 hx2
    replace h := evJ_eq h x2 hx2
    intro x3 hx3
    replace h := evJ_eq h x3 hx3
    intro x4 hx4
    replace h := evJ_eq h x4 hx4
    obtain ⟨y3, hy3, h⟩ := Option.bind_eq_some_iff.1 h
    obtain ⟨hp, hy3f⟩ : farkas_size.pre a2.1 ∧ y3 = farkas_size.fn a2.1 := ev_get hy3
    subst hy3f
    refine ⟨hp, ?_⟩
    obtain ⟨y4, hy4, h⟩ := Option.bind_eq_some_iff.1 h
    obtain ⟨hp, hy4f⟩ : math_bits_Mul64.pre (farkas_size.fn a2.1) (IntKind.wrap .u64 a1.2) ∧ y4 = math_bits_Mul64.fn (farkas_size.fn a2.1) (IntKind.wrap .u64 a1.2) := ev_get hy4
    subst hy4f
    refine ⟨hp, ?_⟩
    intro x5 hx5
    replace h := evJ_eq h x5 hx5
    intro x6 hx6
    replace h := evJ_eq h x6 hx6
    intro x7 hx7
    replace h := evJ_eq h x7 hx7
    intro x8 hx8
    replace h := evJ_eq h x8 hx8
    obtain ⟨jR13, hjR13, h⟩ := evJ_inv4 h
    refine ⟨fun (x9 : Int) (x10 : Int) (x11 : Int) (x12 : Int) => jR13 x9 x10 x11 x12 = some r, ?_, ?_⟩
    · refine ⟨fun hc => ?_, fun hc => ?_⟩
      · replace h := of_pos hc h
        exact h
      · replace h := of_neg (hc) h
        exact h
    · intro x9 x10 x11 x12 h
      rw [hjR13] at h
      exact Option.some.inj h
theorem farkas_fraction_less.spec (a1 : farkas_fraction) (a2 : farkas_fraction) (h : farkas_fraction_less.pre a1 a2) : farkas_fraction_less.wp a1 a2 (fun x => x = farkas_fraction_less.fn a1 a2) := by
  obtain ⟨r, hr⟩ := Option.isSome_iff_exists.1 h
  have hf : farkas_fraction_less.fn a1 a2 = r := by show Option.getD _ _ = r; rw [hr]; rfl
  rw [hf]
  exact farkas_fraction_less.ev_wp a1 a2 r hr

theorem farkas_point_bound.ev_wp (a1 : farkas_point) (a2 : farkas_row) (a3 : Int) (r : farkas_fraction) (h : farkas_point_bound.ev a1 a2 a3 = some r) : farkas_point_bound.wp a1 a2 a3 (fun x => x = r) := by
  unfold farkas_point_bound.ev at h
  unfold farkas_point_bound.wp
  intro _
  obtain ⟨hp, h⟩ := of_if h
  refine ⟨hp, ?_⟩
  obtain ⟨hp, h⟩ := of_if h
  refine ⟨hp, ?_⟩
  intro _
  obtain ⟨iI7, hI70, hI7s, h⟩ := ev_rec2 h
  refine ⟨fun nn (x3 : Int) (x4 : Int) => iI7 nn x3 x4 = some r, ⟨_, h⟩, ?_⟩
  intro nn x3 x4 h
  cases nn with
  | zero => rw [hI70] at h; cases h
  | succ nn =>
    rw [hI7s] at h
    refine ⟨fun hc => ?_, fun hc => ?_⟩
    · replace h := of_pos hc h
      obtain ⟨hp, h⟩ := of_if h
      refine ⟨hp, ?_⟩
      obtain ⟨hp, h⟩ := of_if h
      refine ⟨hp, ?_⟩
      obtain ⟨hp, h⟩ := of_if h
      refine ⟨hp, ?_⟩
      obtain ⟨hp, h⟩ := of_if h
      refine ⟨hp, ?_⟩
      intro x8 hx8
      replace h := evJ_eq h x8 hx8
      obtain ⟨hp, h⟩ := of_if h
      refine ⟨hp, ?_⟩
      exact ⟨_, Nat.lt_succ_self _, h⟩
    · replace h := of_neg (hc) h
      obtain ⟨hp, h⟩ := of_if h
      refine ⟨hp, ?_⟩
      refine ⟨fun hc => ?_, fun hc => ?_⟩
      · replace h := of_pos hc h
        obtain ⟨hp, h⟩ := of_if h
        refine ⟨hp, ?_⟩
        obtain ⟨hp, h⟩ := of_if h
        refine ⟨hp, ?_⟩
        exact Option.some.inj h
      · replace h := of_neg (hc) h
        obtain ⟨hp, h⟩ := of_if h
        refine ⟨hp, ?_⟩
        obtain ⟨hp, h⟩ := of_if h
        refine ⟨hp, ?_⟩
        exact Option.some.inj h
theorem farkas_point_bound.spec (a1 : farkas_point) (a2 : farkas_row) (a3 : Int) (h : farkas_point_bound.pre a1 a2 a3) : farkas_point_bound.wp a1 a2 a3 (fun x => x = farkas_point_bound.fn a1 a2 a3) := by
  obtain ⟨r, hr⟩ := Option.isSome_iff_exists.1 h
  have hf : farkas_point_bound.fn a1 a2 a3 = r := by show Option.getD _ _ = r; rw [hr]; rfl
  rw [hf]
  exact farkas_point_bound.ev_wp a1 a2 a3 r hr

theorem farkas_point_value.ev_wp (a1 : farkas_point) (a2 : farkas_table) (r : farkas_fraction) (h : farkas_point_value.ev a1 a2 = some r) : farkas_point_value.wp a1 a2 (fun x => x = r) := by
  unfold farkas_point_value.ev at h
  unfold farkas_point_value.wp
  intro _
  intro _
  obtain ⟨iI15, hI150, hI15s, h⟩ := ev_rec7 h
  refine ⟨fun nn (x1 : Bool) (x2 : Int) (x3 : Int) (x4 : Bool) (x5 : Int) (x6 : Int) (x7 : Int) => iI15 nn x1 x2 x3 x4 x5 x6 x7 = some r, ⟨_, h⟩, ?_⟩
  intro nn x1 x2 x3 x4 x5 x6 x7 h
  cases nn with
  | zero => rw [hI150] at h; cases h
  | succ nn =>
    rw [hI15s] at h
    refine ⟨fun hc => ?_, fun hc => ?_⟩
    · replace h := of_pos hc h
      obtain ⟨hp, h⟩ := of_if h
      refine ⟨hp, ?_⟩
      intro x16 hx16
      replace h := evJ_eq h x16 hx16
      obtain ⟨hp, h⟩ := of_if h
      refine ⟨hp, ?_⟩
      refine ⟨fun hc => ?_, fun hc => ?_⟩
      · replace h := of_pos hc h
        obtain ⟨hp, h⟩ := of_if h
        refine ⟨hp, ?_⟩
        exact ⟨_, Nat.lt_succ_self _, h⟩
      · replace h := of_neg (hc) h
        obtain ⟨y1, hy1, h⟩ := Option.bind_eq_some_iff.1 h
        obtain ⟨hp, hy1f⟩ : farkas_point_bound.pre a1 x16 a2.1 ∧ y1 = farkas_point_bound.fn a1 x16 a2.1 := ev_get hy1
        subst hy1f
        refine ⟨hp, ?_⟩
        intro x17 hx17
        replace h := evJ_eq h x17 hx17
        intro x18 hx18
        replace h := evJ_eq h x18 hx18
        intro x19 hx19
        replace h := evJ_eq h x19 hx19
        refine ⟨fun hc => ?_, fun hc => ?_⟩
        · replace h := of_pos hc h
          exact Option.some.inj h
        · replace h := of_neg (ne_true_of_eq_false hc) h
          obtain ⟨hp, h⟩ := of_if h
          refine ⟨hp, ?_⟩
          refine ⟨fun hc => ?_, fun hc => ?_⟩
          · replace h := of_pos hc h
            obtain ⟨hp, h⟩ := of_if h
            refine ⟨hp, ?_⟩
            refine ⟨fun hc => ?_, fun hc => ?_⟩
            · replace h := of_pos hc h
              obtain ⟨hp, h⟩ := of_if h
              refine ⟨hp, ?_⟩
              exact ⟨_, Nat.lt_succ_self _, h⟩
            · replace h := of_neg (ne_true_of_eq_false hc) h
              obtain ⟨hp, h⟩ := of_if h
              refine ⟨hp, ?_⟩
              exact ⟨_, Nat.lt_succ_self _, h⟩
          · replace h := of_neg (hc) h
            obtain ⟨hp, h⟩ := of_if h
            refine ⟨hp, ?_⟩
            refine ⟨fun hc => ?_, fun hc => ?_⟩
            · replace h := of_pos hc h
              obtain ⟨hp, h⟩ := of_if h
              refine ⟨hp, ?_⟩
              exact ⟨_, Nat.lt_succ_self _, h⟩
            · replace h := of_neg (ne_true_of_eq_false hc) h
              obtain ⟨hp, h⟩ := of_if h
              refine ⟨hp, ?_⟩
              exact ⟨_, Nat.lt_succ_self _, h⟩
    · replace h := of_neg (hc) h
      refine ⟨fun hc => ?_, fun hc => ?_⟩
      · replace h := of_pos hc h
        obtain ⟨hp, h⟩ := of_if h
        refine ⟨hp, ?_⟩
        exact Option.some.inj h
      · replace h := of_neg (ne_true_of_eq_false hc) h
        refine ⟨fun hc => ?_, fun hc => ?_⟩
        · replace h := of_pos hc h
          obtain ⟨hp, h⟩ := of_if h
          refine ⟨hp, ?_⟩
          exact Option.some.inj h
        · replace h := of_neg (ne_true_of_eq_false hc) h
          exact Option.some.inj h
theorem farkas_point_value.spec (a1 : farkas_point) (a2 : farkas_table) (h : farkas_point_value.pre a1 a2) : farkas_point_value.wp a1 a2 (fun x => x = farkas_point_value.fn a1 a2) := by
  obtain ⟨r, hr⟩ := Option.isSome_iff_exists.1 h
  have hf : farkas_point_value.fn a1 a2 = r := by show Option.getD _ _ = r; rw [hr]; rfl
  rw [hf]
  exact farkas_point_value.ev_wp a1 a2 r hr

theorem farkas_point_with.ev_wp (a1 : farkas_point) (a2 : farkas_fraction) (r : farkas_point × Int) (h : farkas_point_with.ev a1 a2 = some r) : farkas_point_with.wp a1 a2 (fun x => x = r) := by
  unfold farkas_point_with.ev at h
  unfold farkas_point_with.wp
  obtain ⟨y1, hy1, h⟩ := Option.bind_eq_some_iff.1 h
  obtain ⟨hp, hy1f⟩ : num_Gcd.pre [a2.1, a2.2] ∧ y1 = num_Gcd.fn [a2.1, a2.2] := ev_get hy1
  subst hy1f
  refine ⟨hp, ?_⟩
  intro x1 hx1
  replace h := evJ_eq h x1 hx1
  obtain ⟨hp, h⟩ := of_if h
  refine ⟨hp, ?_⟩
  obtain ⟨hp, h⟩ := of_if h
  refine ⟨hp, ?_⟩
  obtain ⟨y2, hy2, h⟩ := Option.bind_eq_some_iff.1 h
  obtain ⟨hp, hy2f⟩ : num_Gcd.pre [Int.tdiv a2.1 x1.1, a1.2] ∧ y2 = num_Gcd.fn [Int.tdiv a2.1 x1.1, a1.2] := ev_get hy2
  subst hy2f
  refine ⟨hp, ?_⟩
  intro x2 hx2
  replace h := evJ_eq h x2 hx2
  intro x3 hx3
  replace h := evJ_eq h x3 hx3
  obtain ⟨hp, h⟩ := of_if h
  refine ⟨hp, ?_⟩
  obtain ⟨hp, h⟩ := of_if h
  refine ⟨hp, ?_⟩
  intro x4 hx4
  replace h := evJ_eq h x4 hx4
  obtain ⟨hp, h⟩ := of_if h
  refine ⟨hp, ?_⟩
  refine ⟨fun hc => ?_, fun hc => ?_⟩
  · replace h := of_pos hc h
    exact Option.some.inj h
  · replace h := of_neg (ne_true_of_eq_false hc) h
    obtain ⟨hp, h⟩ := of_if h
    refine ⟨hp, ?_⟩
    intro x5 hx5
    replace h := evJ_eq h x5 hx5
    obtain ⟨y3, hy3, h⟩ := Option.bind_eq_some_iff.1 h
    obtain ⟨hp, hy3f⟩ : num_Gcd.pre [x5, a1.2] ∧ y3 = num_Gcd.fn [x5, a1.2] := ev_get hy3
    subst hy3f
    refine ⟨hp, ?_⟩
    intro x6 hx6
    replace h := evJ_eq h x6 hx6
    obtain ⟨hp, h⟩ := of_if h
    refine ⟨hp, ?_⟩
    obtain ⟨hp, h⟩ := of_if h
    refine ⟨hp, ?_⟩
    refine ⟨fun hc => ?_, fun hc => ?_⟩
    · replace h := of_pos hc h
      exact Option.some.inj h
    · replace h := of_neg (hc) h
      intro _
      obtain ⟨iI13, hI130, hI13s, h⟩ := ev_rec2 h
      refine ⟨fun nn (x9 : Int) (x10 : (List Int)) => iI13 nn x9 x10 = some r, ⟨_, h⟩, ?_⟩
      intro nn x9 x10 h
      cases nn with
      | zero => rw [hI130] at h; cases h
      | succ nn =>
        rw [hI13s] at h
        refine ⟨fun hc => ?_, fun hc => ?_⟩
        · replace h := of_pos hc h
          obtain ⟨hp, h⟩ := of_if h
          refine ⟨hp, ?_⟩
          obtain ⟨hp, h⟩ := of_if h
          refine ⟨hp, ?_⟩
          obtain ⟨hp, h⟩ := of_if h
          refine ⟨hp, ?_⟩
          obtain ⟨hp, h⟩ := of_if h
          refine ⟨hp, ?_⟩
          intro x14 hx14
          replace h := evJ_eq h x14 hx14
          obtain ⟨hp, h⟩ := of_if h
          refine ⟨hp, ?_⟩
          exact ⟨_, Nat.lt_succ_self _, h⟩
        · replace h := of_neg (hc) h
          refine ⟨fun hc => ?_, fun hc => ?_⟩
          · replace h := of_pos hc h
            exact Option.some.inj h
          · replace h := of_neg (ne_true_of_eq_false hc) h
            obtain ⟨hp, h⟩ := of_if h
            refine ⟨hp, ?_⟩
            obtain ⟨hp, h⟩ := of_if h
            refine ⟨hp, ?_⟩
            obtain ⟨hp, h⟩ := of_if h
            refine ⟨hp, ?_⟩
            intro x15 hx15
            replace h := evJ_eq h x15 hx15
            obtain ⟨iI19, hI190, hI19s, h⟩ := ev_rec1 h
            refine ⟨fun nn (x17 : Int) => iI19 nn x17 = some r, ⟨_, h⟩, ?_⟩
            intro nn x17 h
            cases nn with
            | zero => rw [hI190] at h; cases h
            | succ nn =>
              rw [hI19s] at h
              refine ⟨fun hc => ?_, fun hc => ?_⟩
              · replace h := of_pos hc h
                obtain ⟨hp, h⟩ := of_if h
                refine ⟨hp, ?_⟩
                obtain ⟨hp, h⟩ := of_if h
                refine ⟨hp, ?_⟩
                intro x20 hx20
                replace h := evJ_eq h x20 hx20
                refine ⟨fun hc => ?_, fun hc => ?_⟩
                · replace h := of_pos hc h
                  exact Option.some.inj h
                · replace h := of_neg (ne_true_of_eq_false hc) h
                  obtain ⟨hp, h⟩ := of_if h
                  refine ⟨hp, ?_⟩
                  exact ⟨_, Nat.lt_succ_self _, h⟩
              · replace h := of_neg (hc) h
                exact Option.some.inj h
theorem farkas_point_with.spec (a1 : farkas_point) (a2 : farkas_fraction) (h : farkas_point_with.pre a1 a2) : farkas_point_with.wp a1 a2 (fun x => x = farkas_point_with.fn a1 a2) := by
  obtain ⟨r, hr⟩ := Option.isSome_iff_exists.1 h
  have hf : farkas_point_with.fn a1 a2 = r := by show Option.getD _ _ = r; rw [hr]; rfl
  rw [hf]
  exact farkas_point_with.ev_wp a1 a2 r hr

theorem farkas_table_refuted.ev_wp (a1 : farkas_table) (r : (List Int) × Bool) (h : farkas_table_refuted.ev a1 = some r) : farkas_table_refuted.wp a1 (fun x => x = r) := by
  unfold farkas_table_refuted.ev at h
  unfold farkas_table_refuted.wp
  intro _
  obtain ⟨iI4, hI40, hI4s, h⟩ := ev_rec1 h
  refine ⟨fun nn (x2 : Int) => iI4 nn x2 = some r, ⟨_, h⟩, ?_⟩
  intro nn x2 h
  cases nn with
  | zero => rw [hI40] at h; cases h
  | succ nn =>
    rw [hI4s] at h
    refine ⟨fun hc => ?_, fun hc => ?_⟩
    · replace h := of_pos hc h
      obtain ⟨hp, h⟩ := of_if h
      refine ⟨hp, ?_⟩
      intro x5 hx5
      replace h := evJ_eq h x5 hx5
      obtain ⟨hp, h⟩ := of_if h
      refine ⟨hp, ?_⟩
      refine ⟨fun hc => ?_, fun hc => ?_⟩
      · replace h := of_pos hc h
        obtain ⟨hp, h⟩ := of_if h
        refine ⟨hp, ?_⟩
        exact ⟨_, Nat.lt_succ_self _, h⟩
      · replace h := of_neg (ne_true_of_eq_false hc) h
        obtain ⟨hp, h⟩ := of_if h
        refine ⟨hp, ?_⟩
        obtain ⟨hp, h⟩ := of_if h
        refine ⟨hp, ?_⟩
        obtain ⟨hp, h⟩ := of_if h
        refine ⟨hp, ?_⟩
        intro x6 hx6
        replace h := evJ_eq h x6 hx6
        refine ⟨fun hc => ?_, fun hc => ?_⟩
        · replace h := of_pos hc h
          obtain ⟨iI13, hI130, hI13s, h⟩ := ev_rec2 h
          refine ⟨fun nn (x9 : Int) (x10 : (List Int)) => iI13 nn x9 x10 = some r, ⟨_, h⟩, ?_⟩
          intro nn x9 x10 h
          cases nn with
          | zero => rw [hI130] at h; cases h
          | succ nn =>
            rw [hI13s] at h
            refine ⟨fun hc => ?_, fun hc => ?_⟩
            · replace h := of_pos hc h
              obtain ⟨hp, h⟩ := of_if h
              refine ⟨hp, ?_⟩
              obtain ⟨hp, h⟩ := of_if h
              refine ⟨hp, ?_⟩
              obtain ⟨hp, h⟩ := of_if h
              refine ⟨hp, ?_⟩
              obtain ⟨hp, h⟩ := of_if h
              refine ⟨hp, ?_⟩
              obtain ⟨hp, h⟩ := of_if h
              refine ⟨hp, ?_⟩
              intro x14 hx14
              replace h := evJ_eq h x14 hx14
              obtain ⟨hp, h⟩ := of_if h
              refine ⟨hp, ?_⟩
              exact ⟨_, Nat.lt_succ_self _, h⟩
            · replace h := of_neg (hc) h
              exact Option.some.inj h
        · replace h := of_neg (hc) h
          exact Option.some.inj h
    · replace h := of_neg (hc) h
      exact Option.some.inj h
theorem farkas_table_refuted.spec (a1 : farkas_table) (h : farkas_table_refuted.pre a1) : farkas_table_refuted.wp a1 (fun x => x = farkas_table_refuted.fn a1) := by
  obtain ⟨r, hr⟩ := Option.isSome_iff_exists.1 h
  have hf : farkas_table_refuted.fn a1 = r := by show Option.getD _ _ = r; rw [hr]; rfl
  rw [hf]
  exact farkas_table_refuted.ev_wp a1 r hr

theorem farkas_Inner.ev_wp (a1 : (List api_Cond)) (a2 : Int) (r : (List Int) × Int × Int) (h : farkas_Inner.ev a1 a2 = some r) : farkas_Inner.wp a1 a2 (fun x => x = r) := by
  unfold farkas_Inner.ev at h
  unfold farkas_Inner.wp
  intro x1 hx1
  replace h := evJ_eq h x1 hx1
  refine ⟨fun hc => ?_, fun hc => ?_⟩
  · replace h := of_pos hc h
    exact Option.some.inj h
  · replace h := of_neg (fun hne => hne hc) h
    obtain ⟨y1, hy1, h⟩ := Option.bind_eq_some_iff.1 h
    obtain ⟨hp, hy1f⟩ : farkas_eliminated.pre a1 a2 ∧ y1 = farkas_eliminated.fn a1 a2 := ev_get hy1
    subst hy1f
    refine ⟨hp, ?_⟩
    intro x2 hx2
    replace h := evJ_eq h x2 hx2
    refine ⟨fun hc => ?_, fun hc => ?_⟩
    · replace h := of_pos hc h
      exact Option.some.inj h
    · replace h := of_neg (fun hne => hne hc) h
      obtain ⟨hp, h⟩ := of_if h
      refine ⟨hp, ?_⟩
      obtain ⟨y2, hy2, h⟩ := Option.bind_eq_some_iff.1 h
      obtain ⟨hp, hy2f⟩ : farkas_table_refuted.pre (x2.1.getD (Int.toNat (0 : Int)) d_farkas_table) ∧ y2 = farkas_table_refuted.fn (x2.1.getD (Int.toNat (0 : Int)) d_farkas_table) := ev_get hy2
      subst hy2f
      refine ⟨hp, ?_⟩
      intro x3 hx3
      replace h := evJ_eq h x3 hx3
      refine ⟨fun hc => ?_, fun hc => ?_⟩
      · replace h := of_pos hc h
        exact Option.some.inj h
      · replace h := of_neg (ne_true_of_eq_false hc) h
        obtain ⟨iI12, hI120, hI12s, h⟩ := ev_rec4 h
        refine ⟨fun nn (x4 : Int) (x5 : Int) (x6 : (List Int)) (x7 : Int) => iI12 nn x4 x5 x6 x7 = some r, ⟨_, h⟩, ?_⟩
        intro nn x4 x5 x6 x7 h
        cases nn with
        | zero => rw [hI120] at h; cases h
        | succ nn =>
          rw [hI12s] at h
          refine ⟨fun hc => ?_, fun hc => ?_⟩
          · replace h := of_pos hc h
            obtain ⟨hp, h⟩ := of_if h
            refine ⟨hp, ?_⟩
            obtain ⟨hp, h⟩ := of_if h
            refine ⟨hp, ?_⟩
            obtain ⟨y3, hy3, h⟩ := Option.bind_eq_some_iff.1 h
            obtain ⟨hp, hy3f⟩ : farkas_point_value.pre (x6, x7) (x2.1.getD (Int.toNat (x4 + (1 : Int))) d_farkas_table) ∧ y3 = farkas_point_value.fn (x6, x7) (x2.1.getD (Int.toNat (x4 + (1 : Int))) d_farkas_table) := ev_get hy3
            subst hy3f
            refine ⟨hp, ?_⟩
            obtain ⟨y4, hy4, h⟩ := Option.bind_eq_some_iff.1 h
            obtain ⟨hp, hy4f⟩ : farkas_point_with.pre (x6, x7) (farkas_point_value.fn (x6, x7) (x2.1.getD (Int.toNat (x4 + (1 : Int))) d_farkas_table)) ∧ y4 = farkas_point_with.fn (x6, x7) (farkas_point_value.fn (x6, x7) (x2.1.getD (Int.toNat (x4 + (1 : Int))) d_farkas_table)) := ev_get hy4
            subst hy4f
            refine ⟨hp, ?_⟩
            intro x13 hx13
            replace h := evJ_eq h x13 hx13
            intro x14 hx14
            replace h := evJ_eq h x14 hx14
            intro x15 hx15
            replace h := evJ_eq h x15 hx15
            intro x16 hx16
            replace h := evJ_eq h x16 hx16
            intro x17 hx17
            replace h := evJ_eq h x17 hx17
            refine ⟨fun hc => ?_, fun hc => ?_⟩
            · replace h := of_pos hc h
              refine ⟨fun hc => ?_, fun hc => ?_⟩
              · replace h := of_pos hc h
                exact Option.some.inj h
              · replace h := of_neg (fun hne => hne hc) h
                exact Option.some.inj h
            · replace h := of_neg (fun hne => hne hc) h
              obtain ⟨hp, h⟩ := of_if h
              refine ⟨hp, ?_⟩
              exact ⟨_, Nat.lt_succ_self _, h⟩
          · replace h := of_neg (hc) h
            refine ⟨fun hc => ?_, fun hc => ?_⟩
            · replace h := of_pos hc h
              exact Option.some.inj h
            · replace h := of_neg (fun hne => hne hc) h
              exact Option.some.inj h
theorem farkas_Inner.spec (a1 : (List api_Cond)) (a2 : Int) (h : farkas_Inner.pre a1 a2) : farkas_Inner.wp a1 a2 (fun x => x = farkas_Inner.fn a1 a2) := by
  obtain ⟨r, hr⟩ := Option.isSome_iff_exists.1 h
  have hf : farkas_Inner.fn a1 a2 = r := by show Option.getD _ _ = r; rw [hr]; rfl
  rw [hf]
  exact farkas_Inner.ev_wp a1 a2 r hr

theorem farkas_Prove.ev_wp (a1 : (List api_Cond)) (a2 : Int) (r : (List Int) × Int) (h : farkas_Prove.ev a1 a2 = some r) : farkas_Prove.wp a1 a2 (fun x => x = r) := by
  unfold farkas_Prove.ev at h
  unfold farkas_Prove.wp
  intro x1 hx1
  replace h := evJ_eq h x1 hx1
  refine ⟨fun hc => ?_, fun hc => ?_⟩
  · replace h := of_pos hc h
    exact Option.some.inj h
  · replace h := of_neg (fun hne => hne hc) h
    obtain ⟨y1, hy1, h⟩ := Option.bind_eq_some_iff.1 h
    obtain ⟨hp, hy1f⟩ : farkas_eliminated.pre a1 a2 ∧ y1 = farkas_eliminated.fn a1 a2 := ev_get hy1
    subst hy1f
    refine ⟨hp, ?_⟩
    intro x2 hx2
    replace h := evJ_eq h x2 hx2
    refine ⟨fun hc => ?_, fun hc => ?_⟩
    · replace h := of_pos hc h
      exact Option.some.inj h
    · replace h := of_neg (fun hne => hne hc) h
      obtain ⟨hp, h⟩ := of_if h
      refine ⟨hp, ?_⟩
      obtain ⟨y2, hy2, h⟩ := Option.bind_eq_some_iff.1 h
      obtain ⟨hp, hy2f⟩ : farkas_table_refuted.pre (x2.1.getD (Int.toNat (0 : Int)) d_farkas_table) ∧ y2 = farkas_table_refuted.fn (x2.1.getD (Int.toNat (0 : Int)) d_farkas_table) := ev_get hy2
      subst hy2f
      refine ⟨hp, ?_⟩
      intro x3 hx3
      replace h := evJ_eq h x3 hx3
      intro x4 hx4
      replace h := evJ_eq h x4 hx4
      refine ⟨fun hc => ?_, fun hc => ?_⟩
      · replace h := of_pos hc h
        exact Option.some.inj h
      · replace h := of_neg (ne_false_of_eq_true hc) h
        exact Option.some.inj h
theorem farkas_Prove.spec (a1 : (List api_Cond)) (a2 : Int) (h : farkas_Prove.pre a1 a2) : farkas_Prove.wp a1 a2 (fun x => x = farkas_Prove.fn a1 a2) := by
  obtain ⟨r, hr⟩ := Option.isSome_iff_exists.1 h
  have hf : farkas_Prove.fn a1 a2 = r := by show Option.getD _ _ = r; rw [hr]; rfl
  rw [hf]
  exact farkas_Prove.ev_wp a1 a2 r hr

theorem law09_ge.ev_wp (a1 : Int) (a2 : (List Int)) (r : api_Cond) (h : law09_ge.ev a1 a2 = some r) : law09_ge.wp a1 a2 (fun x => x = r) := by
  unfold law09_ge.ev at h
  unfold law09_ge.wp
  exact Option.some.inj h
theorem law09_ge.spec (a1 : Int) (a2 : (List Int)) (h : law09_ge.pre a1 a2) : law09_ge.wp a1 a2 (fun x => x = law09_ge.fn a1 a2) := by
  obtain ⟨r, hr⟩ := Option.isSome_iff_exists.1 h
  have hf : law09_ge.fn a1 a2 = r := by show Option.getD _ _ = r; rw [hr]; rfl
  rw [hf]
  exact law09_ge.ev_wp a1 a2 r hr

theorem ref02_Order.ev_wp (a1 : (List Int)) (a2 : (List Int)) (r : Int) (h : ref02_Order.ev a1 a2 = some r) : ref02_Order.wp a1 a2 (fun x => x = r) := by
  unfold ref02_Order.ev at h
  unfold ref02_Order.wp
  intro _
  obtain ⟨iI4, hI40, hI4s, h⟩ := ev_rec1 h
  refine ⟨fun nn (x2 : Int) => iI4 nn x2 = some r, ⟨_, h⟩, ?_⟩
  intro nn x2 h
  cases nn with
  | zero => rw [hI40] at h; cases h
  | succ nn =>
    rw [hI4s] at h
    refine ⟨fun hc => ?_, fun hc => ?_⟩
    · replace h := of_pos hc h
      obtain ⟨hp, h⟩ := of_if h
      refine ⟨hp, ?_⟩
      obtain ⟨hp, h⟩ := of_if h
      refine ⟨hp, ?_⟩
      refine ⟨fun hc => ?_, fun hc => ?_⟩
      · replace h := of_pos hc h
        exact Option.some.inj h
      · replace h := of_neg (hc) h
        obtain ⟨hp, h⟩ := of_if h
        refine ⟨hp, ?_⟩
        obtain ⟨hp, h⟩ := of_if h
        refine ⟨hp, ?_⟩
        refine ⟨fun hc => ?_, fun hc => ?_⟩
        · replace h := of_pos hc h
          exact Option.some.inj h
        · replace h := of_neg (hc) h
          obtain ⟨hp, h⟩ := of_if h
          refine ⟨hp, ?_⟩
          exact ⟨_, Nat.lt_succ_self _, h⟩
    · replace h := of_neg (hc) h
      exact Option.some.inj h
theorem ref02_Order.spec (a1 : (List Int)) (a2 : (List Int)) (h : ref02_Order.pre a1 a2) : ref02_Order.wp a1 a2 (fun x => x = ref02_Order.fn a1 a2) := by
  obtain ⟨r, hr⟩ := Option.isSome_iff_exists.1 h
  have hf : ref02_Order.fn a1 a2 = r := by show Option.getD _ _ = r; rw [hr]; rfl
  rw [hf]
  exact ref02_Order.ev_wp a1 a2 r hr

theorem law09_list.ev_wp (a1 : (List Int)) (a2 : (List Int)) (r : Bool) (h : law09_list.ev a1 a2 = some r) : law09_list.wp a1 a2 (fun x => x = r) := by
  unfold law09_list.ev at h
  unfold law09_list.wp
  obtain ⟨hp, h⟩ := of_if h
  refine ⟨hp, ?_⟩
  intro x1 hx1
  replace h := evJ_eq h x1 hx1
  exact Option.some.inj h
theorem law09_list.spec (a1 : (List Int)) (a2 : (List Int)) (h : law09_list.pre a1 a2) : law09_list.wp a1 a2 (fun x => x = law09_list.fn a1 a2) := by
  obtain ⟨r, hr⟩ := Option.isSome_iff_exists.1 h
  have hf : law09_list.fn a1 a2 = r := by show Option.getD _ _ = r; rw [hr]; rfl
  rw [hf]
  exact law09_list.ev_wp a1 a2 r hr

theorem law09_awake.ev_wp (r : Bool) (h : law09_awake.ev = some r) : law09_awake.wp (fun x => x = r) := by
  unfold law09_awake.ev at h
  unfold law09_awake.wp
  obtain ⟨y1, hy1, h⟩ := Option.bind_eq_some_iff.1 h
  obtain ⟨hp, hy1f⟩ : law09_ge.pre (-3) [1] ∧ y1 = law09_ge.fn (-3) [1] := ev_get hy1
  subst hy1f
  refine ⟨hp, ?_⟩
  obtain ⟨y2, hy2, h⟩ := Option.bind_eq_some_iff.1 h
  obtain ⟨hp, hy2f⟩ : law09_ge.pre (2 : Int) [(-1)] ∧ y2 = law09_ge.fn (2 : Int) [(-1)] := ev_get hy2
  subst hy2f
  refine ⟨hp, ?_⟩
  obtain ⟨y3, hy3, h⟩ := Option.bind_eq_some_iff.1 h
  obtain ⟨hp, hy3f⟩ : farkas_Prove.pre [law09_ge.fn (-3) [1], law09_ge.fn (2 : Int) [(-1)]] (1 : Int) ∧ y3 = farkas_Prove.fn [law09_ge.fn (-3) [1], law09_ge.fn (2 : Int) [(-1)]] (1 : Int) := ev_get hy3
  subst hy3f
  refine ⟨hp, ?_⟩
  intro x1 hx1
  replace h := evJ_eq h x1 hx1
  intro x2 hx2
  replace h := evJ_eq h x2 hx2
  intro x3 hx3
  replace h := evJ_eq h x3 hx3
  obtain ⟨y4, hy4, h⟩ := Option.bind_eq_some_iff.1 h
  obtain ⟨hp, hy4f⟩ : farkas_Prove.pre [(1, 0, ([2], (-1)))] (1 : Int) ∧ y4 = farkas_Prove.fn [(1, 0, ([2], (-1)))] (1 : Int) := ev_get hy4
  subst hy4f
  refine ⟨hp, ?_⟩
  intro x4 hx4
  replace h := evJ_eq h x4 hx4
  intro x5 hx5
  replace h := evJ_eq h x5 hx5
  obtain ⟨y5, hy5, h⟩ := Option.bind_eq_some_iff.1 h
  obtain ⟨hp, hy5f⟩ : farkas_Inner.pre [(1, 0, ([2], (-1)))] (1 : Int) ∧ y5 = farkas_Inner.fn [(1, 0, ([2], (-1)))] (1 : Int) := ev_get hy5
  subst hy5f
  refine ⟨hp, ?_⟩
  intro x6 hx6
  replace h := evJ_eq h x6 hx6
  intro x7 hx7
  replace h := evJ_eq h x7 hx7
  intro x8 hx8
  replace h := evJ_eq h x8 hx8
  intro x9 hx9
  replace h := evJ_eq h x9 hx9
  obtain ⟨y6, hy6, h⟩ := Option.bind_eq_some_iff.1 h
  obtain ⟨hp, hy6f⟩ : law09_ge.pre (0 : Int) [1, (-1)] ∧ y6 = law09_ge.fn (0 : Int) [1, (-1)] := ev_get hy6
  subst hy6f
  refine ⟨hp, ?_⟩
  obtain ⟨y7, hy7, h⟩ := Option.bind_eq_some_iff.1 h
  obtain ⟨hp, hy7f⟩ : law09_ge.pre (-1) [(-1), 1] ∧ y7 = law09_ge.fn (-1) [(-1), 1] := ev_get hy7
  subst hy7f
  refine ⟨hp, ?_⟩
  obtain ⟨y8, hy8, h⟩ := Option.bind_eq_some_iff.1 h
  obtain ⟨hp, hy8f⟩ : farkas_Prove.pre [law09_ge.fn (0 : Int) [1, (-1)], law09_ge.fn (-1) [(-1), 1]] (2 : Int) ∧ y8 = farkas_Prove.fn [law09_ge.fn (0 : Int) [1, (-1)], law09_ge.fn (-1) [(-1), 1]] (2 : Int) := ev_get hy8
  subst hy8f
  refine ⟨hp, ?_⟩
  intro x10 hx10
  replace h := evJ_eq h x10 hx10
  intro x11 hx11
  replace h := evJ_eq h x11 hx11
  intro x12 hx12
  replace h := evJ_eq h x12 hx12
  obtain ⟨hp, h⟩ := of_if h
  refine ⟨hp, ?_⟩
  obtain ⟨hp, h⟩ := of_if h
  refine ⟨hp, ?_⟩
  obtain ⟨hp, h⟩ := of_if h
  refine ⟨hp, ?_⟩
  exact Option.some.inj h
theorem law09_awake.spec (h : law09_awake.pre) : law09_awake.wp (fun x => x = law09_awake.fn) := by
  obtain ⟨r, hr⟩ := Option.isSome_iff_exists.1 h
  have hf : law09_awake.fn = r := by show Option.getD _ _ = r; rw [hr]; rfl
  rw [hf]
  exact law09_awake.ev_wp  r hr


end Go.Proofs.Ytlncingakpelbaa
