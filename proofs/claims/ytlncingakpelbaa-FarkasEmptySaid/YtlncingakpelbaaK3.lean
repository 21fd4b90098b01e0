/- Part of a proof that a law of the program holds for every input: printed by a program of this work. No conditions. -/
import Derived.Test.YtlncingakpelbaaK2
namespace Go.Proofs.Ytlncingakpelbaa
open Go
set_option linter.unusedVariables false
set_option maxHeartbeats 4000000

noncomputable abbrev Bnum_Gcd : Code := bodyOf Try.f59
theorem call_num_Gcd : CallOk prog 59 := ⟨_, Try.func59, by kernel_rfl, by kernel_rfl⟩
theorem walk_num_Gcd (a1 : (List Int)) (Q : Int × Int → Prop) (h : num_Gcd.wp a1 Q) : VCalls prog 59 [.d (.sl (.int .i64)) a1] [] (fun r o => ∃ x, r = .tup [vi x.1, vi x.2] ∧ o = [] ∧ Q x) := by
  refine vcalls_body tab Try.func59 (c := (spine (subC [0] Bnum_Gcd) [(spine (subC [1, 0] Bnum_Gcd) [(spine (subC [1, 1, 0, 0] Bnum_Gcd) [(.cond (.tmp 8) (spine (subC [1, 1, 0, 1, 0, 0] Bnum_Gcd) [.ret]) .skip), (spine (subC [1, 1, 1, 0] Bnum_Gcd) [.ret])])])])) (by kernel_rfl) (Nat.le_of_ble_eq_true (by kernel_rfl)) fun cx hd hi hk => ?_
  show AWp prog cx _ _ ⟨11, [(0, .d (.sl (.int .i64)) a1)], []⟩
  replace hk : cx.E.len = 0 := hk
  unfold num_Gcd.wp at h
  refine awp_spine ?_
  refine awp_rc tab [0] [] [] [] [] ⟨11, [(0, .d (.sl (.int .i64)) a1)], []⟩ (by kernel_rfl) (trivial) ?_
  refine then_n (spine_c ?_)
  refine awp_spine ?_
  obtain ⟨o1, h⟩ := h
  refine awp_rc tab [4] [] [(1, .dat (.d (.int .u64) (num_fold_uint64__num_Gcd_1.fn a1 (0 : Int))))] [] [OkC prog 84 [.d (.sl (.int .i64)) a1, .d (.int .u64) (0 : Int), .fn (.func 85) [] []] (.d (.int .u64) (num_fold_uint64__num_Gcd_1.fn a1 (0 : Int)))] ⟨11, [(4, .d (.int .u64) (num_fold_uint64__num_Gcd_1.fn a1 (0 : Int)))], []⟩ (by kernel_rfl) (AllP.of (ok_num_fold_uint64__num_Gcd_1 a1 (0 : Int) (o1)) trivial) ?_
  refine then_n (spine_c ?_)
  refine awp_abs (fun (x1 : Int) => ⟨11, [(4, .d (.int .u64) x1)], []⟩) (num_fold_uint64__num_Gcd_1.fn a1 (0 : Int)) ?_
  intro x1 hx1
  replace h := h x1 hx1
  refine awp_spine ?_
  refine awp_rc tab [4, 8] [1] [] [] [] ⟨11, [(4, .d (.int .u64) x1), (8, vb (decide (x1 > (9223372036854775807 : Int))))], []⟩ (by kernel_rfl) (trivial) ?_
  refine then_n (spine_c ?_)
  refine awp_cond (b := decide (x1 > (9223372036854775807 : Int))) (by kernel_rfl) (fun hb => ?_) (fun hb => ?_)
  · replace h := h.1 (of_decide_eq_true hb)
    refine awp_spine ?_
    refine awp_rc tab [2, 3] [] [] [] [] ⟨11, [(2, vi (0 : Int)), (3, vi (3 : Int))], []⟩ (by kernel_rfl) (trivial) ?_
    refine then_n (spine_c ?_)
    refine awp_ret (then_r (then_r (then_r (then_r (?_)))))
    exact ret_r (m := 0) (r := .tup [vi ((0, 3).1), vi ((0, 3).2)]) (objs := []) hk [.keep [2, 3]] ⟨11, [(2, vi (0 : Int)), (3, vi (3 : Int))], []⟩ (by kernel_rfl) (by kernel_rfl) (Nat.le_refl 0) ⟨(0, 3), rfl, rfl, h⟩
  · replace h := h.2 (of_decide_eq_false hb)
    refine awp_skip (then_n (spine_c ?_))
    refine awp_spine ?_
    obtain ⟨o2, h⟩ := h
    refine awp_rc tab [2, 3] [] [] [] [-9223372036854775808 ≤ x1 ∧ x1 ≤ 9223372036854775807] ⟨11, [(2, vi x1), (3, vi (0 : Int))], []⟩ (by kernel_rfl) (AllP.of (o2) trivial) ?_
    refine then_n (spine_c ?_)
    refine awp_ret (then_r (then_r (then_r (then_r (?_)))))
    exact ret_r (m := 0) (r := .tup [vi ((x1, 0).1), vi ((x1, 0).2)]) (objs := []) hk [.keep [2, 3]] ⟨11, [(2, vi x1), (3, vi (0 : Int))], []⟩ (by kernel_rfl) (by kernel_rfl) (Nat.le_refl 0) ⟨(x1, 0), rfl, rfl, h⟩
theorem ok_num_Gcd (a1 : (List Int)) (h : num_Gcd.pre a1) : OkC prog 59 [.d (.sl (.int .i64)) a1] (.tup [vi ((num_Gcd.fn a1).1), vi ((num_Gcd.fn a1).2)]) :=
  OkC.of call_num_Gcd ((walk_num_Gcd a1 _ (num_Gcd.spec a1 h)).mono fun r o ⟨x, hr, ho, hx⟩ => ⟨by rw [hr, hx], ho⟩) rfl rfl (fun _ => rfl)

noncomputable abbrev Bfarkas_row_reduced : Code := bodyOf Try.f92
theorem call_farkas_row_reduced : CallOk prog 92 := ⟨_, Try.func92, by kernel_rfl, by kernel_rfl⟩
theorem walk_farkas_row_reduced (a1 : farkas_row) (Q : farkas_row → Prop) (h : farkas_row_reduced.wp a1 Q) : VCalls prog 92 [.agg [vb a1.1, .d (.sl (.int .i64)) a1.2]] [] (fun r o => ∃ x, r = .agg [vb x.1, .d (.sl (.int .i64)) x.2] ∧ o = [] ∧ Q x) := by
  refine vcalls_body tab Try.func92 (c := (spine (subC [0] Bfarkas_row_reduced) [(spine (subC [1, 0] Bfarkas_row_reduced) [(spine (subC [1, 1, 0, 0] Bfarkas_row_reduced) [(.cond (.tmp 12) (subC [1, 1, 0, 1, 0] Bfarkas_row_reduced) .skip), (spine (subC [1, 1, 1, 0] Bfarkas_row_reduced) [.ret])])])])) (by kernel_rfl) (Nat.le_of_ble_eq_true (by kernel_rfl)) fun cx hd hi hk => ?_
  show AWp prog cx _ _ ⟨19, [(0, .agg [vb a1.1, .d (.sl (.int .i64)) a1.2])], []⟩
  replace hk : cx.E.len = 0 := hk
  unfold farkas_row_reduced.wp at h
  refine awp_spine ?_
  refine awp_rc tab [1, 2] [] [] [] [] ⟨19, [(1, .ref 0 0 0), (2, .ref 1 0 0)], [.box [vb a1.1, .d (.sl (.int .i64)) a1.2], .box [vb false, .nils]]⟩ (by kernel_rfl) (trivial) ?_
  refine then_n (spine_c ?_)
  refine awp_spine ?_
  obtain ⟨o1, h⟩ := h
  refine awp_rc tab [1, 2, 3] [] [(2, .dat (.tup [vi ((num_Gcd.fn a1.2).1), vi ((num_Gcd.fn a1.2).2)]))] [] [OkC prog 59 [.d (.sl (.int .i64)) a1.2] (.tup [vi ((num_Gcd.fn a1.2).1), vi ((num_Gcd.fn a1.2).2)])] ⟨19, [(1, .ref 0 0 0), (2, .ref 1 0 0), (3, vi ((num_Gcd.fn a1.2).1))], [.box [vb a1.1, .d (.sl (.int .i64)) a1.2], .box [vb false, .nils]]⟩ (by kernel_rfl) (AllP.of (ok_num_Gcd a1.2 (o1)) trivial) ?_
  refine then_n (spine_c ?_)
  refine awp_abs (fun (x1 : Int × Int) => ⟨19, [(1, .ref 0 0 0), (2, .ref 1 0 0), (3, vi x1.1)], [.box [vb a1.1, .d (.sl (.int .i64)) a1.2], .box [vb false, .nils]]⟩) (num_Gcd.fn a1.2) ?_
  intro x1 hx1
  replace h := h x1 hx1
  refine awp_spine ?_
  refine awp_rc tab [1, 2, 3, 12] [] [] [] [] ⟨19, [(1, .ref 0 0 0), (2, .ref 1 0 0), (3, vi x1.1), (12, vb (decide (x1.1 > (1 : Int))))], [.box [vb a1.1, .d (.sl (.int .i64)) a1.2], .box [vb false, .nils]]⟩ (by kernel_rfl) (trivial) ?_
  refine then_n (spine_c ?_)
  refine awp_cond (b := decide (x1.1 > (1 : Int))) (by kernel_rfl) (fun hb => ?_) (fun hb => ?_)
  · replace h := h.1 (of_decide_eq_true hb)
    obtain ⟨o2, h⟩ := h
    refine awp_rc tab [1, 2] [] [(3, .dat (.d (.sl (.int .i64)) (farkas_vector_int_by.fn a1.2 x1.1)))] [] [OkC prog 99 [.d (.sl (.int .i64)) a1.2, vi x1.1] (.d (.sl (.int .i64)) (farkas_vector_int_by.fn a1.2 x1.1))] ⟨19, [(1, .ref 0 0 0), (2, .ref 1 0 0)], [.box [vb a1.1, .d (.sl (.int .i64)) (farkas_vector_int_by.fn a1.2 x1.1)], .box [vb false, .nils]]⟩ (by kernel_rfl) (AllP.of (ok_farkas_vector_int_by a1.2 x1.1 (o2)) trivial) ?_
    refine then_n (spine_c ?_)
    refine awp_abs (fun (x2 : (List Int)) => ⟨19, [(1, .ref 0 0 0), (2, .ref 1 0 0)], [.box [vb a1.1, .d (.sl (.int .i64)) x2], .box [vb false, .nils]]⟩) (farkas_vector_int_by.fn a1.2 x1.1) ?_
    intro x2 hx2
    replace h := h x2 hx2
    refine awp_spine ?_
    refine awp_rc tab [2] [] [] [] [] ⟨19, [(2, .ref 1 0 0)], [.box [vb a1.1, .d (.sl (.int .i64)) x2], .box [vb a1.1, .d (.sl (.int .i64)) x2]]⟩ (by kernel_rfl) (trivial) ?_
    refine then_n (spine_c ?_)
    refine awp_ret (then_r (then_r (then_r (then_r (?_)))))
    exact ret_r (m := 0) (r := .agg [vb ((a1.1, x2).1), .d (.sl (.int .i64)) ((a1.1, x2).2)]) (objs := []) hk [.keep [2]] ⟨19, [(2, .ref 1 0 0)], [.box [vb a1.1, .d (.sl (.int .i64)) x2], .box [vb a1.1, .d (.sl (.int .i64)) x2]]⟩ (by kernel_rfl) (by kernel_rfl) (Nat.le_refl 0) ⟨(a1.1, x2), rfl, rfl, h⟩
  · replace h := h.2 (of_decide_eq_false hb)
    refine awp_skip (then_n (spine_c ?_))
    refine awp_spine ?_
    refine awp_rc tab [2] [] [] [] [] ⟨19, [(2, .ref 1 0 0)], [.box [vb a1.1, .d (.sl (.int .i64)) a1.2], .box [vb a1.1, .d (.sl (.int .i64)) a1.2]]⟩ (by kernel_rfl) (trivial) ?_
    refine then_n (spine_c ?_)
    refine awp_ret (then_r (then_r (then_r (then_r (?_)))))
    exact ret_r (m := 0) (r := .agg [vb a1.1, .d (.sl (.int .i64)) a1.2]) (objs := []) hk [.keep [2]] ⟨19, [(2, .ref 1 0 0)], [.box [vb a1.1, .d (.sl (.int .i64)) a1.2], .box [vb a1.1, .d (.sl (.int .i64)) a1.2]]⟩ (by kernel_rfl) (by kernel_rfl) (Nat.le_refl 0) ⟨a1, rfl, rfl, h⟩
theorem ok_farkas_row_reduced (a1 : farkas_row) (h : farkas_row_reduced.pre a1) : OkC prog 92 [.agg [vb a1.1, .d (.sl (.int .i64)) a1.2]] (.agg [vb ((farkas_row_reduced.fn a1).1), .d (.sl (.int .i64)) ((farkas_row_reduced.fn a1).2)]) :=
  OkC.of call_farkas_row_reduced ((walk_farkas_row_reduced a1 _ (farkas_row_reduced.spec a1 h)).mono fun r o ⟨x, hr, ho, hx⟩ => ⟨by rw [hr, hx], ho⟩) rfl rfl (fun _ => rfl)

noncomputable abbrev Bslices_Equal_farkas_vector_int_int : Code := bodyOf Try.f95
theorem call_slices_Equal_farkas_vector_int_int : CallOk prog 95 := ⟨_, Try.func95, by kernel_rfl, by kernel_rfl⟩
theorem walk_slices_Equal_farkas_vector_int_int (a1 : (List Int)) (a2 : (List Int)) (Q : Bool → Prop) (h : slices_Equal_farkas_vector_int_int.wp a1 a2 Q) : VCalls prog 95 [.d (.sl (.int .i64)) a1, .d (.sl (.int .i64)) a2] [] (fun r o => ∃ x, r = vb x ∧ o = [] ∧ Q x) := by
  refine vcalls_body tab Try.func95 (c := (spine (subC [0] Bslices_Equal_farkas_vector_int_int) [(spine (subC [1, 0, 0] Bslices_Equal_farkas_vector_int_int) [(.cond (.tmp 10) (spine (subC [1, 0, 1, 0, 0] Bslices_Equal_farkas_vector_int_int) [.ret]) .skip), (spine (subC [1, 1, 0, 0] Bslices_Equal_farkas_vector_int_int) [(.block 0 (.loop (spine (subC [1, 1, 0, 1, 0, 0, 0] Bslices_Equal_farkas_vector_int_int) [(spine (.cond (.tmp 14) .skip (.exit 0)) [(spine (.block 1 (spine (subC [1, 1, 0, 1, 0, 0, 1, 1, 0, 0, 0] Bslices_Equal_farkas_vector_int_int) [(spine (subC [1, 1, 0, 1, 0, 0, 1, 1, 0, 0, 1, 0] Bslices_Equal_farkas_vector_int_int) [(.cond (.tmp 24) (spine (subC [1, 1, 0, 1, 0, 0, 1, 1, 0, 0, 1, 1, 0, 0] Bslices_Equal_farkas_vector_int_int) [.ret]) .skip)])])) [(subC [1, 1, 0, 1, 0, 0, 1, 1, 1] Bslices_Equal_farkas_vector_int_int)])])]))), (spine (subC [1, 1, 1, 0] Bslices_Equal_farkas_vector_int_int) [.ret])])])])) (by kernel_rfl) (Nat.le_of_ble_eq_true (by kernel_rfl)) fun cx hd hi hk => ?_
  show AWp prog cx _ _ ⟨26, [(0, .d (.sl (.int .i64)) a1), (1, .d (.sl (.int .i64)) a2)], []⟩
  replace hk : cx.E.len = 0 := hk
  unfold slices_Equal_farkas_vector_int_int.wp at h
  refine awp_spine ?_
  refine awp_rc tab [0, 1] [] [] [] [] ⟨26, [(0, .d (.sl (.int .i64)) a1), (1, .d (.sl (.int .i64)) a2)], []⟩ (by kernel_rfl) (trivial) ?_
  refine then_n (spine_c ?_)
  refine awp_spine ?_
  refine awp_rc tab [0, 1, 10] [] [] [] [] ⟨26, [(0, .d (.sl (.int .i64)) a1), (1, .d (.sl (.int .i64)) a2), (10, vb ((a1.length : Int) != (a2.length : Int)))], []⟩ (by kernel_rfl) (trivial) ?_
  refine then_n (spine_c ?_)
  refine awp_len 0 [] (T := (.int .i64)) (l := a1) (by kernel_rfl) fun hl => ?_
  replace h := h hl
  refine awp_len 1 [] (T := (.int .i64)) (l := a2) (by kernel_rfl) fun hl => ?_
  replace h := h hl
  refine awp_cond (b := (a1.length : Int) != (a2.length : Int)) (by kernel_rfl) (fun hb => ?_) (fun hb => ?_)
  · replace h := h.1 (bne_iff_ne.mp hb)
    refine awp_spine ?_
    refine awp_rc tab [4] [] [] [] [] ⟨26, [(4, vb false)], []⟩ (by kernel_rfl) (trivial) ?_
    refine then_n (spine_c ?_)
    refine awp_ret (then_r (then_r (then_r (?_))))
    exact ret_r (m := 0) (r := vb false) (objs := []) hk [.keep [4]] ⟨26, [(4, vb false)], []⟩ (by kernel_rfl) (by kernel_rfl) (Nat.le_refl 0) ⟨false, rfl, rfl, h⟩
  · replace h := h.2 (bne_f hb)
    refine awp_skip (then_n (spine_c ?_))
    refine awp_spine ?_
    refine awp_rc tab [0, 1, 12, 13] [] [] [] [] ⟨26, [(0, .d (.sl (.int .i64)) a1), (1, .d (.sl (.int .i64)) a2), (12, vi (a1.length : Int)), (13, vi (0 : Int))], []⟩ (by kernel_rfl) (trivial) ?_
    refine then_n (spine_c ?_)
    refine awp_len 0 [] (T := (.int .i64)) (l := a1) (by kernel_rfl) fun hl => ?_
    replace h := h hl
    refine awp_block ?_
    obtain ⟨I4, ⟨n4a, hz4⟩, hI4⟩ := h
    refine awp_loopN (fun n s => ∃ (x2 : Int), I4 n x2 ∧ s = ⟨26, [(0, .d (.sl (.int .i64)) a1), (1, .d (.sl (.int .i64)) a2), (12, vi (a1.length : Int)), (13, vi x2)], []⟩) (n := n4a) (s0 := ⟨26, [(0, .d (.sl (.int .i64)) a1), (1, .d (.sl (.int .i64)) a2), (12, vi (a1.length : Int)), (13, vi (0 : Int))], []⟩) (wk_ghosts hk (l := [.keep [0, 1, 12, 13], .keep [0, 1, 12, 13], .keep [0, 1, 12, 13], .keep [0, 1, 12, 13]]) (by kernel_rfl)) ⟨0, hz4, rfl⟩ ?_
    rintro n4 s ⟨x2, hx4, rfl⟩
    have h := hI4 n4 x2 hx4
    refine awp_spine ?_
    refine awp_rc tab [0, 1, 12, 13, 14] [] [] [] [] ⟨26, [(0, .d (.sl (.int .i64)) a1), (1, .d (.sl (.int .i64)) a2), (12, vi (a1.length : Int)), (13, vi x2), (14, vb (decide (x2 < (a1.length : Int))))], []⟩ (by kernel_rfl) (trivial) ?_
    refine then_n (spine_c ?_)
    refine awp_spine ?_
    refine awp_cond (b := decide (x2 < (a1.length : Int))) (by kernel_rfl) (fun hb => ?_) (fun hb => ?_)
    · replace h := h.1 (of_decide_eq_true hb)
      refine awp_skip (then_n (spine_c ?_))
      refine awp_spine ?_
      refine awp_block ?_
      refine awp_spine ?_
      refine awp_rc tab [0, 1, 5, 12, 13] [] [] [] [] ⟨26, [(0, .d (.sl (.int .i64)) a1), (1, .d (.sl (.int .i64)) a2), (5, vi x2), (12, vi (a1.length : Int)), (13, vi x2)], []⟩ (by kernel_rfl) (trivial) ?_
      refine then_n (spine_c ?_)
      refine awp_spine ?_
      obtain ⟨o1, o2, h⟩ := h
      refine awp_dr tab mixed [0, 1, 12, 13, 24] [] [] [] ⟨[[], [], [0, 1], [0, 1, 2], [], [], [4, 5], [4, 5, 6], [0, 1, 2, 3, 4, 5, 6, 7]], [.d (.sl (.int .i64)) a1, vi x2, .er [vi (gI a1 x2)], vi (gI a1 x2), .d (.sl (.int .i64)) a2, vi x2, .er [vi (gI a2 x2)], vi (gI a2 x2), vb ((gI a1 x2) != (gI a2 x2))], [none, none, some ((0 : Int) ≤ x2 ∧ x2 < (a1.length : Int)), none, none, none, some ((0 : Int) ≤ x2 ∧ x2 < (a2.length : Int)), none, none], [], [([], [])]⟩ ⟨26, [(0, .d (.sl (.int .i64)) a1), (1, .d (.sl (.int .i64)) a2), (12, vi (a1.length : Int)), (13, vi x2), (24, vb ((gI a1 x2) != (gI a2 x2)))], []⟩ (by kernel_rfl) (AllO.n (AllO.n (AllO.s (o1) (AllO.n (AllO.n (AllO.n (AllO.s (o2) (AllO.n (AllO.n (AllO.e)))))))))) ?_
      refine then_n (spine_c ?_)
      refine awp_cond (b := (gI a1 x2) != (gI a2 x2)) (by kernel_rfl) (fun hb => ?_) (fun hb => ?_)
      · replace h := h.1 (bne_iff_ne.mp hb)
        refine awp_spine ?_
        refine awp_rc tab [4] [] [] [] [] ⟨26, [(4, vb false)], []⟩ (by kernel_rfl) (trivial) ?_
        refine then_n (spine_c ?_)
        refine awp_ret (then_r (then_r (then_r (blk_r (then_r (then_r (then_r (then_r (blk_r (then_r (then_r (then_r (?_)))))))))))))
        exact ret_r (m := 0) (r := vb false) (objs := []) hk [.keep [4]] ⟨26, [(4, vb false)], []⟩ (by kernel_rfl) (by kernel_rfl) (Nat.le_refl 0) ⟨false, rfl, rfl, h⟩
      · replace h := h.2 (bne_f hb)
        refine awp_skip (then_n (spine_e (then_n (spine_e (blk_n (then_n (spine_c ?_)))))))
        obtain ⟨o3, h⟩ := h
        refine awp_rc tab [0, 1, 12, 13] [] [] [] [-9223372036854775808 ≤ x2 + (1 : Int) ∧ x2 + (1 : Int) ≤ 9223372036854775807] ⟨26, [(0, .d (.sl (.int .i64)) a1), (1, .d (.sl (.int .i64)) a2), (12, vi (a1.length : Int)), (13, vi (x2 + (1 : Int)))], []⟩ (by kernel_rfl) (AllP.of (o3) trivial) ?_
        refine then_n (spine_e (then_n (spine_e (then_n (spine_e (then_n (?_)))))))
        obtain ⟨m, hm, h⟩ := h
        exact ⟨m, hm, ⟨26, [(0, .d (.sl (.int .i64)) a1), (1, .d (.sl (.int .i64)) a2), (12, vi (a1.length : Int)), (13, vi (x2 + (1 : Int)))], []⟩, wk_ghosts hk (l := [.keep [0, 1, 12, 13], .keep [0, 1, 12, 13], .keep [0, 1, 12, 13]]) (by kernel_rfl), x2 + (1 : Int), h, rfl⟩
    · replace h := h.2 (of_decide_eq_false hb)
      refine awp_exit (then_x (then_x (then_x (blk_h (then_n (spine_c ?_))))))
      refine awp_spine ?_
      refine awp_rc tab [4] [] [] [] [] ⟨26, [(4, vb true)], []⟩ (by kernel_rfl) (trivial) ?_
      refine then_n (spine_c ?_)
      refine awp_ret (then_r (then_r (then_r (then_r (?_)))))
      exact ret_r (m := 0) (r := vb true) (objs := []) hk [.keep [4]] ⟨26, [(4, vb true)], []⟩ (by kernel_rfl) (by kernel_rfl) (Nat.le_refl 0) ⟨true, rfl, rfl, h⟩
theorem ok_slices_Equal_farkas_vector_int_int (a1 : (List Int)) (a2 : (List Int)) : OkC prog 95 [.d (.sl (.int .i64)) a1, .d (.sl (.int .i64)) a2] (vb (slices_Equal_farkas_vector_int_int.fn a1 a2)) :=
  OkC.of call_slices_Equal_farkas_vector_int_int ((walk_slices_Equal_farkas_vector_int_int a1 a2 _ (slices_Equal_farkas_vector_int_int.spec a1 a2)).mono fun r o ⟨x, hr, ho, hx⟩ => ⟨by rw [hr, hx], ho⟩) rfl rfl (fun _ => rfl)

noncomputable abbrev Bfarkas_table_kept_1 : Code := bodyOf Try.f94
theorem call_farkas_table_kept_1 : CallOk prog 94 := ⟨_, Try.func94, by kernel_rfl, by kernel_rfl⟩
theorem walk_farkas_table_kept_1 (a1 : farkas_row) (a2 : Bool) (a3 : (List Int)) (a4 : Int) (a5 : (List farkas_row)) (Q : Bool → Prop) (h : farkas_table_kept_1.wp a1 a2 a3 a4 a5 Q) : VCalls prog 94 [.agg [vb a1.1, .d (.sl (.int .i64)) a1.2], .er [vb a2, .d (.sl (.int .i64)) a3], .er [vi a4, .d (.sl t_farkas_row) a5]] [] (fun r o => ∃ x, r = vb x ∧ o = [] ∧ Q x) := by
  refine vcalls_body tab Try.func94 (c := (spine (subC [0] Bfarkas_table_kept_1) [(spine (subC [1, 0] Bfarkas_table_kept_1) [.ret])])) (by kernel_rfl) (Nat.le_of_ble_eq_true (by kernel_rfl)) fun cx hd hi hk => ?_
  show AWp prog cx _ _ ⟨25, [(0, .agg [vb a1.1, .d (.sl (.int .i64)) a1.2]), (1, .er [vb a2, .d (.sl (.int .i64)) a3]), (2, .er [vi a4, .d (.sl t_farkas_row) a5])], []⟩
  replace hk : cx.E.len = 0 := hk
  unfold farkas_table_kept_1.wp at h
  refine awp_spine ?_
  refine awp_rc tab [1, 2, 3] [] [] [0] [] ⟨25, [(1, .er [vb a2, .d (.sl (.int .i64)) a3]), (2, .er [vi a4, .d (.sl t_farkas_row) a5]), (3, .er [vb a1.1, .d (.sl (.int .i64)) a1.2])], []⟩ (by kernel_rfl) (trivial) ?_
  refine then_n (spine_c ?_)
  refine awp_spine ?_
  obtain ⟨o1, o2, o3, o4, h⟩ := h
  refine awp_dr tab mixed [4] [] [(18, .dat (vb (slices_Equal_farkas_vector_int_int.fn (a1.2.take (Int.toNat (a4 + (1 : Int)))) (a3.take (Int.toNat (a4 + (1 : Int)))))))] [] ⟨[[], [0], [], [2], [0, 1, 2, 3], [0, 1, 2, 3, 4], [0, 1, 2, 3, 4, 5], [0, 1, 2, 3, 4, 5, 6], [0, 1, 2, 3, 4, 5], [0, 1, 2, 3, 4, 5, 8], [0, 1, 2, 3, 4, 5, 8, 9], [0, 1, 2, 3, 4, 5, 6, 7, 8, 9, 10], [0, 1, 2, 3, 4, 5], [0, 1, 2, 3, 4, 5, 12], [0, 1, 2, 3, 4, 5], [0, 1, 2, 3, 4, 5, 14], [0, 1, 2, 3, 4, 5, 14, 15], [0, 1, 2, 3, 4, 5, 12, 13, 14, 15, 16], [0, 1, 2, 3, 4, 5, 6, 7, 8, 9, 10, 11, 12, 13, 14, 15, 16, 17], [0, 1, 2, 3, 4, 5, 6, 7, 8, 9, 10, 11, 12, 13, 14, 15, 16, 17, 18], [0, 1, 2, 3, 4, 5, 6, 7, 8, 9, 10, 11, 12, 13, 14, 15, 16, 17, 18, 19]], [.er [vb a1.1, .d (.sl (.int .i64)) a1.2], vb a1.1, .er [vb a2, .d (.sl (.int .i64)) a3], vb a2, vb (a1.1 == a2), vb (a1.1 == a2), .when (a1.1 == a2) (.er [.d (.sl (.int .i64)) a1.2]), .when (a1.1 == a2) (.d (.sl (.int .i64)) a1.2), .when (a1.1 == a2) (.er [vi a4, .d (.sl t_farkas_row) a5]), .when (a1.1 == a2) (vi a4), .when (a1.1 == a2) (vi (a4 + (1 : Int))), .when (a1.1 == a2) (.d (.sl (.int .i64)) (a1.2.take (Int.toNat (a4 + (1 : Int))))), .when (a1.1 == a2) (.er [.d (.sl (.int .i64)) a3]), .when (a1.1 == a2) (.d (.sl (.int .i64)) a3), .when (a1.1 == a2) (.er [vi a4, .d (.sl t_farkas_row) a5]), .when (a1.1 == a2) (vi a4), .when (a1.1 == a2) (vi (a4 + (1 : Int))), .when (a1.1 == a2) (.d (.sl (.int .i64)) (a3.take (Int.toNat (a4 + (1 : Int))))), .when (a1.1 == a2) (vb (slices_Equal_farkas_vector_int_int.fn (a1.2.take (Int.toNat (a4 + (1 : Int)))) (a3.take (Int.toNat (a4 + (1 : Int)))))), vb ((a1.1 == a2) && (slices_Equal_farkas_vector_int_int.fn (a1.2.take (Int.toNat (a4 + (1 : Int)))) (a3.take (Int.toNat (a4 + (1 : Int)))))), vb ((a1.1 == a2) && (slices_Equal_farkas_vector_int_int.fn (a1.2.take (Int.toNat (a4 + (1 : Int)))) (a3.take (Int.toNat (a4 + (1 : Int))))))], [none, none, none, none, none, none, none, some ((a1.1 == a2) = true → (a1.1 == a2) = true ∧ True), none, some ((a1.1 == a2) = true → (a1.1 == a2) = true ∧ True), some ((a1.1 == a2) = true → (a1.1 == a2) = true ∧ (-9223372036854775808 ≤ a4 + (1 : Int) ∧ a4 + (1 : Int) ≤ 9223372036854775807)), some ((a1.1 == a2) = true → (a1.1 == a2) = true ∧ ((a1.1 == a2) = true ∧ ((0 : Int) ≤ (a4 + (1 : Int)) ∧ (a4 + (1 : Int)) ≤ (a1.2.length : Int)))), none, some ((a1.1 == a2) = true → (a1.1 == a2) = true ∧ True), none, some ((a1.1 == a2) = true → (a1.1 == a2) = true ∧ True), some ((a1.1 == a2) = true → (a1.1 == a2) = true ∧ (-9223372036854775808 ≤ a4 + (1 : Int) ∧ a4 + (1 : Int) ≤ 9223372036854775807)), some ((a1.1 == a2) = true → (a1.1 == a2) = true ∧ ((a1.1 == a2) = true ∧ ((0 : Int) ≤ (a4 + (1 : Int)) ∧ (a4 + (1 : Int)) ≤ (a3.length : Int)))), some ((a1.1 == a2) = true → (a1.1 == a2) = true ∧ ((a1.1 == a2) = true ∧ (OkC prog 95 [.d (.sl (.int .i64)) (a1.2.take (Int.toNat (a4 + (1 : Int)))), .d (.sl (.int .i64)) (a3.take (Int.toNat (a4 + (1 : Int))))] (vb (slices_Equal_farkas_vector_int_int.fn (a1.2.take (Int.toNat (a4 + (1 : Int)))) (a3.take (Int.toNat (a4 + (1 : Int))))))))), some ((a1.1 == a2) = true → (a1.1 == a2) = true), none], [], [([], [])]⟩ ⟨25, [(4, vb ((a1.1 == a2) && (slices_Equal_farkas_vector_int_int.fn (a1.2.take (Int.toNat (a4 + (1 : Int)))) (a3.take (Int.toNat (a4 + (1 : Int)))))))], []⟩ (by kernel_rfl) (AllO.n (AllO.n (AllO.n (AllO.n (AllO.n (AllO.n (AllO.n (AllO.s (fun hg => ⟨hg, trivial⟩) (AllO.n (AllO.s (fun hg => ⟨hg, trivial⟩) (AllO.s (fun hg => ⟨hg, (o1 hg)⟩) (AllO.s (fun hg => ⟨hg, hg, (o2 hg)⟩) (AllO.n (AllO.s (fun hg => ⟨hg, trivial⟩) (AllO.n (AllO.s (fun hg => ⟨hg, trivial⟩) (AllO.s (fun hg => ⟨hg, (o3 hg)⟩) (AllO.s (fun hg => ⟨hg, hg, (o4 hg)⟩) (AllO.s (fun hg => ⟨hg, hg, ok_slices_Equal_farkas_vector_int_int (a1.2.take (Int.toNat (a4 + (1 : Int)))) (a3.take (Int.toNat (a4 + (1 : Int))))⟩) (AllO.s (fun hc => hc) (AllO.n (AllO.e)))))))))))))))))))))) ?_
  refine then_n (spine_c ?_)
  refine awp_ret (then_r (then_r (?_)))
  exact ret_r (m := 0) (r := vb ((a1.1 == a2) && (slices_Equal_farkas_vector_int_int.fn (a1.2.take (Int.toNat (a4 + (1 : Int)))) (a3.take (Int.toNat (a4 + (1 : Int))))))) (objs := []) hk [.keep [4]] ⟨25, [(4, vb ((a1.1 == a2) && (slices_Equal_farkas_vector_int_int.fn (a1.2.take (Int.toNat (a4 + (1 : Int)))) (a3.take (Int.toNat (a4 + (1 : Int)))))))], []⟩ (by kernel_rfl) (by kernel_rfl) (Nat.le_refl 0) ⟨(a1.1 == a2) && (slices_Equal_farkas_vector_int_int.fn (a1.2.take (Int.toNat (a4 + (1 : Int)))) (a3.take (Int.toNat (a4 + (1 : Int))))), rfl, rfl, h⟩
theorem ok_farkas_table_kept_1 (a1 : farkas_row) (a2 : Bool) (a3 : (List Int)) (a4 : Int) (a5 : (List farkas_row)) (h : farkas_table_kept_1.pre a1 a2 a3 a4 a5) : OkC prog 94 [.agg [vb a1.1, .d (.sl (.int .i64)) a1.2], .er [vb a2, .d (.sl (.int .i64)) a3], .er [vi a4, .d (.sl t_farkas_row) a5]] (vb (farkas_table_kept_1.fn a1 a2 a3 a4 a5)) :=
  OkC.of call_farkas_table_kept_1 ((walk_farkas_table_kept_1 a1 a2 a3 a4 a5 _ (farkas_table_kept_1.spec a1 a2 a3 a4 a5 h)).mono fun r o ⟨x, hr, ho, hx⟩ => ⟨by rw [hr, hx], ho⟩) rfl rfl (fun _ => rfl)

noncomputable abbrev Bslices_IndexFunc_Sfarkas_row_farkas_row__farkas_table_kept_1 : Code := bodyOf Try.f100
theorem call_slices_IndexFunc_Sfarkas_row_farkas_row__farkas_table_kept_1 : CallOk prog 100 := ⟨_, Try.func100, by kernel_rfl, by kernel_rfl⟩
theorem walk_slices_IndexFunc_Sfarkas_row_farkas_row__farkas_table_kept_1 (a1 : (List farkas_row)) (a2 : Bool) (a3 : (List Int)) (a4 : Int) (a5 : (List farkas_row)) (Q : Int → Prop) (h : slices_IndexFunc_Sfarkas_row_farkas_row__farkas_table_kept_1.wp a1 a2 a3 a4 a5 Q) : VCalls prog 100 [.d (.sl t_farkas_row) a1, .fn (.func 94) [] [.er [vb a2, .d (.sl (.int .i64)) a3], .er [vi a4, .d (.sl t_farkas_row) a5]]] [] (fun r o => ∃ x, r = vi x ∧ o = [] ∧ Q x) := by
  refine vcalls_body tab Try.func100 (c := (spine (subC [0] Bslices_IndexFunc_Sfarkas_row_farkas_row__farkas_table_kept_1) [(spine (subC [1, 0, 0] Bslices_IndexFunc_Sfarkas_row_farkas_row__farkas_table_kept_1) [(.block 0 (.loop (spine (subC [1, 0, 1, 0, 0, 0] Bslices_IndexFunc_Sfarkas_row_farkas_row__farkas_table_kept_1) [(spine (.cond (.tmp 9) .skip (.exit 0)) [(spine (.block 1 (spine (subC [1, 0, 1, 0, 0, 1, 1, 0, 0, 0] Bslices_IndexFunc_Sfarkas_row_farkas_row__farkas_table_kept_1) [(spine (subC [1, 0, 1, 0, 0, 1, 1, 0, 0, 1, 0] Bslices_IndexFunc_Sfarkas_row_farkas_row__farkas_table_kept_1) [(.cond (.tmp 16) (spine (subC [1, 0, 1, 0, 0, 1, 1, 0, 0, 1, 1, 0, 0] Bslices_IndexFunc_Sfarkas_row_farkas_row__farkas_table_kept_1) [.ret]) .skip)])])) [(subC [1, 0, 1, 0, 0, 1, 1, 1] Bslices_IndexFunc_Sfarkas_row_farkas_row__farkas_table_kept_1)])])]))), (spine (subC [1, 1, 0] Bslices_IndexFunc_Sfarkas_row_farkas_row__farkas_table_kept_1) [.ret])])])) (by kernel_rfl) (Nat.le_of_ble_eq_true (by kernel_rfl)) fun cx hd hi hk => ?_
  show AWp prog cx _ _ ⟨19, [(0, .d (.sl t_farkas_row) a1), (1, .fn (.func 94) [] [.er [vb a2, .d (.sl (.int .i64)) a3], .er [vi a4, .d (.sl t_farkas_row) a5]])], []⟩
  replace hk : cx.E.len = 0 := hk
  unfold slices_IndexFunc_Sfarkas_row_farkas_row__farkas_table_kept_1.wp at h
  refine awp_spine ?_
  refine awp_rc tab [0, 1] [] [] [] [] ⟨19, [(0, .d (.sl t_farkas_row) a1), (1, .fn (.func 94) [] [.er [vb a2, .d (.sl (.int .i64)) a3], .er [vi a4, .d (.sl t_farkas_row) a5]])], []⟩ (by kernel_rfl) (trivial) ?_
  refine then_n (spine_c ?_)
  refine awp_spine ?_
  refine awp_rc tab [0, 1, 7, 8] [] [] [] [] ⟨19, [(0, .d (.sl t_farkas_row) a1), (1, .fn (.func 94) [] [.er [vb a2, .d (.sl (.int .i64)) a3], .er [vi a4, .d (.sl t_farkas_row) a5]]), (7, vi (a1.length : Int)), (8, vi (0 : Int))], []⟩ (by kernel_rfl) (trivial) ?_
  refine then_n (spine_c ?_)
  refine awp_len 0 [] (T := t_farkas_row) (l := a1) (by kernel_rfl) fun hl => ?_
  replace h := h hl
  refine awp_block ?_
  obtain ⟨I4, ⟨n4a, hz4⟩, hI4⟩ := h
  refine awp_loopN (fun n s => ∃ (x2 : Int), I4 n x2 ∧ s = ⟨19, [(0, .d (.sl t_farkas_row) a1), (1, .fn (.func 94) [] [.er [vb a2, .d (.sl (.int .i64)) a3], .er [vi a4, .d (.sl t_farkas_row) a5]]), (7, vi (a1.length : Int)), (8, vi x2)], []⟩) (n := n4a) (s0 := ⟨19, [(0, .d (.sl t_farkas_row) a1), (1, .fn (.func 94) [] [.er [vb a2, .d (.sl (.int .i64)) a3], .er [vi a4, .d (.sl t_farkas_row) a5]]), (7, vi (a1.length : Int)), (8, vi (0 : Int))], []⟩) (wk_ghosts hk (l := [.keep [0, 1, 7, 8], .keep [0, 1, 7, 8], .keep [0, 1, 7, 8], .keep [0, 1, 7, 8]]) (by kernel_rfl)) ⟨0, hz4, rfl⟩ ?_
  rintro n4 s ⟨x2, hx4, rfl⟩
  have h := hI4 n4 x2 hx4
  refine awp_spine ?_
  refine awp_rc tab [0, 1, 7, 8, 9] [] [] [] [] ⟨19, [(0, .d (.sl t_farkas_row) a1), (1, .fn (.func 94) [] [.er [vb a2, .d (.sl (.int .i64)) a3], .er [vi a4, .d (.sl t_farkas_row) a5]]), (7, vi (a1.length : Int)), (8, vi x2), (9, vb (decide (x2 < (a1.length : Int))))], []⟩ (by kernel_rfl) (trivial) ?_
  refine then_n (spine_c ?_)
  refine awp_spine ?_
  refine awp_cond (b := decide (x2 < (a1.length : Int))) (by kernel_rfl) (fun hb => ?_) (fun hb => ?_)
  · replace h := h.1 (of_decide_eq_true hb)
    refine awp_skip (then_n (spine_c ?_))
    refine awp_spine ?_
    refine awp_block ?_
    refine awp_spine ?_
    refine awp_rc tab [0, 1, 5, 7, 8] [] [] [] [] ⟨19, [(0, .d (.sl t_farkas_row) a1), (1, .fn (.func 94) [] [.er [vb a2, .d (.sl (.int .i64)) a3], .er [vi a4, .d (.sl t_farkas_row) a5]]), (5, vi x2), (7, vi (a1.length : Int)), (8, vi x2)], []⟩ (by kernel_rfl) (trivial) ?_
    refine then_n (spine_c ?_)
    refine awp_spine ?_
    obtain ⟨o1, o2, h⟩ := h
    refine awp_rc tab [0, 1, 5, 7, 8, 16] [] [(5, .dat (vb (farkas_table_kept_1.fn (a1.getD (Int.toNat x2) d_farkas_row) a2 a3 a4 a5)))] [] [(0 : Int) ≤ x2 ∧ x2 < (a1.length : Int), OkC prog 94 [.agg [vb ((a1.getD (Int.toNat x2) d_farkas_row).1), .d (.sl (.int .i64)) ((a1.getD (Int.toNat x2) d_farkas_row).2)], .er [vb a2, .d (.sl (.int .i64)) a3], .er [vi a4, .d (.sl t_farkas_row) a5]] (vb (farkas_table_kept_1.fn (a1.getD (Int.toNat x2) d_farkas_row) a2 a3 a4 a5))] ⟨19, [(0, .d (.sl t_farkas_row) a1), (1, .fn (.func 94) [] [.er [vb a2, .d (.sl (.int .i64)) a3], .er [vi a4, .d (.sl t_farkas_row) a5]]), (5, vi x2), (7, vi (a1.length : Int)), (8, vi x2), (16, vb (farkas_table_kept_1.fn (a1.getD (Int.toNat x2) d_farkas_row) a2 a3 a4 a5))], []⟩ (by kernel_rfl) (AllP.of (o1) (AllP.of (ok_farkas_table_kept_1 (a1.getD (Int.toNat x2) d_farkas_row) a2 a3 a4 a5 (o2)) trivial)) ?_
    refine then_n (spine_c ?_)
    refine awp_cond (b := farkas_table_kept_1.fn (a1.getD (Int.toNat x2) d_farkas_row) a2 a3 a4 a5) (by kernel_rfl) (fun hb => ?_) (fun hb => ?_)
    · replace h := h.1 (hb)
      refine awp_spine ?_
      refine awp_rc tab [4] [] [] [] [] ⟨19, [(4, vi x2)], []⟩ (by kernel_rfl) (trivial) ?_
      refine then_n (spine_c ?_)
      refine awp_ret (then_r (then_r (then_r (blk_r (then_r (then_r (then_r (then_r (blk_r (then_r (then_r (?_))))))))))))
      exact ret_r (m := 0) (r := vi x2) (objs := []) hk [.keep [4]] ⟨19, [(4, vi x2)], []⟩ (by kernel_rfl) (by kernel_rfl) (Nat.le_refl 0) ⟨x2, rfl, rfl, h⟩
    · replace h := h.2 (hb)
      refine awp_skip (then_n (spine_e (then_n (spine_e (blk_n (then_n (spine_c ?_)))))))
      obtain ⟨o3, h⟩ := h
      refine awp_rc tab [0, 1, 7, 8] [] [] [] [-9223372036854775808 ≤ x2 + (1 : Int) ∧ x2 + (1 : Int) ≤ 9223372036854775807] ⟨19, [(0, .d (.sl t_farkas_row) a1), (1, .fn (.func 94) [] [.er [vb a2, .d (.sl (.int .i64)) a3], .er [vi a4, .d (.sl t_farkas_row) a5]]), (7, vi (a1.length : Int)), (8, vi (x2 + (1 : Int)))], []⟩ (by kernel_rfl) (AllP.of (o3) trivial) ?_
      refine then_n (spine_e (then_n (spine_e (then_n (spine_e (then_n (?_)))))))
      obtain ⟨m, hm, h⟩ := h
      exact ⟨m, hm, ⟨19, [(0, .d (.sl t_farkas_row) a1), (1, .fn (.func 94) [] [.er [vb a2, .d (.sl (.int .i64)) a3], .er [vi a4, .d (.sl t_farkas_row) a5]]), (7, vi (a1.length : Int)), (8, vi (x2 + (1 : Int)))], []⟩, wk_ghosts hk (l := [.keep [0, 1, 7, 8], .keep [0, 1, 7, 8], .keep [0, 1, 7, 8]]) (by kernel_rfl), x2 + (1 : Int), h, rfl⟩
  · replace h := h.2 (of_decide_eq_false hb)
    refine awp_exit (then_x (then_x (then_x (blk_h (then_n (spine_c ?_))))))
    refine awp_spine ?_
    refine awp_rc tab [4] [] [] [] [] ⟨19, [(4, vi (-1))], []⟩ (by kernel_rfl) (trivial) ?_
    refine then_n (spine_c ?_)
    refine awp_ret (then_r (then_r (then_r (?_))))
    exact ret_r (m := 0) (r := vi (-1)) (objs := []) hk [.keep [4]] ⟨19, [(4, vi (-1))], []⟩ (by kernel_rfl) (by kernel_rfl) (Nat.le_refl 0) ⟨(-1), rfl, rfl, h⟩
theorem ok_slices_IndexFunc_Sfarkas_row_farkas_row__farkas_table_kept_1 (a1 : (List farkas_row)) (a2 : Bool) (a3 : (List Int)) (a4 : Int) (a5 : (List farkas_row)) (h : slices_IndexFunc_Sfarkas_row_farkas_row__farkas_table_kept_1.pre a1 a2 a3 a4 a5) : OkC prog 100 [.d (.sl t_farkas_row) a1, .fn (.func 94) [] [.er [vb a2, .d (.sl (.int .i64)) a3], .er [vi a4, .d (.sl t_farkas_row) a5]]] (vi (slices_IndexFunc_Sfarkas_row_farkas_row__farkas_table_kept_1.fn a1 a2 a3 a4 a5)) :=
  OkC.of call_slices_IndexFunc_Sfarkas_row_farkas_row__farkas_table_kept_1 ((walk_slices_IndexFunc_Sfarkas_row_farkas_row__farkas_table_kept_1 a1 a2 a3 a4 a5 _ (slices_IndexFunc_Sfarkas_row_farkas_row__farkas_table_kept_1.spec a1 a2 a3 a4 a5 h)).mono fun r o ⟨x, hr, ho, hx⟩ => ⟨by rw [hr, hx], ho⟩) rfl rfl (fun _ => rfl)

noncomputable abbrev Bslices_ContainsFunc_Sfarkas_row_farkas_row__farkas_table_kept_1 : Code := bodyOf Try.f93
theorem call_slices_ContainsFunc_Sfarkas_row_farkas_row__farkas_table_kept_1 : CallOk prog 93 := ⟨_, Try.func93, by kernel_rfl, by kernel_rfl⟩
theorem walk_slices_ContainsFunc_Sfarkas_row_farkas_row__farkas_table_kept_1 (a1 : (List farkas_row)) (a2 : Bool) (a3 : (List Int)) (a4 : Int) (a5 : (List farkas_row)) (Q : Bool → Prop) (h : slices_ContainsFunc_Sfarkas_row_farkas_row__farkas_table_kept_1.wp a1 a2 a3 a4 a5 Q) : VCalls prog 93 [.d (.sl t_farkas_row) a1, .fn (.func 94) [] [.er [vb a2, .d (.sl (.int .i64)) a3], .er [vi a4, .d (.sl t_farkas_row) a5]]] [] (fun r o => ∃ x, r = vb x ∧ o = [] ∧ Q x) := by
  refine vcalls_body tab Try.func93 (c := (spine (subC [0] Bslices_ContainsFunc_Sfarkas_row_farkas_row__farkas_table_kept_1) [(spine (subC [1, 0] Bslices_ContainsFunc_Sfarkas_row_farkas_row__farkas_table_kept_1) [.ret])])) (by kernel_rfl) (Nat.le_of_ble_eq_true (by kernel_rfl)) fun cx hd hi hk => ?_
  show AWp prog cx _ _ ⟨9, [(0, .d (.sl t_farkas_row) a1), (1, .fn (.func 94) [] [.er [vb a2, .d (.sl (.int .i64)) a3], .er [vi a4, .d (.sl t_farkas_row) a5]])], []⟩
  replace hk : cx.E.len = 0 := hk
  unfold slices_ContainsFunc_Sfarkas_row_farkas_row__farkas_table_kept_1.wp at h
  refine awp_spine ?_
  refine awp_rc tab [0, 1] [] [] [] [] ⟨9, [(0, .d (.sl t_farkas_row) a1), (1, .fn (.func 94) [] [.er [vb a2, .d (.sl (.int .i64)) a3], .er [vi a4, .d (.sl t_farkas_row) a5]])], []⟩ (by kernel_rfl) (trivial) ?_
  refine then_n (spine_c ?_)
  refine awp_spine ?_
  obtain ⟨o1, h⟩ := h
  refine awp_rc tab [4] [] [(2, .dat (vi (slices_IndexFunc_Sfarkas_row_farkas_row__farkas_table_kept_1.fn a1 a2 a3 a4 a5)))] [] [OkC prog 100 [.d (.sl t_farkas_row) a1, .fn (.func 94) [] [.er [vb a2, .d (.sl (.int .i64)) a3], .er [vi a4, .d (.sl t_farkas_row) a5]]] (vi (slices_IndexFunc_Sfarkas_row_farkas_row__farkas_table_kept_1.fn a1 a2 a3 a4 a5))] ⟨9, [(4, vb (decide ((slices_IndexFunc_Sfarkas_row_farkas_row__farkas_table_kept_1.fn a1 a2 a3 a4 a5) ≥ (0 : Int))))], []⟩ (by kernel_rfl) (AllP.of (ok_slices_IndexFunc_Sfarkas_row_farkas_row__farkas_table_kept_1 a1 a2 a3 a4 a5 (o1)) trivial) ?_
  refine then_n (spine_c ?_)
  refine awp_abs (fun (x1 : Int) => ⟨9, [(4, vb (decide (x1 ≥ (0 : Int))))], []⟩) (slices_IndexFunc_Sfarkas_row_farkas_row__farkas_table_kept_1.fn a1 a2 a3 a4 a5) ?_
  intro x1 hx1
  replace h := h x1 hx1
  refine awp_ret (then_r (then_r (?_)))
  exact ret_r (m := 0) (r := vb (decide (x1 ≥ (0 : Int)))) (objs := []) hk [.keep [4]] ⟨9, [(4, vb (decide (x1 ≥ (0 : Int))))], []⟩ (by kernel_rfl) (by kernel_rfl) (Nat.le_refl 0) ⟨decide (x1 ≥ (0 : Int)), rfl, rfl, h⟩
theorem ok_slices_ContainsFunc_Sfarkas_row_farkas_row__farkas_table_kept_1 (a1 : (List farkas_row)) (a2 : Bool) (a3 : (List Int)) (a4 : Int) (a5 : (List farkas_row)) (h : slices_ContainsFunc_Sfarkas_row_farkas_row__farkas_table_kept_1.pre a1 a2 a3 a4 a5) : OkC prog 93 [.d (.sl t_farkas_row) a1, .fn (.func 94) [] [.er [vb a2, .d (.sl (.int .i64)) a3], .er [vi a4, .d (.sl t_farkas_row) a5]]] (vb (slices_ContainsFunc_Sfarkas_row_farkas_row__farkas_table_kept_1.fn a1 a2 a3 a4 a5)) :=
  OkC.of call_slices_ContainsFunc_Sfarkas_row_farkas_row__farkas_table_kept_1 ((walk_slices_ContainsFunc_Sfarkas_row_farkas_row__farkas_table_kept_1 a1 a2 a3 a4 a5 _ (slices_ContainsFunc_Sfarkas_row_farkas_row__farkas_table_kept_1.spec a1 a2 a3 a4 a5 h)).mono fun r o ⟨x, hr, ho, hx⟩ => ⟨by rw [hr, hx], ho⟩) rfl rfl (fun _ => rfl)

noncomputable abbrev Bfarkas_table_kept_2 : Code := bodyOf Try.f97
theorem call_farkas_table_kept_2 : CallOk prog 97 := ⟨_, Try.func97, by kernel_rfl, by kernel_rfl⟩
theorem walk_farkas_table_kept_2 (a1 : Int) (Q : Bool → Prop) (h : farkas_table_kept_2.wp a1 Q) : VCalls prog 97 [vi a1] [] (fun r o => ∃ x, r = vb x ∧ o = [] ∧ Q x) := by
  refine vcalls_body tab Try.func97 (c := (spine (subC [0] Bfarkas_table_kept_2) [(spine (subC [1, 0] Bfarkas_table_kept_2) [.ret])])) (by kernel_rfl) (Nat.le_of_ble_eq_true (by kernel_rfl)) fun cx hd hi hk => ?_
  show AWp prog cx _ _ ⟨9, [(0, vi a1)], []⟩
  replace hk : cx.E.len = 0 := hk
  unfold farkas_table_kept_2.wp at h
  refine awp_spine ?_
  refine awp_rc tab [0] [] [] [] [] ⟨9, [(0, vi a1)], []⟩ (by kernel_rfl) (trivial) ?_
  refine then_n (spine_c ?_)
  refine awp_spine ?_
  refine awp_rc tab [2] [] [] [] [(!(decide (a1 < (-1073741824)))) = true → (!(decide (a1 < (-1073741824)))) = true ∧ True, (decide (a1 < (-1073741824))) = false → (!(decide (a1 < (-1073741824)))) = true] ⟨9, [(2, vb ((decide (a1 < (-1073741824))) || (decide (a1 > (1073741824 : Int)))))], []⟩ (by kernel_rfl) (AllP.of (fun hg => ⟨hg, trivial⟩) (AllP.of (fun hc => not_f hc) trivial)) ?_
  refine then_n (spine_c ?_)
  refine awp_ret (then_r (then_r (?_)))
  exact ret_r (m := 0) (r := vb ((decide (a1 < (-1073741824))) || (decide (a1 > (1073741824 : Int))))) (objs := []) hk [.keep [2]] ⟨9, [(2, vb ((decide (a1 < (-1073741824))) || (decide (a1 > (1073741824 : Int)))))], []⟩ (by kernel_rfl) (by kernel_rfl) (Nat.le_refl 0) ⟨(decide (a1 < (-1073741824))) || (decide (a1 > (1073741824 : Int))), rfl, rfl, h⟩
theorem ok_farkas_table_kept_2 (a1 : Int) : OkC prog 97 [vi a1] (vb (farkas_table_kept_2.fn a1)) :=
  OkC.of call_farkas_table_kept_2 ((walk_farkas_table_kept_2 a1 _ (farkas_table_kept_2.spec a1)).mono fun r o ⟨x, hr, ho, hx⟩ => ⟨by rw [hr, hx], ho⟩) rfl rfl (fun _ => rfl)

noncomputable abbrev Bslices_IndexFunc_farkas_vector_int_int__farkas_table_kept_2 : Code := bodyOf Try.f101
theorem call_slices_IndexFunc_farkas_vector_int_int__farkas_table_kept_2 : CallOk prog 101 := ⟨_, Try.func101, by kernel_rfl, by kernel_rfl⟩
theorem walk_slices_IndexFunc_farkas_vector_int_int__farkas_table_kept_2 (a1 : (List Int)) (Q : Int → Prop) (h : slices_IndexFunc_farkas_vector_int_int__farkas_table_kept_2.wp a1 Q) : VCalls prog 101 [.d (.sl (.int .i64)) a1, .fn (.func 97) [] []] [] (fun r o => ∃ x, r = vi x ∧ o = [] ∧ Q x) := by
  refine vcalls_body tab Try.func101 (c := (spine (subC [0] Bslices_IndexFunc_farkas_vector_int_int__farkas_table_kept_2) [(spine (subC [1, 0, 0] Bslices_IndexFunc_farkas_vector_int_int__farkas_table_kept_2) [(.block 0 (.loop (spine (subC [1, 0, 1, 0, 0, 0] Bslices_IndexFunc_farkas_vector_int_int__farkas_table_kept_2) [(spine (.cond (.tmp 9) .skip (.exit 0)) [(spine (.block 1 (spine (subC [1, 0, 1, 0, 0, 1, 1, 0, 0, 0] Bslices_IndexFunc_farkas_vector_int_int__farkas_table_kept_2) [(spine (subC [1, 0, 1, 0, 0, 1, 1, 0, 0, 1, 0] Bslices_IndexFunc_farkas_vector_int_int__farkas_table_kept_2) [(.cond (.tmp 16) (spine (subC [1, 0, 1, 0, 0, 1, 1, 0, 0, 1, 1, 0, 0] Bslices_IndexFunc_farkas_vector_int_int__farkas_table_kept_2) [.ret]) .skip)])])) [(subC [1, 0, 1, 0, 0, 1, 1, 1] Bslices_IndexFunc_farkas_vector_int_int__farkas_table_kept_2)])])]))), (spine (subC [1, 1, 0] Bslices_IndexFunc_farkas_vector_int_int__farkas_table_kept_2) [.ret])])])) (by kernel_rfl) (Nat.le_of_ble_eq_true (by kernel_rfl)) fun cx hd hi hk => ?_
  show AWp prog cx _ _ ⟨19, [(0, .d (.sl (.int .i64)) a1), (1, .fn (.func 97) [] [])], []⟩
  replace hk : cx.E.len = 0 := hk
  unfold slices_IndexFunc_farkas_vector_int_int__farkas_table_kept_2.wp at h
  refine awp_spine ?_
  refine awp_rc tab [0, 1] [] [] [] [] ⟨19, [(0, .d (.sl (.int .i64)) a1), (1, .fn (.func 97) [] [])], []⟩ (by kernel_rfl) (trivial) ?_
  refine then_n (spine_c ?_)
  refine awp_spine ?_
  refine awp_rc tab [0, 1, 7, 8] [] [] [] [] ⟨19, [(0, .d (.sl (.int .i64)) a1), (1, .fn (.func 97) [] []), (7, vi (a1.length : Int)), (8, vi (0 : Int))], []⟩ (by kernel_rfl) (trivial) ?_
  refine then_n (spine_c ?_)
  refine awp_len 0 [] (T := (.int .i64)) (l := a1) (by kernel_rfl) fun hl => ?_
  replace h := h hl
  refine awp_block ?_
  obtain ⟨I4, ⟨n4a, hz4⟩, hI4⟩ := h
  refine awp_loopN (fun n s => ∃ (x2 : Int), I4 n x2 ∧ s = ⟨19, [(0, .d (.sl (.int .i64)) a1), (1, .fn (.func 97) [] []), (7, vi (a1.length : Int)), (8, vi x2)], []⟩) (n := n4a) (s0 := ⟨19, [(0, .d (.sl (.int .i64)) a1), (1, .fn (.func 97) [] []), (7, vi (a1.length : Int)), (8, vi (0 : Int))], []⟩) (wk_ghosts hk (l := [.keep [0, 1, 7, 8], .keep [0, 1, 7, 8], .keep [0, 1, 7, 8], .keep [0, 1, 7, 8]]) (by kernel_rfl)) ⟨0, hz4, rfl⟩ ?_
  rintro n4 s ⟨x2, hx4, rfl⟩
  have h := hI4 n4 x2 hx4
  refine awp_spine ?_
  refine awp_rc tab [0, 1, 7, 8, 9] [] [] [] [] ⟨19, [(0, .d (.sl (.int .i64)) a1), (1, .fn (.func 97) [] []), (7, vi (a1.length : Int)), (8, vi x2), (9, vb (decide (x2 < (a1.length : Int))))], []⟩ (by kernel_rfl) (trivial) ?_
  refine then_n (spine_c ?_)
  refine awp_spine ?_
  refine awp_cond (b := decide (x2 < (a1.length : Int))) (by kernel_rfl) (fun hb => ?_) (fun hb => ?_)
  · replace h := h.1 (of_decide_eq_true hb)
    refine awp_skip (then_n (spine_c ?_))
    refine awp_spine ?_
    refine awp_block ?_
    refine awp_spine ?_
    refine awp_rc tab [0, 1, 5, 7, 8] [] [] [] [] ⟨19, [(0, .d (.sl (.int .i64)) a1), (1, .fn (.func 97) [] []), (5, vi x2), (7, vi (a1.length : Int)), (8, vi x2)], []⟩ (by kernel_rfl) (trivial) ?_
    refine then_n (spine_c ?_)
    refine awp_spine ?_
    obtain ⟨o1, h⟩ := h
    refine awp_rc tab [0, 1, 5, 7, 8, 16] [] [(5, .dat (vb (farkas_table_kept_2.fn (gI a1 x2))))] [] [(0 : Int) ≤ x2 ∧ x2 < (a1.length : Int), OkC prog 97 [vi (gI a1 x2)] (vb (farkas_table_kept_2.fn (gI a1 x2)))] ⟨19, [(0, .d (.sl (.int .i64)) a1), (1, .fn (.func 97) [] []), (5, vi x2), (7, vi (a1.length : Int)), (8, vi x2), (16, vb (farkas_table_kept_2.fn (gI a1 x2)))], []⟩ (by kernel_rfl) (AllP.of (o1) (AllP.of (ok_farkas_table_kept_2 (gI a1 x2)) trivial)) ?_
    refine then_n (spine_c ?_)
    refine awp_cond (b := farkas_table_kept_2.fn (gI a1 x2)) (by kernel_rfl) (fun hb => ?_) (fun hb => ?_)
    · replace h := h.1 (hb)
      refine awp_spine ?_
      refine awp_rc tab [4] [] [] [] [] ⟨19, [(4, vi x2)], []⟩ (by kernel_rfl) (trivial) ?_
      refine then_n (spine_c ?_)
      refine awp_ret (then_r (then_r (then_r (blk_r (then_r (then_r (then_r (then_r (blk_r (then_r (then_r (?_))))))))))))
      exact ret_r (m := 0) (r := vi x2) (objs := []) hk [.keep [4]] ⟨19, [(4, vi x2)], []⟩ (by kernel_rfl) (by kernel_rfl) (Nat.le_refl 0) ⟨x2, rfl, rfl, h⟩
    · replace h := h.2 (hb)
      refine awp_skip (then_n (spine_e (then_n (spine_e (blk_n (then_n (spine_c ?_)))))))
      obtain ⟨o2, h⟩ := h
      refine awp_rc tab [0, 1, 7, 8] [] [] [] [-9223372036854775808 ≤ x2 + (1 : Int) ∧ x2 + (1 : Int) ≤ 9223372036854775807] ⟨19, [(0, .d (.sl (.int .i64)) a1), (1, .fn (.func 97) [] []), (7, vi (a1.length : Int)), (8, vi (x2 + (1 : Int)))], []⟩ (by kernel_rfl) (AllP.of (o2) trivial) ?_
      refine then_n (spine_e (then_n (spine_e (then_n (spine_e (then_n (?_)))))))
      obtain ⟨m, hm, h⟩ := h
      exact ⟨m, hm, ⟨19, [(0, .d (.sl (.int .i64)) a1), (1, .fn (.func 97) [] []), (7, vi (a1.length : Int)), (8, vi (x2 + (1 : Int)))], []⟩, wk_ghosts hk (l := [.keep [0, 1, 7, 8], .keep [0, 1, 7, 8], .keep [0, 1, 7, 8]]) (by kernel_rfl), x2 + (1 : Int), h, rfl⟩
  · replace h := h.2 (of_decide_eq_false hb)
    refine awp_exit (then_x (then_x (then_x (blk_h (then_n (spine_c ?_))))))
    refine awp_spine ?_
    refine awp_rc tab [4] [] [] [] [] ⟨19, [(4, vi (-1))], []⟩ (by kernel_rfl) (trivial) ?_
    refine then_n (spine_c ?_)
    refine awp_ret (then_r (then_r (then_r (?_))))
    exact ret_r (m := 0) (r := vi (-1)) (objs := []) hk [.keep [4]] ⟨19, [(4, vi (-1))], []⟩ (by kernel_rfl) (by kernel_rfl) (Nat.le_refl 0) ⟨(-1), rfl, rfl, h⟩
theorem ok_slices_IndexFunc_farkas_vector_int_int__farkas_table_kept_2 (a1 : (List Int)) : OkC prog 101 [.d (.sl (.int .i64)) a1, .fn (.func 97) [] []] (vi (slices_IndexFunc_farkas_vector_int_int__farkas_table_kept_2.fn a1)) :=
  OkC.of call_slices_IndexFunc_farkas_vector_int_int__farkas_table_kept_2 ((walk_slices_IndexFunc_farkas_vector_int_int__farkas_table_kept_2 a1 _ (slices_IndexFunc_farkas_vector_int_int__farkas_table_kept_2.spec a1)).mono fun r o ⟨x, hr, ho, hx⟩ => ⟨by rw [hr, hx], ho⟩) rfl rfl (fun _ => rfl)

end Go.Proofs.Ytlncingakpelbaa
