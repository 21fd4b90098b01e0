/- Part of a proof that a law of the program holds for every input: printed by a program of this work. No conditions. -/
import Derived.Test.YtlncingakpelbaaK4
namespace Go.Proofs.Ytlncingakpelbaa
open Go
set_option linter.unusedVariables false
set_option maxHeartbeats 4000000

noncomputable abbrev Bfarkas_vector_int_sum : Code := bodyOf Try.f79
theorem call_farkas_vector_int_sum : CallOk prog 79 := ⟨_, Try.func79, by kernel_rfl, by kernel_rfl⟩
theorem walk_farkas_vector_int_sum (a1 : (List Int)) (a2 : Int) (a3 : Int) (a4 : (List Int)) (Q : (List Int) → Prop) (h : farkas_vector_int_sum.wp a1 a2 a3 a4 Q) : VCalls prog 79 [.d (.sl (.int .i64)) a1, vi a2, vi a3, .d (.sl (.int .i64)) a4] [] (fun r o => ∃ x, r = .d (.sl (.int .i64)) x ∧ o = [] ∧ Q x) := by
  refine vcalls_body tab Try.func79 (c := (spine (subC [0] Bfarkas_vector_int_sum) [(spine (subC [1, 0] Bfarkas_vector_int_sum) [(spine (subC [1, 1, 0, 0] Bfarkas_vector_int_sum) [(.block 0 (.loop (spine (subC [1, 1, 0, 1, 0, 0, 0] Bfarkas_vector_int_sum) [(spine (.cond (.tmp 17) .skip (.exit 0)) [(spine (.block 1 (spine (subC [1, 1, 0, 1, 0, 0, 1, 1, 0, 0, 0] Bfarkas_vector_int_sum) [(subC [1, 1, 0, 1, 0, 0, 1, 1, 0, 0, 1] Bfarkas_vector_int_sum)])) [(subC [1, 1, 0, 1, 0, 0, 1, 1, 1] Bfarkas_vector_int_sum)])])]))), (spine (subC [1, 1, 1, 0] Bfarkas_vector_int_sum) [.ret])])])])) (by kernel_rfl) (Nat.le_of_ble_eq_true (by kernel_rfl)) fun cx hd hi hk => ?_
  show AWp prog cx _ _ ⟨37, [(0, .d (.sl (.int .i64)) a1), (1, vi a2), (2, vi a3), (3, .d (.sl (.int .i64)) a4)], []⟩
  replace hk : cx.E.len = 0 := hk
  unfold farkas_vector_int_sum.wp at h
  refine awp_spine ?_
  refine awp_rc tab [0, 1, 2, 3] [] [] [] [] ⟨37, [(0, .d (.sl (.int .i64)) a1), (1, vi a2), (2, vi a3), (3, .d (.sl (.int .i64)) a4)], []⟩ (by kernel_rfl) (trivial) ?_
  refine then_n (spine_c ?_)
  refine awp_spine ?_
  obtain ⟨o1, h⟩ := h
  refine awp_rc tab [0, 1, 2, 3, 9] [] [] [] [(0 : Int) ≤ (a1.length : Int) ∧ (a1.length : Int) ≤ (a1.length : Int) ∧ (a1.length : Int) * 8 ≤ 140737488355328 ∧ (a1.length : Int) ≤ 9223372036854775807] ⟨37, [(0, .d (.sl (.int .i64)) a1), (1, vi a2), (2, vi a3), (3, .d (.sl (.int .i64)) a4), (9, .osl 0 0)], [.row (.int .i64) (List.replicate (Int.toNat (a1.length : Int)) (0 : Int)) 0]⟩ (by kernel_rfl) (AllP.of (o1) trivial) ?_
  refine then_n (spine_c ?_)
  refine awp_abs (fun (x1 : (List Int)) => ⟨37, [(0, .d (.sl (.int .i64)) a1), (1, vi a2), (2, vi a3), (3, .d (.sl (.int .i64)) a4), (9, .osl 0 0)], [.row (.int .i64) x1 0]⟩) (List.replicate (Int.toNat (a1.length : Int)) (0 : Int)) ?_
  intro x1 hx1
  replace h := h x1 hx1
  refine awp_len 0 [] (T := (.int .i64)) (l := a1) (by kernel_rfl) fun hl => ?_
  replace h := h hl
  refine awp_spine ?_
  refine awp_rc tab [0, 1, 2, 3, 9, 15, 16] [] [] [] [] ⟨37, [(0, .d (.sl (.int .i64)) a1), (1, vi a2), (2, vi a3), (3, .d (.sl (.int .i64)) a4), (9, .osl 0 0), (15, vi (a1.length : Int)), (16, vi (0 : Int))], [.row (.int .i64) x1 0]⟩ (by kernel_rfl) (trivial) ?_
  refine then_n (spine_c ?_)
  refine awp_len 0 [] (T := (.int .i64)) (l := a1) (by kernel_rfl) fun hl => ?_
  replace h := h hl
  refine awp_block ?_
  obtain ⟨I8, ⟨n8a, hz8⟩, hI8⟩ := h
  refine awp_loopN (fun n s => ∃ (x4 : Int) (x5 : (List Int)), I8 n x4 x5 ∧ s = ⟨37, [(0, .d (.sl (.int .i64)) a1), (1, vi a2), (2, vi a3), (3, .d (.sl (.int .i64)) a4), (9, .osl 0 0), (15, vi (a1.length : Int)), (16, vi x4)], [.row (.int .i64) x5 0]⟩) (n := n8a) (s0 := ⟨37, [(0, .d (.sl (.int .i64)) a1), (1, vi a2), (2, vi a3), (3, .d (.sl (.int .i64)) a4), (9, .osl 0 0), (15, vi (a1.length : Int)), (16, vi (0 : Int))], [.row (.int .i64) x1 0]⟩) (wk_ghosts hk (l := [.keep [0, 1, 2, 3, 9, 15, 16], .keep [0, 1, 2, 3, 9, 15, 16], .keep [0, 1, 2, 3, 9, 15, 16], .keep [0, 1, 2, 3, 9, 15, 16]]) (by kernel_rfl)) ⟨0, x1, hz8, rfl⟩ ?_
  rintro n8 s ⟨x4, x5, hx8, rfl⟩
  have h := hI8 n8 x4 x5 hx8
  refine awp_spine ?_
  refine awp_rc tab [0, 1, 2, 3, 9, 15, 16, 17] [] [] [] [] ⟨37, [(0, .d (.sl (.int .i64)) a1), (1, vi a2), (2, vi a3), (3, .d (.sl (.int .i64)) a4), (9, .osl 0 0), (15, vi (a1.length : Int)), (16, vi x4), (17, vb (decide (x4 < (a1.length : Int))))], [.row (.int .i64) x5 0]⟩ (by kernel_rfl) (trivial) ?_
  refine then_n (spine_c ?_)
  refine awp_spine ?_
  refine awp_cond (b := decide (x4 < (a1.length : Int))) (by kernel_rfl) (fun hb => ?_) (fun hb => ?_)
  · replace h := h.1 (of_decide_eq_true hb)
    refine awp_skip (then_n (spine_c ?_))
    refine awp_spine ?_
    refine awp_block ?_
    refine awp_spine ?_
    refine awp_rc tab [0, 1, 2, 3, 9, 10, 15, 16] [] [] [] [] ⟨37, [(0, .d (.sl (.int .i64)) a1), (1, vi a2), (2, vi a3), (3, .d (.sl (.int .i64)) a4), (9, .osl 0 0), (10, vi x4), (15, vi (a1.length : Int)), (16, vi x4)], [.row (.int .i64) x5 0]⟩ (by kernel_rfl) (trivial) ?_
    refine then_n (spine_c ?_)
    obtain ⟨o2, o3, o4, o5, o6, o7, o8, h⟩ := h
    refine awp_dr tab mixed [0, 1, 2, 3, 9, 15, 16] [] [] [] ⟨[[], [], [], [], [], [3, 4], [3, 4, 5], [2, 3, 4, 5, 6], [], [], [], [9, 10], [9, 10, 11], [8, 9, 10, 11, 12], [2, 3, 4, 5, 6, 7, 8, 9, 10, 11, 12, 13], [0, 1, 2, 3, 4, 5, 6, 7, 8, 9, 10, 11, 12, 13, 14], [0, 1, 2, 3, 4, 5, 6, 7, 8, 9, 10, 11, 12, 13, 14, 15]], [.osl 0 0, vi x4, vi a2, .d (.sl (.int .i64)) a1, vi x4, .er [vi (gI a1 x4)], vi (gI a1 x4), vi (a2 * (gI a1 x4)), vi a3, .d (.sl (.int .i64)) a4, vi x4, .er [vi (gI a4 x4)], vi (gI a4 x4), vi (a3 * (gI a4 x4)), vi ((a2 * (gI a1 x4)) + (a3 * (gI a4 x4))), .rref 0 0 (Int.toNat x4) 0, .tup []], [none, none, none, none, none, some ((0 : Int) ≤ x4 ∧ x4 < (a1.length : Int)), none, some (-9223372036854775808 ≤ a2 * (gI a1 x4) ∧ a2 * (gI a1 x4) ≤ 9223372036854775807), none, none, none, some ((0 : Int) ≤ x4 ∧ x4 < (a4.length : Int)), none, some (-9223372036854775808 ≤ a3 * (gI a4 x4) ∧ a3 * (gI a4 x4) ≤ 9223372036854775807), some (-9223372036854775808 ≤ (a2 * (gI a1 x4)) + (a3 * (gI a4 x4)) ∧ (a2 * (gI a1 x4)) + (a3 * (gI a4 x4)) ≤ 9223372036854775807), some ((0 : Int) ≤ x4 ∧ x4 < (x5.length : Int)), some (Int.toNat x4 < x5.length)], [16], [([], [.row (.int .i64) x5 0]), ([16], [.row (.int .i64) (x5.set (Int.toNat x4) ((a2 * (gI a1 x4)) + (a3 * (gI a4 x4)))) 0])]⟩ ⟨37, [(0, .d (.sl (.int .i64)) a1), (1, vi a2), (2, vi a3), (3, .d (.sl (.int .i64)) a4), (9, .osl 0 0), (15, vi (a1.length : Int)), (16, vi x4)], [.row (.int .i64) (x5.set (Int.toNat x4) ((a2 * (gI a1 x4)) + (a3 * (gI a4 x4)))) 0]⟩ (by kernel_rfl) (AllO.n (AllO.n (AllO.n (AllO.n (AllO.n (AllO.s (o2) (AllO.n (AllO.s (o3) (AllO.n (AllO.n (AllO.n (AllO.s (o4) (AllO.n (AllO.s (o5) (AllO.s (o6) (AllO.s (o7) (AllO.s (o8) (AllO.e)))))))))))))))))) ?_
    refine then_n (spine_e (blk_n (then_n (spine_c ?_))))
    refine awp_abs (fun (x9 : (List Int)) => ⟨37, [(0, .d (.sl (.int .i64)) a1), (1, vi a2), (2, vi a3), (3, .d (.sl (.int .i64)) a4), (9, .osl 0 0), (15, vi (a1.length : Int)), (16, vi x4)], [.row (.int .i64) x9 0]⟩) (x5.set (Int.toNat x4) ((a2 * (gI a1 x4)) + (a3 * (gI a4 x4)))) ?_
    intro x9 hx9
    replace h := h x9 hx9
    obtain ⟨o9, h⟩ := h
    refine awp_rc tab [0, 1, 2, 3, 9, 15, 16] [] [] [] [-9223372036854775808 ≤ x4 + (1 : Int) ∧ x4 + (1 : Int) ≤ 9223372036854775807] ⟨37, [(0, .d (.sl (.int .i64)) a1), (1, vi a2), (2, vi a3), (3, .d (.sl (.int .i64)) a4), (9, .osl 0 0), (15, vi (a1.length : Int)), (16, vi (x4 + (1 : Int)))], [.row (.int .i64) x9 0]⟩ (by kernel_rfl) (AllP.of (o9) trivial) ?_
    refine then_n (spine_e (then_n (spine_e (then_n (spine_e (then_n (?_)))))))
    obtain ⟨m, hm, h⟩ := h
    exact ⟨m, hm, ⟨37, [(0, .d (.sl (.int .i64)) a1), (1, vi a2), (2, vi a3), (3, .d (.sl (.int .i64)) a4), (9, .osl 0 0), (15, vi (a1.length : Int)), (16, vi (x4 + (1 : Int)))], [.row (.int .i64) x9 0]⟩, wk_ghosts hk (l := [.keep [0, 1, 2, 3, 9, 15, 16], .keep [0, 1, 2, 3, 9, 15, 16], .keep [0, 1, 2, 3, 9, 15, 16]]) (by kernel_rfl), x4 + (1 : Int), x9, h, rfl⟩
  · replace h := h.2 (of_decide_eq_false hb)
    refine awp_exit (then_x (then_x (then_x (blk_h (then_n (spine_c ?_))))))
    refine awp_spine ?_
    refine awp_rc tab [8] [] [] [] [] ⟨37, [(8, .osl 0 0)], [.row (.int .i64) x5 0]⟩ (by kernel_rfl) (trivial) ?_
    refine then_n (spine_c ?_)
    refine awp_ret (then_r (then_r (then_r (then_r (?_)))))
    exact ret_r (m := 0) (r := .d (.sl (.int .i64)) x5) (objs := []) hk [.keep [8], .freeze 0] ⟨37, [(8, .d (.sl (.int .i64)) x5)], [.dead]⟩ (by kernel_rfl) (by kernel_rfl) (Nat.le_refl 0) ⟨x5, rfl, rfl, h⟩
theorem ok_farkas_vector_int_sum (a1 : (List Int)) (a2 : Int) (a3 : Int) (a4 : (List Int)) (h : farkas_vector_int_sum.pre a1 a2 a3 a4) : OkC prog 79 [.d (.sl (.int .i64)) a1, vi a2, vi a3, .d (.sl (.int .i64)) a4] (.d (.sl (.int .i64)) (farkas_vector_int_sum.fn a1 a2 a3 a4)) :=
  OkC.of call_farkas_vector_int_sum ((walk_farkas_vector_int_sum a1 a2 a3 a4 _ (farkas_vector_int_sum.spec a1 a2 a3 a4 h)).mono fun r o ⟨x, hr, ho, hx⟩ => ⟨by rw [hr, hx], ho⟩) rfl rfl (fun _ => rfl)

noncomputable abbrev Bfarkas_table_without : Code := bodyOf Try.f56
theorem call_farkas_table_without : CallOk prog 56 := ⟨_, Try.func56, by kernel_rfl, by kernel_rfl⟩
theorem walk_farkas_table_without (a1 : farkas_table) (a2 : Int) (Q : farkas_table × Int → Prop) (h : farkas_table_without.wp a1 a2 Q) : VCalls prog 56 [.agg [vi a1.1, .d (.sl t_farkas_row) a1.2], vi a2] [] (fun r o => ∃ x, r = .tup [.agg [vi x.1.1, .d (.sl t_farkas_row) x.1.2], vi x.2] ∧ o = [] ∧ Q x) := by
  refine vcalls_body tab Try.func56 (c := (spine (subC [0] Bfarkas_table_without) [(spine (subC [1, 0] Bfarkas_table_without) [(spine (subC [1, 1, 0, 0] Bfarkas_table_without) [(spine (subC [1, 1, 0, 1, 0] Bfarkas_table_without) [(.cond (.tmp 23) (spine (subC [1, 1, 0, 1, 1, 0, 0] Bfarkas_table_without) [(spine (subC [1, 1, 0, 1, 1, 0, 1, 0] Bfarkas_table_without) [(spine (subC [1, 1, 0, 1, 1, 0, 1, 1, 0, 0] Bfarkas_table_without) [(.cond (.tmp 35) (subC [1, 1, 0, 1, 1, 0, 1, 1, 0, 1, 0] Bfarkas_table_without) .skip), (spine (subC [1, 1, 0, 1, 1, 0, 1, 1, 1, 0, 0] Bfarkas_table_without) [(.block 0 (.loop (spine (subC [1, 1, 0, 1, 1, 0, 1, 1, 1, 0, 1, 0, 0, 0] Bfarkas_table_without) [(spine (.cond (.tmp 42) .skip (.exit 0)) [(spine (.block 1 (spine (subC [1, 1, 0, 1, 1, 0, 1, 1, 1, 0, 1, 0, 0, 1, 1, 0, 0, 0] Bfarkas_table_without) [(.block 2 (spine (subC [1, 1, 0, 1, 1, 0, 1, 1, 1, 0, 1, 0, 0, 1, 1, 0, 0, 1, 0, 0] Bfarkas_table_without) [(.cond (.tmp 66) .skip (spine (subC [1, 1, 0, 1, 1, 0, 1, 1, 1, 0, 1, 0, 0, 1, 1, 0, 0, 1, 0, 1, 1, 0] Bfarkas_table_without) [(.cond (.tmp 70) (subC [1, 1, 0, 1, 1, 0, 1, 1, 1, 0, 1, 0, 0, 1, 1, 0, 0, 1, 0, 1, 1, 1, 0] Bfarkas_table_without) (subC [1, 1, 0, 1, 1, 0, 1, 1, 1, 0, 1, 0, 0, 1, 1, 0, 0, 1, 0, 1, 1, 1, 1] Bfarkas_table_without))]))]))])) [(subC [1, 1, 0, 1, 1, 0, 1, 1, 1, 0, 1, 0, 0, 1, 1, 1] Bfarkas_table_without)])])]))), (spine (subC [1, 1, 0, 1, 1, 0, 1, 1, 1, 1, 0] Bfarkas_table_without) [.ret])])])])]) .skip)]), (spine (subC [1, 1, 1, 0, 0] Bfarkas_table_without) [(.block 3 (.loop (spine (subC [1, 1, 1, 0, 1, 0, 0, 0] Bfarkas_table_without) [(spine (.cond (.tmp 91) .skip (.exit 3)) [(spine (.block 4 (spine (subC [1, 1, 1, 0, 1, 0, 0, 1, 1, 0, 0, 0] Bfarkas_table_without) [(spine (subC [1, 1, 1, 0, 1, 0, 0, 1, 1, 0, 0, 1, 0] Bfarkas_table_without) [(.cond (.tmp 99) (subC [1, 1, 1, 0, 1, 0, 0, 1, 1, 0, 0, 1, 1, 0] Bfarkas_table_without) .skip)])])) [(subC [1, 1, 1, 0, 1, 0, 0, 1, 1, 1] Bfarkas_table_without)])])]))), (spine (subC [1, 1, 1, 1, 0, 0] Bfarkas_table_without) [(.block 5 (.loop (spine (subC [1, 1, 1, 1, 0, 1, 0, 0, 0] Bfarkas_table_without) [(spine (.cond (.tmp 109) .skip (.exit 5)) [(spine (.block 6 (spine (subC [1, 1, 1, 1, 0, 1, 0, 0, 1, 1, 0, 0, 0] Bfarkas_table_without) [(spine (subC [1, 1, 1, 1, 0, 1, 0, 0, 1, 1, 0, 0, 1, 0] Bfarkas_table_without) [(.block 7 (.loop (spine (subC [1, 1, 1, 1, 0, 1, 0, 0, 1, 1, 0, 0, 1, 1, 0, 0, 0] Bfarkas_table_without) [(spine (.cond (.tmp 116) .skip (.exit 7)) [(spine (.block 8 (spine (subC [1, 1, 1, 1, 0, 1, 0, 0, 1, 1, 0, 0, 1, 1, 0, 0, 1, 1, 0, 0, 0] Bfarkas_table_without) [(spine (subC [1, 1, 1, 1, 0, 1, 0, 0, 1, 1, 0, 0, 1, 1, 0, 0, 1, 1, 0, 0, 1, 0] Bfarkas_table_without) [(.cond (.tmp 132) (subC [1, 1, 1, 1, 0, 1, 0, 0, 1, 1, 0, 0, 1, 1, 0, 0, 1, 1, 0, 0, 1, 1, 0] Bfarkas_table_without) .skip)])])) [(subC [1, 1, 1, 1, 0, 1, 0, 0, 1, 1, 0, 0, 1, 1, 0, 0, 1, 1, 1] Bfarkas_table_without)])])])))])])) [(subC [1, 1, 1, 1, 0, 1, 0, 0, 1, 1, 1] Bfarkas_table_without)])])]))), (spine (subC [1, 1, 1, 1, 1, 0] Bfarkas_table_without) [.ret])])])])])])) (by kernel_rfl) (Nat.le_of_ble_eq_true (by kernel_rfl)) fun cx hd hi hk => ?_
  show AWp prog cx _ _ ⟨160, [(0, .agg [vi a1.1, .d (.sl t_farkas_row) a1.2]), (1, vi a2)], []⟩
  replace hk : cx.E.len = 0 := hk
  unfold farkas_table_without.wp at h
  refine awp_spine ?_
  refine awp_rc tab [1, 2, 4] [] [] [0] [] ⟨160, [(1, vi a2), (2, .er [vi a1.1, .d (.sl t_farkas_row) a1.2]), (4, .ref 0 0 0)], [.box [vi (0 : Int), .nils]]⟩ (by kernel_rfl) (trivial) ?_
  refine then_n (spine_c ?_)
  refine awp_spine ?_
  refine awp_rc tab [1, 2, 4, 6] [] [] [] [] ⟨160, [(1, vi a2), (2, .er [vi a1.1, .d (.sl t_farkas_row) a1.2]), (4, .ref 0 0 0), (6, .nils)], [.box [vi (0 : Int), .nils]]⟩ (by kernel_rfl) (trivial) ?_
  refine then_n (spine_c ?_)
  refine awp_spine ?_
  obtain ⟨o1, h⟩ := h
  refine awp_rc tab [1, 2, 4, 6, 7] [] [(2, .dat (vi (farkas_table_solver.fn a1 a2)))] [] [OkC prog 78 [.agg [vi a1.1, .d (.sl t_farkas_row) a1.2], vi a2] (vi (farkas_table_solver.fn a1 a2))] ⟨160, [(1, vi a2), (2, .er [vi a1.1, .d (.sl t_farkas_row) a1.2]), (4, .ref 0 0 0), (6, .nils), (7, vi (farkas_table_solver.fn a1 a2))], [.box [vi (0 : Int), .nils]]⟩ (by kernel_rfl) (AllP.of (ok_farkas_table_solver a1 a2 (o1)) trivial) ?_
  refine then_n (spine_c ?_)
  refine awp_abs (fun (x1 : Int) => ⟨160, [(1, vi a2), (2, .er [vi a1.1, .d (.sl t_farkas_row) a1.2]), (4, .ref 0 0 0), (6, .nils), (7, vi x1)], [.box [vi (0 : Int), .nils]]⟩) (farkas_table_solver.fn a1 a2) ?_
  intro x1 hx1
  replace h := h x1 hx1
  refine awp_spine ?_
  refine awp_rc tab [1, 2, 4, 6, 7, 23] [] [] [] [] ⟨160, [(1, vi a2), (2, .er [vi a1.1, .d (.sl t_farkas_row) a1.2]), (4, .ref 0 0 0), (6, .nils), (7, vi x1), (23, vb (decide (x1 ≥ (0 : Int))))], [.box [vi (0 : Int), .nils]]⟩ (by kernel_rfl) (trivial) ?_
  refine then_n (spine_c ?_)
  refine awp_cond (b := decide (x1 ≥ (0 : Int))) (by kernel_rfl) (fun hb => ?_) (fun hb => ?_)
  · replace h := h.1 (of_decide_eq_true hb)
    refine awp_spine ?_
    obtain ⟨o2, h⟩ := h
    refine awp_rc tab [1, 2, 4, 6, 7, 8] [] [] [] [(0 : Int) ≤ x1 ∧ x1 < (a1.2.length : Int)] ⟨160, [(1, vi a2), (2, .er [vi a1.1, .d (.sl t_farkas_row) a1.2]), (4, .ref 0 0 0), (6, .nils), (7, vi x1), (8, .ref 1 0 0)], [.box [vi (0 : Int), .nils], .box [vb ((a1.2.getD (Int.toNat x1) d_farkas_row).1), .d (.sl (.int .i64)) ((a1.2.getD (Int.toNat x1) d_farkas_row).2)]]⟩ (by kernel_rfl) (AllP.of (o2) trivial) ?_
    refine then_n (spine_c ?_)
    refine awp_abs (fun (x2 : farkas_row) => ⟨160, [(1, vi a2), (2, .er [vi a1.1, .d (.sl t_farkas_row) a1.2]), (4, .ref 0 0 0), (6, .nils), (7, vi x1), (8, .ref 1 0 0)], [.box [vi (0 : Int), .nils], .box [vb x2.1, .d (.sl (.int .i64)) x2.2]]⟩) (a1.2.getD (Int.toNat x1) d_farkas_row) ?_
    intro x2 hx2
    replace h := h x2 hx2
    refine awp_spine ?_
    obtain ⟨o3, h⟩ := h
    refine awp_dr tab mixed [1, 2, 4, 6, 7, 8, 9, 10] [] [] [] ⟨[[], [0], [], [0, 1, 2], [0, 1, 2, 3], [], [0, 1, 2, 3, 4, 5]], [.ref 1 0 1, .d (.sl (.int .i64)) x2.2, vi a2, .er [vi (gI x2.2 a2)], vi (gI x2.2 a2), vi (1 : Int), vi (gI x2.2 a2)], [none, none, none, some ((0 : Int) ≤ a2 ∧ a2 < (x2.2.length : Int)), none, none, none], [], [([], [.box [vi (0 : Int), .nils], .box [vb x2.1, .d (.sl (.int .i64)) x2.2]])]⟩ ⟨160, [(1, vi a2), (2, .er [vi a1.1, .d (.sl t_farkas_row) a1.2]), (4, .ref 0 0 0), (6, .nils), (7, vi x1), (8, .ref 1 0 0), (9, vi (1 : Int)), (10, vi (gI x2.2 a2))], [.box [vi (0 : Int), .nils], .box [vb x2.1, .d (.sl (.int .i64)) x2.2]]⟩ (by kernel_rfl) (AllO.n (AllO.n (AllO.n (AllO.s (o3) (AllO.n (AllO.n (AllO.n (AllO.e)))))))) ?_
    refine then_n (spine_c ?_)
    refine awp_spine ?_
    refine awp_rc tab [1, 2, 4, 6, 7, 8, 9, 10, 35] [] [] [] [] ⟨160, [(1, vi a2), (2, .er [vi a1.1, .d (.sl t_farkas_row) a1.2]), (4, .ref 0 0 0), (6, .nils), (7, vi x1), (8, .ref 1 0 0), (9, vi (1 : Int)), (10, vi (gI x2.2 a2)), (35, vb (decide ((gI x2.2 a2) < (0 : Int))))], [.box [vi (0 : Int), .nils], .box [vb x2.1, .d (.sl (.int .i64)) x2.2]]⟩ (by kernel_rfl) (trivial) ?_
    refine then_n (spine_c ?_)
    obtain ⟨R5, hA5, hB5⟩ := h
    refine awp_meet (fun s' => ∃ (x3 : Int) (x4 : Int), R5 x3 x4 ∧ Wk cx s' ⟨160, [(1, vi a2), (2, .er [vi a1.1, .d (.sl t_farkas_row) a1.2]), (4, .ref 0 0 0), (6, .nils), (7, vi x1), (8, .ref 1 0 0), (9, vi x3), (10, vi x4)], [.box [vi (0 : Int), .nils], .box [vb x2.1, .d (.sl (.int .i64)) x2.2]]⟩) ?_ ?_
    · have h := hA5
      refine awp_cond (b := decide ((gI x2.2 a2) < (0 : Int))) (by kernel_rfl) (fun hb => ?_) (fun hb => ?_)
      · replace h := h.1 (of_decide_eq_true hb)
        obtain ⟨o4, h⟩ := h
        refine awp_rc tab [1, 2, 4, 6, 7, 8, 9, 10] [] [] [] [-9223372036854775808 ≤ -(gI x2.2 a2) ∧ -(gI x2.2 a2) ≤ 9223372036854775807] ⟨160, [(1, vi a2), (2, .er [vi a1.1, .d (.sl t_farkas_row) a1.2]), (4, .ref 0 0 0), (6, .nils), (7, vi x1), (8, .ref 1 0 0), (9, vi (-1)), (10, vi (-(gI x2.2 a2)))], [.box [vi (0 : Int), .nils], .box [vb x2.1, .d (.sl (.int .i64)) x2.2]]⟩ (by kernel_rfl) (AllP.of (o4) trivial) ?_
        refine then_n (?_)
        exact ⟨(-1), -(gI x2.2 a2), h, wk_ghosts hk (l := [.keep [1, 2, 4, 6, 7, 8, 9, 10], .keep [1, 2, 4, 6, 7, 8, 9, 10], .keep [1, 2, 4, 6, 7, 8, 9, 10]]) (by kernel_rfl)⟩
      · replace h := h.2 (of_decide_eq_false hb)
        refine awp_skip (then_n (?_))
        exact ⟨1, gI x2.2 a2, h, wk_ghosts hk (l := [.keep [1, 2, 4, 6, 7, 8, 9, 10], .keep [1, 2, 4, 6, 7, 8, 9, 10], .keep [1, 2, 4, 6, 7, 8, 9, 10]]) (by kernel_rfl)⟩
    · rintro s' ⟨x3, x4, hx5, hw5⟩
      have h := hB5 x3 x4 hx5
      refine spine_c (awp_wk hw5 ?_)
      refine awp_spine ?_
      refine awp_rc tab [1, 2, 4, 6, 7, 8, 9, 10, 39, 40, 41] [] [] [] [] ⟨160, [(1, vi a2), (2, .er [vi a1.1, .d (.sl t_farkas_row) a1.2]), (4, .ref 0 0 0), (6, .nils), (7, vi x1), (8, .ref 1 0 0), (9, vi x3), (10, vi x4), (39, .d (.sl t_farkas_row) a1.2), (40, vi (a1.2.length : Int)), (41, vi (0 : Int))], [.box [vi (0 : Int), .nils], .box [vb x2.1, .d (.sl (.int .i64)) x2.2]]⟩ (by kernel_rfl) (trivial) ?_
      refine then_n (spine_c ?_)
      refine awp_len 2 [1] (T := t_farkas_row) (l := a1.2) (by kernel_rfl) fun hl => ?_
      replace h := h hl
      refine awp_block ?_
      obtain ⟨I12, ⟨n12a, hz12⟩, hI12⟩ := h
      refine awp_loopN (fun n s => ∃ (x8 : Int) (x9 : (List farkas_row)), I12 n x8 x9 ∧ s = ⟨160, [(1, vi a2), (2, .er [vi a1.1, .d (.sl t_farkas_row) a1.2]), (4, .ref 0 0 0), (6, .osl 2 0), (7, vi x1), (8, .ref 1 0 0), (9, vi x3), (10, vi x4), (39, .d (.sl t_farkas_row) a1.2), (40, vi (a1.2.length : Int)), (41, vi x8)], [.box [vi (0 : Int), .nils], .box [vb x2.1, .d (.sl (.int .i64)) x2.2], .row t_farkas_row x9 0]⟩) (n := n12a) (s0 := ⟨160, [(1, vi a2), (2, .er [vi a1.1, .d (.sl t_farkas_row) a1.2]), (4, .ref 0 0 0), (6, .osl 2 0), (7, vi x1), (8, .ref 1 0 0), (9, vi x3), (10, vi x4), (39, .d (.sl t_farkas_row) a1.2), (40, vi (a1.2.length : Int)), (41, vi (0 : Int))], [.box [vi (0 : Int), .nils], .box [vb x2.1, .d (.sl (.int .i64)) x2.2], .row t_farkas_row ([] : List farkas_row) 0]⟩) (wk_ghosts hk (l := [.keep [1, 2, 4, 6, 7, 8, 9, 10, 39, 40, 41], .adopt 6 t_farkas_row, .keep [1, 2, 4, 6, 7, 8, 9, 10, 39, 40, 41], .keep [1, 2, 4, 6, 7, 8, 9, 10, 39, 40, 41], .keep [1, 2, 4, 6, 7, 8, 9, 10, 39, 40, 41]]) (by kernel_rfl)) ⟨0, ([] : List farkas_row), hz12, rfl⟩ ?_
      rintro n12 s ⟨x8, x9, hx12, rfl⟩
      have h := hI12 n12 x8 x9 hx12
      refine awp_spine ?_
      refine awp_rc tab [1, 2, 4, 6, 7, 8, 9, 10, 39, 40, 41, 42] [] [] [] [] ⟨160, [(1, vi a2), (2, .er [vi a1.1, .d (.sl t_farkas_row) a1.2]), (4, .ref 0 0 0), (6, .osl 2 0), (7, vi x1), (8, .ref 1 0 0), (9, vi x3), (10, vi x4), (39, .d (.sl t_farkas_row) a1.2), (40, vi (a1.2.length : Int)), (41, vi x8), (42, vb (decide (x8 < (a1.2.length : Int))))], [.box [vi (0 : Int), .nils], .box [vb x2.1, .d (.sl (.int .i64)) x2.2], .row t_farkas_row x9 0]⟩ (by kernel_rfl) (trivial) ?_
      refine then_n (spine_c ?_)
      refine awp_spine ?_
      refine awp_cond (b := decide (x8 < (a1.2.length : Int))) (by kernel_rfl) (fun hb => ?_) (fun hb => ?_)
      · replace h := h.1 (of_decide_eq_true hb)
        refine awp_skip (then_n (spine_c ?_))
        refine awp_spine ?_
        refine awp_block ?_
        refine awp_spine ?_
        obtain ⟨o5, h⟩ := h
        refine awp_rc tab [1, 2, 4, 6, 7, 8, 9, 10, 11, 12, 39, 40, 41] [] [] [] [(0 : Int) ≤ x8 ∧ x8 < (a1.2.length : Int)] ⟨160, [(1, vi a2), (2, .er [vi a1.1, .d (.sl t_farkas_row) a1.2]), (4, .ref 0 0 0), (6, .osl 2 0), (7, vi x1), (8, .ref 1 0 0), (9, vi x3), (10, vi x4), (11, vi x8), (12, .ref 3 0 0), (39, .d (.sl t_farkas_row) a1.2), (40, vi (a1.2.length : Int)), (41, vi x8)], [.box [vi (0 : Int), .nils], .box [vb x2.1, .d (.sl (.int .i64)) x2.2], .row t_farkas_row x9 0, .box [vb ((a1.2.getD (Int.toNat x8) d_farkas_row).1), .d (.sl (.int .i64)) ((a1.2.getD (Int.toNat x8) d_farkas_row).2)]]⟩ (by kernel_rfl) (AllP.of (o5) trivial) ?_
        refine then_n (spine_c ?_)
        refine awp_abs (fun (x13 : farkas_row) => ⟨160, [(1, vi a2), (2, .er [vi a1.1, .d (.sl t_farkas_row) a1.2]), (4, .ref 0 0 0), (6, .osl 2 0), (7, vi x1), (8, .ref 1 0 0), (9, vi x3), (10, vi x4), (11, vi x8), (12, .ref 3 0 0), (39, .d (.sl t_farkas_row) a1.2), (40, vi (a1.2.length : Int)), (41, vi x8)], [.box [vi (0 : Int), .nils], .box [vb x2.1, .d (.sl (.int .i64)) x2.2], .row t_farkas_row x9 0, .box [vb x13.1, .d (.sl (.int .i64)) x13.2]]⟩) (a1.2.getD (Int.toNat x8) d_farkas_row) ?_
        intro x13 hx13
        replace h := h x13 hx13
        refine awp_block ?_
        refine awp_spine ?_
        refine awp_rc tab [1, 2, 4, 6, 7, 8, 9, 10, 12, 39, 40, 41, 66] [] [] [] [] ⟨160, [(1, vi a2), (2, .er [vi a1.1, .d (.sl t_farkas_row) a1.2]), (4, .ref 0 0 0), (6, .osl 2 0), (7, vi x1), (8, .ref 1 0 0), (9, vi x3), (10, vi x4), (12, .ref 3 0 0), (39, .d (.sl t_farkas_row) a1.2), (40, vi (a1.2.length : Int)), (41, vi x8), (66, vb (x8 == x1))], [.box [vi (0 : Int), .nils], .box [vb x2.1, .d (.sl (.int .i64)) x2.2], .row t_farkas_row x9 0, .box [vb x13.1, .d (.sl (.int .i64)) x13.2]]⟩ (by kernel_rfl) (trivial) ?_
        refine then_n (spine_c ?_)
        refine awp_cond (b := x8 == x1) (by kernel_rfl) (fun hb => ?_) (fun hb => ?_)
        · replace h := h.1 (eq_of_beq hb)
          refine awp_skip (then_n (spine_e (blk_n (then_n (spine_e (blk_n (then_n (spine_c ?_))))))))
          obtain ⟨o6, h⟩ := h
          refine awp_rc tab [1, 2, 4, 6, 7, 8, 9, 10, 39, 40, 41] [] [] [] [-9223372036854775808 ≤ x8 + (1 : Int) ∧ x8 + (1 : Int) ≤ 9223372036854775807] ⟨160, [(1, vi a2), (2, .er [vi a1.1, .d (.sl t_farkas_row) a1.2]), (4, .ref 0 0 0), (6, .osl 2 0), (7, vi x1), (8, .ref 1 0 0), (9, vi x3), (10, vi x4), (39, .d (.sl t_farkas_row) a1.2), (40, vi (a1.2.length : Int)), (41, vi (x8 + (1 : Int)))], [.box [vi (0 : Int), .nils], .box [vb x2.1, .d (.sl (.int .i64)) x2.2], .row t_farkas_row x9 0, .box [vb x13.1, .d (.sl (.int .i64)) x13.2]]⟩ (by kernel_rfl) (AllP.of (o6) trivial) ?_
          refine then_n (spine_e (then_n (spine_e (then_n (spine_e (then_n (?_)))))))
          obtain ⟨m, hm, h⟩ := h
          exact ⟨m, hm, ⟨160, [(1, vi a2), (2, .er [vi a1.1, .d (.sl t_farkas_row) a1.2]), (4, .ref 0 0 0), (6, .osl 2 0), (7, vi x1), (8, .ref 1 0 0), (9, vi x3), (10, vi x4), (39, .d (.sl t_farkas_row) a1.2), (40, vi (a1.2.length : Int)), (41, vi (x8 + (1 : Int)))], [.box [vi (0 : Int), .nils], .box [vb x2.1, .d (.sl (.int .i64)) x2.2], .row t_farkas_row x9 0]⟩, wk_ghosts hk (l := [.keep [1, 2, 4, 6, 7, 8, 9, 10, 39, 40, 41], .keep [1, 2, 4, 6, 7, 8, 9, 10, 39, 40, 41], .cut 3, .keep [1, 2, 4, 6, 7, 8, 9, 10, 39, 40, 41]]) (by kernel_rfl), x8 + (1 : Int), x9, h, rfl⟩
        · replace h := h.2 (ne_of_beq_false hb)
          refine awp_spine ?_
          obtain ⟨o7, h⟩ := h
          refine awp_rc tab [1, 2, 4, 6, 7, 8, 9, 10, 12, 39, 40, 41, 70] [] [] [] [(0 : Int) ≤ a2 ∧ a2 < (x13.2.length : Int)] ⟨160, [(1, vi a2), (2, .er [vi a1.1, .d (.sl t_farkas_row) a1.2]), (4, .ref 0 0 0), (6, .osl 2 0), (7, vi x1), (8, .ref 1 0 0), (9, vi x3), (10, vi x4), (12, .ref 3 0 0), (39, .d (.sl t_farkas_row) a1.2), (40, vi (a1.2.length : Int)), (41, vi x8), (70, vb ((gI x13.2 a2) == (0 : Int)))], [.box [vi (0 : Int), .nils], .box [vb x2.1, .d (.sl (.int .i64)) x2.2], .row t_farkas_row x9 0, .box [vb x13.1, .d (.sl (.int .i64)) x13.2]]⟩ (by kernel_rfl) (AllP.of (o7) trivial) ?_
          refine then_n (spine_c ?_)
          refine awp_cond (b := (gI x13.2 a2) == (0 : Int)) (by kernel_rfl) (fun hb => ?_) (fun hb => ?_)
          · replace h := h.1 (eq_of_beq hb)
            obtain ⟨o8, h⟩ := h
            refine awp_rc tab [1, 2, 4, 6, 7, 8, 9, 10, 39, 40, 41] [] [] [2] [1 * 2 ≤ 16777216, (x9.length + [x13].length) * 32 ≤ 140737488355328 ∧ x9.length + [x13].length ≤ 9223372036854775807] ⟨160, [(1, vi a2), (2, .er [vi a1.1, .d (.sl t_farkas_row) a1.2]), (4, .ref 0 0 0), (6, .osl 2 1), (7, vi x1), (8, .ref 1 0 0), (9, vi x3), (10, vi x4), (39, .d (.sl t_farkas_row) a1.2), (40, vi (a1.2.length : Int)), (41, vi x8)], [.box [vi (0 : Int), .nils], .box [vb x2.1, .d (.sl (.int .i64)) x2.2], .row t_farkas_row (x9 ++ [x13]) 1, .box [vb x13.1, .d (.sl (.int .i64)) x13.2]]⟩ (by kernel_rfl) (AllP.of (by decide) (AllP.of (o8) trivial)) ?_
            refine then_n (spine_e (then_n (spine_e (blk_n (then_n (spine_e (blk_n (then_n (spine_c ?_)))))))))
            obtain ⟨o9, h⟩ := h
            refine awp_rc tab [1, 2, 4, 6, 7, 8, 9, 10, 39, 40, 41] [] [] [] [-9223372036854775808 ≤ x8 + (1 : Int) ∧ x8 + (1 : Int) ≤ 9223372036854775807] ⟨160, [(1, vi a2), (2, .er [vi a1.1, .d (.sl t_farkas_row) a1.2]), (4, .ref 0 0 0), (6, .osl 2 1), (7, vi x1), (8, .ref 1 0 0), (9, vi x3), (10, vi x4), (39, .d (.sl t_farkas_row) a1.2), (40, vi (a1.2.length : Int)), (41, vi (x8 + (1 : Int)))], [.box [vi (0 : Int), .nils], .box [vb x2.1, .d (.sl (.int .i64)) x2.2], .row t_farkas_row (x9 ++ [x13]) 1, .box [vb x13.1, .d (.sl (.int .i64)) x13.2]]⟩ (by kernel_rfl) (AllP.of (o9) trivial) ?_
            refine then_n (spine_e (then_n (spine_e (then_n (spine_e (then_n (?_)))))))
            obtain ⟨m, hm, h⟩ := h
            exact ⟨m, hm, ⟨160, [(1, vi a2), (2, .er [vi a1.1, .d (.sl t_farkas_row) a1.2]), (4, .ref 0 0 0), (6, .osl 2 0), (7, vi x1), (8, .ref 1 0 0), (9, vi x3), (10, vi x4), (39, .d (.sl t_farkas_row) a1.2), (40, vi (a1.2.length : Int)), (41, vi (x8 + (1 : Int)))], [.box [vi (0 : Int), .nils], .box [vb x2.1, .d (.sl (.int .i64)) x2.2], .row t_farkas_row (x9 ++ [x13]) 0]⟩, wk_ghosts hk (l := [.keep [1, 2, 4, 6, 7, 8, 9, 10, 39, 40, 41], .keep [1, 2, 4, 6, 7, 8, 9, 10, 39, 40, 41], .cut 3, .reset 2, .keep [1, 2, 4, 6, 7, 8, 9, 10, 39, 40, 41]]) (by kernel_rfl), x8 + (1 : Int), x9 ++ [x13], h, rfl⟩
          · replace h := h.2 (ne_of_beq_false hb)
            obtain ⟨o10, o11, o12, o13, o14, h⟩ := h
            refine awp_dr tab mixed [1, 2, 4, 6, 7, 8, 9, 10, 39, 40, 41] [] [(16, .dat (.d (.sl (.int .i64)) (farkas_vector_int_sum.fn x13.2 x4 ((-x3) * (gI x13.2 a2)) x2.2)))] [18] ⟨[[], [], [1], [], [3], [], [], [6], [], [8], [], [8, 9, 10], [8, 9, 10, 11], [6, 7, 8, 9, 10, 11, 12], [], [14], [3, 4, 5, 6, 7, 8, 9, 10, 11, 12, 13, 14, 15], [1, 2, 3, 4, 5, 6, 7, 8, 9, 10, 11, 12, 13, 14, 15, 16], [1, 2, 3, 4, 5, 6, 7, 8, 9, 10, 11, 12, 13, 14, 15, 16, 17], [0, 1, 2, 3, 4, 5, 6, 7, 8, 9, 10, 11, 12, 13, 14, 15, 16, 17, 18], [0, 1, 2, 3, 4, 5, 6, 7, 8, 9, 10, 11, 12, 13, 14, 15, 16, 17, 18, 19]], [.osl 2 0, .ref 3 0 0, vb x13.1, .ref 3 0 1, .d (.sl (.int .i64)) x13.2, vi x4, vi x3, vi (-x3), .ref 3 0 1, .d (.sl (.int .i64)) x13.2, vi a2, .er [vi (gI x13.2 a2)], vi (gI x13.2 a2), vi ((-x3) * (gI x13.2 a2)), .ref 1 0 1, .d (.sl (.int .i64)) x2.2, .d (.sl (.int .i64)) (farkas_vector_int_sum.fn x13.2 x4 ((-x3) * (gI x13.2 a2)) x2.2), .agg [vb x13.1, .d (.sl (.int .i64)) (farkas_vector_int_sum.fn x13.2 x4 ((-x3) * (gI x13.2 a2)) x2.2)], .d (.sl t_farkas_row) [(x13.1, farkas_vector_int_sum.fn x13.2 x4 ((-x3) * (gI x13.2 a2)) x2.2)], .osl 2 1, .osl 2 1], [none, none, none, none, none, none, none, some (-9223372036854775808 ≤ -x3 ∧ -x3 ≤ 9223372036854775807), none, none, none, some ((0 : Int) ≤ a2 ∧ a2 < (x13.2.length : Int)), none, some (-9223372036854775808 ≤ (-x3) * (gI x13.2 a2) ∧ (-x3) * (gI x13.2 a2) ≤ 9223372036854775807), none, none, some (OkC prog 79 [.d (.sl (.int .i64)) x13.2, vi x4, vi ((-x3) * (gI x13.2 a2)), .d (.sl (.int .i64)) x2.2] (.d (.sl (.int .i64)) (farkas_vector_int_sum.fn x13.2 x4 ((-x3) * (gI x13.2 a2)) x2.2))), none, some (1 * 2 ≤ 16777216), some ((x9.length + [(x13.1, farkas_vector_int_sum.fn x13.2 x4 ((-x3) * (gI x13.2 a2)) x2.2)].length) * 32 ≤ 140737488355328 ∧ x9.length + [(x13.1, farkas_vector_int_sum.fn x13.2 x4 ((-x3) * (gI x13.2 a2)) x2.2)].length ≤ 9223372036854775807), none], [19], [([], [.box [vi (0 : Int), .nils], .box [vb x2.1, .d (.sl (.int .i64)) x2.2], .row t_farkas_row x9 0, .box [vb x13.1, .d (.sl (.int .i64)) x13.2]]), ([19], [.box [vi (0 : Int), .nils], .box [vb x2.1, .d (.sl (.int .i64)) x2.2], .row t_farkas_row (x9 ++ [(x13.1, farkas_vector_int_sum.fn x13.2 x4 ((-x3) * (gI x13.2 a2)) x2.2)]) 1, .box [vb x13.1, .d (.sl (.int .i64)) x13.2]])]⟩ ⟨160, [(1, vi a2), (2, .er [vi a1.1, .d (.sl t_farkas_row) a1.2]), (4, .ref 0 0 0), (6, .osl 2 1), (7, vi x1), (8, .ref 1 0 0), (9, vi x3), (10, vi x4), (39, .d (.sl t_farkas_row) a1.2), (40, vi (a1.2.length : Int)), (41, vi x8)], [.box [vi (0 : Int), .nils], .box [vb x2.1, .d (.sl (.int .i64)) x2.2], .row t_farkas_row (x9 ++ [(x13.1, farkas_vector_int_sum.fn x13.2 x4 ((-x3) * (gI x13.2 a2)) x2.2)]) 1, .box [vb x13.1, .d (.sl (.int .i64)) x13.2]]⟩ (by kernel_rfl) (AllO.n (AllO.n (AllO.n (AllO.n (AllO.n (AllO.n (AllO.n (AllO.s (o10) (AllO.n (AllO.n (AllO.n (AllO.s (o11) (AllO.n (AllO.s (o12) (AllO.n (AllO.n (AllO.s (ok_farkas_vector_int_sum x13.2 x4 ((-x3) * (gI x13.2 a2)) x2.2 (o13)) (AllO.n (AllO.s (by decide) (AllO.s (o14) (AllO.n (AllO.e)))))))))))))))))))))) ?_
            refine then_n (spine_e (then_n (spine_e (blk_n (then_n (spine_e (blk_n (then_n (spine_c ?_)))))))))
            refine awp_abs (fun (x14 : (List farkas_row)) => ⟨160, [(1, vi a2), (2, .er [vi a1.1, .d (.sl t_farkas_row) a1.2]), (4, .ref 0 0 0), (6, .osl 2 1), (7, vi x1), (8, .ref 1 0 0), (9, vi x3), (10, vi x4), (39, .d (.sl t_farkas_row) a1.2), (40, vi (a1.2.length : Int)), (41, vi x8)], [.box [vi (0 : Int), .nils], .box [vb x2.1, .d (.sl (.int .i64)) x2.2], .row t_farkas_row x14 1, .box [vb x13.1, .d (.sl (.int .i64)) x13.2]]⟩) (x9 ++ [(x13.1, farkas_vector_int_sum.fn x13.2 x4 ((-x3) * (gI x13.2 a2)) x2.2)]) ?_
            intro x14 hx14
            replace h := h x14 hx14
            obtain ⟨o15, h⟩ := h
            refine awp_rc tab [1, 2, 4, 6, 7, 8, 9, 10, 39, 40, 41] [] [] [] [-9223372036854775808 ≤ x8 + (1 : Int) ∧ x8 + (1 : Int) ≤ 9223372036854775807] ⟨160, [(1, vi a2), (2, .er [vi a1.1, .d (.sl t_farkas_row) a1.2]), (4, .ref 0 0 0), (6, .osl 2 1), (7, vi x1), (8, .ref 1 0 0), (9, vi x3), (10, vi x4), (39, .d (.sl t_farkas_row) a1.2), (40, vi (a1.2.length : Int)), (41, vi (x8 + (1 : Int)))], [.box [vi (0 : Int), .nils], .box [vb x2.1, .d (.sl (.int .i64)) x2.2], .row t_farkas_row x14 1, .box [vb x13.1, .d (.sl (.int .i64)) x13.2]]⟩ (by kernel_rfl) (AllP.of (o15) trivial) ?_
            refine then_n (spine_e (then_n (spine_e (then_n (spine_e (then_n (?_)))))))
            obtain ⟨m, hm, h⟩ := h
            exact ⟨m, hm, ⟨160, [(1, vi a2), (2, .er [vi a1.1, .d (.sl t_farkas_row) a1.2]), (4, .ref 0 0 0), (6, .osl 2 0), (7, vi x1), (8, .ref 1 0 0), (9, vi x3), (10, vi x4), (39, .d (.sl t_farkas_row) a1.2), (40, vi (a1.2.length : Int)), (41, vi (x8 + (1 : Int)))], [.box [vi (0 : Int), .nils], .box [vb x2.1, .d (.sl (.int .i64)) x2.2], .row t_farkas_row x14 0]⟩, wk_ghosts hk (l := [.keep [1, 2, 4, 6, 7, 8, 9, 10, 39, 40, 41], .keep [1, 2, 4, 6, 7, 8, 9, 10, 39, 40, 41], .cut 3, .reset 2, .keep [1, 2, 4, 6, 7, 8, 9, 10, 39, 40, 41]]) (by kernel_rfl), x8 + (1 : Int), x14, h, rfl⟩
      · replace h := h.2 (of_decide_eq_false hb)
        refine awp_exit (then_x (then_x (then_x (blk_h (then_n (spine_c ?_))))))
        refine awp_spine ?_
        refine awp_gh hk [.freeze 2, .keep [1, 2, 4, 6, 7, 8, 9, 10, 39, 40, 41, 42]] ⟨160, [(1, vi a2), (2, .er [vi a1.1, .d (.sl t_farkas_row) a1.2]), (4, .ref 0 0 0), (6, .d (.sl t_farkas_row) x9), (7, vi x1), (8, .ref 1 0 0), (9, vi x3), (10, vi x4), (39, .d (.sl t_farkas_row) a1.2), (40, vi (a1.2.length : Int)), (41, vi x8), (42, vb (decide (x8 < (a1.2.length : Int))))], [.box [vi (0 : Int), .nils], .box [vb x2.1, .d (.sl (.int .i64)) x2.2], .dead]⟩ (by kernel_rfl) ?_
        obtain ⟨o16, h⟩ := h
        refine awp_rc tab [4, 5] [] [(2, .dat (.tup [.agg [vi (((farkas_table_kept.fn a1 x9).1).1), .d (.sl t_farkas_row) (((farkas_table_kept.fn a1 x9).1).2)], vi ((farkas_table_kept.fn a1 x9).2)]))] [] [OkC prog 80 [.agg [vi a1.1, .d (.sl t_farkas_row) a1.2], .d (.sl t_farkas_row) x9] (.tup [.agg [vi (((farkas_table_kept.fn a1 x9).1).1), .d (.sl t_farkas_row) (((farkas_table_kept.fn a1 x9).1).2)], vi ((farkas_table_kept.fn a1 x9).2)])] ⟨160, [(4, .ref 0 0 0), (5, vi ((farkas_table_kept.fn a1 x9).2))], [.box [vi (((farkas_table_kept.fn a1 x9).1).1), .d (.sl t_farkas_row) (((farkas_table_kept.fn a1 x9).1).2)], .box [vb x2.1, .d (.sl (.int .i64)) x2.2], .dead]⟩ (by kernel_rfl) (AllP.of (ok_farkas_table_kept a1 x9 (o16)) trivial) ?_
        refine then_n (spine_c ?_)
        refine awp_abs (fun (x15 : farkas_table × Int) => ⟨160, [(4, .ref 0 0 0), (5, vi x15.2)], [.box [vi x15.1.1, .d (.sl t_farkas_row) x15.1.2], .box [vb x2.1, .d (.sl (.int .i64)) x2.2], .dead]⟩) (farkas_table_kept.fn a1 x9) ?_
        intro x15 hx15
        replace h := h x15 hx15
        refine awp_abs (fun (x16 : Int) => ⟨160, [(4, .ref 0 0 0), (5, vi x15.2)], [.box [vi x16, .d (.sl t_farkas_row) x15.1.2], .box [vb x2.1, .d (.sl (.int .i64)) x2.2], .dead]⟩) (x15.1.1) ?_
        intro x16 hx16
        replace h := h x16 hx16
        refine awp_abs (fun (x17 : (List farkas_row)) => ⟨160, [(4, .ref 0 0 0), (5, vi x15.2)], [.box [vi x16, .d (.sl t_farkas_row) x17], .box [vb x2.1, .d (.sl (.int .i64)) x2.2], .dead]⟩) (x15.1.2) ?_
        intro x17 hx17
        replace h := h x17 hx17
        refine awp_ret (then_r (then_r (then_r (then_r (then_r (then_r (then_r (then_r (then_r (?_))))))))))
        exact ret_r (m := 0) (r := .tup [.agg [vi ((((x16, x17), x15.2).1).1), .d (.sl t_farkas_row) ((((x16, x17), x15.2).1).2)], vi (((x16, x17), x15.2).2)]) (objs := []) hk [.keep [4, 5]] ⟨160, [(4, .ref 0 0 0), (5, vi x15.2)], [.box [vi x16, .d (.sl t_farkas_row) x17], .box [vb x2.1, .d (.sl (.int .i64)) x2.2], .dead]⟩ (by kernel_rfl) (by kernel_rfl) (Nat.le_refl 0) ⟨((x16, x17), x15.2), rfl, rfl, h⟩
  · replace h := h.2 (of_decide_eq_false hb)
    refine awp_skip (then_n (spine_e (then_n (spine_c ?_))))
    refine awp_spine ?_
    refine awp_rc tab [1, 2, 4, 6, 88, 89, 90] [] [] [] [] ⟨160, [(1, vi a2), (2, .er [vi a1.1, .d (.sl t_farkas_row) a1.2]), (4, .ref 0 0 0), (6, .nils), (88, .d (.sl t_farkas_row) a1.2), (89, vi (a1.2.length : Int)), (90, vi (0 : Int))], [.box [vi (0 : Int), .nils]]⟩ (by kernel_rfl) (trivial) ?_
    refine then_n (spine_c ?_)
    refine awp_len 2 [1] (T := t_farkas_row) (l := a1.2) (by kernel_rfl) fun hl => ?_
    replace h := h hl
    refine awp_block ?_
    obtain ⟨I24, ⟨n24a, hz24⟩, hI24⟩ := h
    refine awp_loopN (fun n s => ∃ (x20 : Int) (x21 : (List farkas_row)), I24 n x20 x21 ∧ s = ⟨160, [(1, vi a2), (2, .er [vi a1.1, .d (.sl t_farkas_row) a1.2]), (4, .ref 0 0 0), (6, .osl 1 0), (88, .d (.sl t_farkas_row) a1.2), (89, vi (a1.2.length : Int)), (90, vi x20)], [.box [vi (0 : Int), .nils], .row t_farkas_row x21 0]⟩) (n := n24a) (s0 := ⟨160, [(1, vi a2), (2, .er [vi a1.1, .d (.sl t_farkas_row) a1.2]), (4, .ref 0 0 0), (6, .osl 1 0), (88, .d (.sl t_farkas_row) a1.2), (89, vi (a1.2.length : Int)), (90, vi (0 : Int))], [.box [vi (0 : Int), .nils], .row t_farkas_row ([] : List farkas_row) 0]⟩) (wk_ghosts hk (l := [.keep [1, 2, 4, 6, 88, 89, 90], .adopt 6 t_farkas_row, .keep [1, 2, 4, 6, 88, 89, 90], .keep [1, 2, 4, 6, 88, 89, 90], .keep [1, 2, 4, 6, 88, 89, 90]]) (by kernel_rfl)) ⟨0, ([] : List farkas_row), hz24, rfl⟩ ?_
    rintro n24 s ⟨x20, x21, hx24, rfl⟩
    have h := hI24 n24 x20 x21 hx24
    refine awp_spine ?_
    refine awp_rc tab [1, 2, 4, 6, 88, 89, 90, 91] [] [] [] [] ⟨160, [(1, vi a2), (2, .er [vi a1.1, .d (.sl t_farkas_row) a1.2]), (4, .ref 0 0 0), (6, .osl 1 0), (88, .d (.sl t_farkas_row) a1.2), (89, vi (a1.2.length : Int)), (90, vi x20), (91, vb (decide (x20 < (a1.2.length : Int))))], [.box [vi (0 : Int), .nils], .row t_farkas_row x21 0]⟩ (by kernel_rfl) (trivial) ?_
    refine then_n (spine_c ?_)
    refine awp_spine ?_
    refine awp_cond (b := decide (x20 < (a1.2.length : Int))) (by kernel_rfl) (fun hb => ?_) (fun hb => ?_)
    · replace h := h.1 (of_decide_eq_true hb)
      refine awp_skip (then_n (spine_c ?_))
      refine awp_spine ?_
      refine awp_block ?_
      refine awp_spine ?_
      obtain ⟨o17, h⟩ := h
      refine awp_rc tab [1, 2, 4, 6, 14, 88, 89, 90] [] [] [] [(0 : Int) ≤ x20 ∧ x20 < (a1.2.length : Int)] ⟨160, [(1, vi a2), (2, .er [vi a1.1, .d (.sl t_farkas_row) a1.2]), (4, .ref 0 0 0), (6, .osl 1 0), (14, .ref 2 0 0), (88, .d (.sl t_farkas_row) a1.2), (89, vi (a1.2.length : Int)), (90, vi x20)], [.box [vi (0 : Int), .nils], .row t_farkas_row x21 0, .box [vb ((a1.2.getD (Int.toNat x20) d_farkas_row).1), .d (.sl (.int .i64)) ((a1.2.getD (Int.toNat x20) d_farkas_row).2)]]⟩ (by kernel_rfl) (AllP.of (o17) trivial) ?_
      refine then_n (spine_c ?_)
      refine awp_abs (fun (x25 : farkas_row) => ⟨160, [(1, vi a2), (2, .er [vi a1.1, .d (.sl t_farkas_row) a1.2]), (4, .ref 0 0 0), (6, .osl 1 0), (14, .ref 2 0 0), (88, .d (.sl t_farkas_row) a1.2), (89, vi (a1.2.length : Int)), (90, vi x20)], [.box [vi (0 : Int), .nils], .row t_farkas_row x21 0, .box [vb x25.1, .d (.sl (.int .i64)) x25.2]]⟩) (a1.2.getD (Int.toNat x20) d_farkas_row) ?_
      intro x25 hx25
      replace h := h x25 hx25
      refine awp_spine ?_
      obtain ⟨o18, h⟩ := h
      refine awp_rc tab [1, 2, 4, 6, 14, 88, 89, 90, 99] [] [] [] [(0 : Int) ≤ a2 ∧ a2 < (x25.2.length : Int)] ⟨160, [(1, vi a2), (2, .er [vi a1.1, .d (.sl t_farkas_row) a1.2]), (4, .ref 0 0 0), (6, .osl 1 0), (14, .ref 2 0 0), (88, .d (.sl t_farkas_row) a1.2), (89, vi (a1.2.length : Int)), (90, vi x20), (99, vb ((gI x25.2 a2) == (0 : Int)))], [.box [vi (0 : Int), .nils], .row t_farkas_row x21 0, .box [vb x25.1, .d (.sl (.int .i64)) x25.2]]⟩ (by kernel_rfl) (AllP.of (o18) trivial) ?_
      refine then_n (spine_c ?_)
      refine awp_cond (b := (gI x25.2 a2) == (0 : Int)) (by kernel_rfl) (fun hb => ?_) (fun hb => ?_)
      · replace h := h.1 (eq_of_beq hb)
        obtain ⟨o19, h⟩ := h
        refine awp_rc tab [1, 2, 4, 6, 88, 89, 90] [] [] [2] [1 * 2 ≤ 16777216, (x21.length + [x25].length) * 32 ≤ 140737488355328 ∧ x21.length + [x25].length ≤ 9223372036854775807] ⟨160, [(1, vi a2), (2, .er [vi a1.1, .d (.sl t_farkas_row) a1.2]), (4, .ref 0 0 0), (6, .osl 1 1), (88, .d (.sl t_farkas_row) a1.2), (89, vi (a1.2.length : Int)), (90, vi x20)], [.box [vi (0 : Int), .nils], .row t_farkas_row (x21 ++ [x25]) 1, .box [vb x25.1, .d (.sl (.int .i64)) x25.2]]⟩ (by kernel_rfl) (AllP.of (by decide) (AllP.of (o19) trivial)) ?_
        refine then_n (spine_e (then_n (spine_e (blk_n (then_n (spine_c ?_))))))
        obtain ⟨o20, h⟩ := h
        refine awp_rc tab [1, 2, 4, 6, 88, 89, 90] [] [] [] [-9223372036854775808 ≤ x20 + (1 : Int) ∧ x20 + (1 : Int) ≤ 9223372036854775807] ⟨160, [(1, vi a2), (2, .er [vi a1.1, .d (.sl t_farkas_row) a1.2]), (4, .ref 0 0 0), (6, .osl 1 1), (88, .d (.sl t_farkas_row) a1.2), (89, vi (a1.2.length : Int)), (90, vi (x20 + (1 : Int)))], [.box [vi (0 : Int), .nils], .row t_farkas_row (x21 ++ [x25]) 1, .box [vb x25.1, .d (.sl (.int .i64)) x25.2]]⟩ (by kernel_rfl) (AllP.of (o20) trivial) ?_
        refine then_n (spine_e (then_n (spine_e (then_n (spine_e (then_n (?_)))))))
        obtain ⟨m, hm, h⟩ := h
        exact ⟨m, hm, ⟨160, [(1, vi a2), (2, .er [vi a1.1, .d (.sl t_farkas_row) a1.2]), (4, .ref 0 0 0), (6, .osl 1 0), (88, .d (.sl t_farkas_row) a1.2), (89, vi (a1.2.length : Int)), (90, vi (x20 + (1 : Int)))], [.box [vi (0 : Int), .nils], .row t_farkas_row (x21 ++ [x25]) 0]⟩, wk_ghosts hk (l := [.keep [1, 2, 4, 6, 88, 89, 90], .keep [1, 2, 4, 6, 88, 89, 90], .cut 2, .reset 1, .keep [1, 2, 4, 6, 88, 89, 90]]) (by kernel_rfl), x20 + (1 : Int), x21 ++ [x25], h, rfl⟩
      · replace h := h.2 (ne_of_beq_false hb)
        refine awp_skip (then_n (spine_e (then_n (spine_e (blk_n (then_n (spine_c ?_)))))))
        obtain ⟨o21, h⟩ := h
        refine awp_rc tab [1, 2, 4, 6, 88, 89, 90] [] [] [] [-9223372036854775808 ≤ x20 + (1 : Int) ∧ x20 + (1 : Int) ≤ 9223372036854775807] ⟨160, [(1, vi a2), (2, .er [vi a1.1, .d (.sl t_farkas_row) a1.2]), (4, .ref 0 0 0), (6, .osl 1 0), (88, .d (.sl t_farkas_row) a1.2), (89, vi (a1.2.length : Int)), (90, vi (x20 + (1 : Int)))], [.box [vi (0 : Int), .nils], .row t_farkas_row x21 0, .box [vb x25.1, .d (.sl (.int .i64)) x25.2]]⟩ (by kernel_rfl) (AllP.of (o21) trivial) ?_
        refine then_n (spine_e (then_n (spine_e (then_n (spine_e (then_n (?_)))))))
        obtain ⟨m, hm, h⟩ := h
        exact ⟨m, hm, ⟨160, [(1, vi a2), (2, .er [vi a1.1, .d (.sl t_farkas_row) a1.2]), (4, .ref 0 0 0), (6, .osl 1 0), (88, .d (.sl t_farkas_row) a1.2), (89, vi (a1.2.length : Int)), (90, vi (x20 + (1 : Int)))], [.box [vi (0 : Int), .nils], .row t_farkas_row x21 0]⟩, wk_ghosts hk (l := [.keep [1, 2, 4, 6, 88, 89, 90], .keep [1, 2, 4, 6, 88, 89, 90], .cut 2, .keep [1, 2, 4, 6, 88, 89, 90]]) (by kernel_rfl), x20 + (1 : Int), x21, h, rfl⟩
    · replace h := h.2 (of_decide_eq_false hb)
      refine awp_exit (then_x (then_x (then_x (blk_h (then_n (spine_c ?_))))))
      refine awp_spine ?_
      refine awp_rc tab [1, 2, 4, 6, 106, 107, 108] [] [] [] [] ⟨160, [(1, vi a2), (2, .er [vi a1.1, .d (.sl t_farkas_row) a1.2]), (4, .ref 0 0 0), (6, .osl 1 0), (106, .d (.sl t_farkas_row) a1.2), (107, vi (a1.2.length : Int)), (108, vi (0 : Int))], [.box [vi (0 : Int), .nils], .row t_farkas_row x21 0]⟩ (by kernel_rfl) (trivial) ?_
      refine then_n (spine_c ?_)
      refine awp_len 2 [1] (T := t_farkas_row) (l := a1.2) (by kernel_rfl) fun hl => ?_
      replace h := h hl
      refine awp_block ?_
      obtain ⟨I32, ⟨n32a, hz32⟩, hI32⟩ := h
      refine awp_loopN (fun n s => ∃ (x28 : Int) (x29 : (List farkas_row)), I32 n x28 x29 ∧ s = ⟨160, [(1, vi a2), (2, .er [vi a1.1, .d (.sl t_farkas_row) a1.2]), (4, .ref 0 0 0), (6, .osl 1 0), (106, .d (.sl t_farkas_row) a1.2), (107, vi (a1.2.length : Int)), (108, vi x28)], [.box [vi (0 : Int), .nils], .row t_farkas_row x29 0]⟩) (n := n32a) (s0 := ⟨160, [(1, vi a2), (2, .er [vi a1.1, .d (.sl t_farkas_row) a1.2]), (4, .ref 0 0 0), (6, .osl 1 0), (106, .d (.sl t_farkas_row) a1.2), (107, vi (a1.2.length : Int)), (108, vi (0 : Int))], [.box [vi (0 : Int), .nils], .row t_farkas_row x21 0]⟩) (wk_ghosts hk (l := [.keep [1, 2, 4, 6, 106, 107, 108], .keep [1, 2, 4, 6, 106, 107, 108], .keep [1, 2, 4, 6, 106, 107, 108], .keep [1, 2, 4, 6, 106, 107, 108]]) (by kernel_rfl)) ⟨0, x21, hz32, rfl⟩ ?_
      rintro n32 s ⟨x28, x29, hx32, rfl⟩
      have h := hI32 n32 x28 x29 hx32
      refine awp_spine ?_
      refine awp_rc tab [1, 2, 4, 6, 106, 107, 108, 109] [] [] [] [] ⟨160, [(1, vi a2), (2, .er [vi a1.1, .d (.sl t_farkas_row) a1.2]), (4, .ref 0 0 0), (6, .osl 1 0), (106, .d (.sl t_farkas_row) a1.2), (107, vi (a1.2.length : Int)), (108, vi x28), (109, vb (decide (x28 < (a1.2.length : Int))))], [.box [vi (0 : Int), .nils], .row t_farkas_row x29 0]⟩ (by kernel_rfl) (trivial) ?_
      refine then_n (spine_c ?_)
      refine awp_spine ?_
      refine awp_cond (b := decide (x28 < (a1.2.length : Int))) (by kernel_rfl) (fun hb => ?_) (fun hb => ?_)
      · replace h := h.1 (of_decide_eq_true hb)
        refine awp_skip (then_n (spine_c ?_))
        refine awp_spine ?_
        refine awp_block ?_
        refine awp_spine ?_
        obtain ⟨o22, h⟩ := h
        refine awp_rc tab [1, 2, 4, 6, 16, 106, 107, 108] [] [] [] [(0 : Int) ≤ x28 ∧ x28 < (a1.2.length : Int)] ⟨160, [(1, vi a2), (2, .er [vi a1.1, .d (.sl t_farkas_row) a1.2]), (4, .ref 0 0 0), (6, .osl 1 0), (16, .ref 2 0 0), (106, .d (.sl t_farkas_row) a1.2), (107, vi (a1.2.length : Int)), (108, vi x28)], [.box [vi (0 : Int), .nils], .row t_farkas_row x29 0, .box [vb ((a1.2.getD (Int.toNat x28) d_farkas_row).1), .d (.sl (.int .i64)) ((a1.2.getD (Int.toNat x28) d_farkas_row).2)]]⟩ (by kernel_rfl) (AllP.of (o22) trivial) ?_
        refine then_n (spine_c ?_)
        refine awp_abs (fun (x33 : farkas_row) => ⟨160, [(1, vi a2), (2, .er [vi a1.1, .d (.sl t_farkas_row) a1.2]), (4, .ref 0 0 0), (6, .osl 1 0), (16, .ref 2 0 0), (106, .d (.sl t_farkas_row) a1.2), (107, vi (a1.2.length : Int)), (108, vi x28)], [.box [vi (0 : Int), .nils], .row t_farkas_row x29 0, .box [vb x33.1, .d (.sl (.int .i64)) x33.2]]⟩) (a1.2.getD (Int.toNat x28) d_farkas_row) ?_
        intro x33 hx33
        replace h := h x33 hx33
        refine awp_spine ?_
        refine awp_rc tab [1, 2, 4, 6, 16, 106, 107, 108, 113, 114, 115] [] [] [] [] ⟨160, [(1, vi a2), (2, .er [vi a1.1, .d (.sl t_farkas_row) a1.2]), (4, .ref 0 0 0), (6, .osl 1 0), (16, .ref 2 0 0), (106, .d (.sl t_farkas_row) a1.2), (107, vi (a1.2.length : Int)), (108, vi x28), (113, .d (.sl t_farkas_row) a1.2), (114, vi (a1.2.length : Int)), (115, vi (0 : Int))], [.box [vi (0 : Int), .nils], .row t_farkas_row x29 0, .box [vb x33.1, .d (.sl (.int .i64)) x33.2]]⟩ (by kernel_rfl) (trivial) ?_
        refine then_n (spine_c ?_)
        refine awp_len 2 [1] (T := t_farkas_row) (l := a1.2) (by kernel_rfl) fun hl => ?_
        replace h := h hl
        refine awp_block ?_
        obtain ⟨I40, ⟨n40a, hz40⟩, hI40⟩ := h
        refine awp_loopN (fun n s => ∃ (x36 : Int) (x37 : (List farkas_row)), I40 n x36 x37 ∧ s = ⟨160, [(1, vi a2), (2, .er [vi a1.1, .d (.sl t_farkas_row) a1.2]), (4, .ref 0 0 0), (6, .osl 1 0), (16, .ref 2 0 0), (106, .d (.sl t_farkas_row) a1.2), (107, vi (a1.2.length : Int)), (108, vi x28), (113, .d (.sl t_farkas_row) a1.2), (114, vi (a1.2.length : Int)), (115, vi x36)], [.box [vi (0 : Int), .nils], .row t_farkas_row x37 0, .box [vb x33.1, .d (.sl (.int .i64)) x33.2]]⟩) (n := n40a) (s0 := ⟨160, [(1, vi a2), (2, .er [vi a1.1, .d (.sl t_farkas_row) a1.2]), (4, .ref 0 0 0), (6, .osl 1 0), (16, .ref 2 0 0), (106, .d (.sl t_farkas_row) a1.2), (107, vi (a1.2.length : Int)), (108, vi x28), (113, .d (.sl t_farkas_row) a1.2), (114, vi (a1.2.length : Int)), (115, vi (0 : Int))], [.box [vi (0 : Int), .nils], .row t_farkas_row x29 0, .box [vb x33.1, .d (.sl (.int .i64)) x33.2]]⟩) (wk_ghosts hk (l := [.keep [1, 2, 4, 6, 16, 106, 107, 108, 113, 114, 115], .keep [1, 2, 4, 6, 16, 106, 107, 108, 113, 114, 115], .keep [1, 2, 4, 6, 16, 106, 107, 108, 113, 114, 115], .keep [1, 2, 4, 6, 16, 106, 107, 108, 113, 114, 115]]) (by kernel_rfl)) ⟨0, x29, hz40, rfl⟩ ?_
        rintro n40 s ⟨x36, x37, hx40, rfl⟩
        have h := hI40 n40 x36 x37 hx40
        refine awp_spine ?_
        refine awp_rc tab [1, 2, 4, 6, 16, 106, 107, 108, 113, 114, 115, 116] [] [] [] [] ⟨160, [(1, vi a2), (2, .er [vi a1.1, .d (.sl t_farkas_row) a1.2]), (4, .ref 0 0 0), (6, .osl 1 0), (16, .ref 2 0 0), (106, .d (.sl t_farkas_row) a1.2), (107, vi (a1.2.length : Int)), (108, vi x28), (113, .d (.sl t_farkas_row) a1.2), (114, vi (a1.2.length : Int)), (115, vi x36), (116, vb (decide (x36 < (a1.2.length : Int))))], [.box [vi (0 : Int), .nils], .row t_farkas_row x37 0, .box [vb x33.1, .d (.sl (.int .i64)) x33.2]]⟩ (by kernel_rfl) (trivial) ?_
        refine then_n (spine_c ?_)
        refine awp_spine ?_
        refine awp_cond (b := decide (x36 < (a1.2.length : Int))) (by kernel_rfl) (fun hb => ?_) (fun hb => ?_)
        · replace h := h.1 (of_decide_eq_true hb)
          refine awp_skip (then_n (spine_c ?_))
          refine awp_spine ?_
          refine awp_block ?_
          refine awp_spine ?_
          obtain ⟨o23, h⟩ := h
          refine awp_rc tab [1, 2, 4, 6, 16, 18, 106, 107, 108, 113, 114, 115] [] [] [] [(0 : Int) ≤ x36 ∧ x36 < (a1.2.length : Int)] ⟨160, [(1, vi a2), (2, .er [vi a1.1, .d (.sl t_farkas_row) a1.2]), (4, .ref 0 0 0), (6, .osl 1 0), (16, .ref 2 0 0), (18, .ref 3 0 0), (106, .d (.sl t_farkas_row) a1.2), (107, vi (a1.2.length : Int)), (108, vi x28), (113, .d (.sl t_farkas_row) a1.2), (114, vi (a1.2.length : Int)), (115, vi x36)], [.box [vi (0 : Int), .nils], .row t_farkas_row x37 0, .box [vb x33.1, .d (.sl (.int .i64)) x33.2], .box [vb ((a1.2.getD (Int.toNat x36) d_farkas_row).1), .d (.sl (.int .i64)) ((a1.2.getD (Int.toNat x36) d_farkas_row).2)]]⟩ (by kernel_rfl) (AllP.of (o23) trivial) ?_
          refine then_n (spine_c ?_)
          refine awp_abs (fun (x41 : farkas_row) => ⟨160, [(1, vi a2), (2, .er [vi a1.1, .d (.sl t_farkas_row) a1.2]), (4, .ref 0 0 0), (6, .osl 1 0), (16, .ref 2 0 0), (18, .ref 3 0 0), (106, .d (.sl t_farkas_row) a1.2), (107, vi (a1.2.length : Int)), (108, vi x28), (113, .d (.sl t_farkas_row) a1.2), (114, vi (a1.2.length : Int)), (115, vi x36)], [.box [vi (0 : Int), .nils], .row t_farkas_row x37 0, .box [vb x33.1, .d (.sl (.int .i64)) x33.2], .box [vb x41.1, .d (.sl (.int .i64)) x41.2]]⟩) (a1.2.getD (Int.toNat x36) d_farkas_row) ?_
          intro x41 hx41
          replace h := h x41 hx41
          refine awp_spine ?_
          obtain ⟨o24, o25, h⟩ := h
          refine awp_rc tab [1, 2, 4, 6, 16, 18, 106, 107, 108, 113, 114, 115, 132] [] [] [] [(0 : Int) ≤ a2 ∧ a2 < (x33.2.length : Int), (decide ((gI x33.2 a2) > (0 : Int))) = true → (decide ((gI x33.2 a2) > (0 : Int))) = true ∧ True, (decide ((gI x33.2 a2) > (0 : Int))) = true → (decide ((gI x33.2 a2) > (0 : Int))) = true ∧ ((decide ((gI x33.2 a2) > (0 : Int))) = true ∧ ((0 : Int) ≤ a2 ∧ a2 < (x41.2.length : Int))), (decide ((gI x33.2 a2) > (0 : Int))) = true → (decide ((gI x33.2 a2) > (0 : Int))) = true ∧ True, (decide ((gI x33.2 a2) > (0 : Int))) = true → (decide ((gI x33.2 a2) > (0 : Int))) = true ∧ True, (decide ((gI x33.2 a2) > (0 : Int))) = true → (decide ((gI x33.2 a2) > (0 : Int))) = true] ⟨160, [(1, vi a2), (2, .er [vi a1.1, .d (.sl t_farkas_row) a1.2]), (4, .ref 0 0 0), (6, .osl 1 0), (16, .ref 2 0 0), (18, .ref 3 0 0), (106, .d (.sl t_farkas_row) a1.2), (107, vi (a1.2.length : Int)), (108, vi x28), (113, .d (.sl t_farkas_row) a1.2), (114, vi (a1.2.length : Int)), (115, vi x36), (132, vb ((decide ((gI x33.2 a2) > (0 : Int))) && (decide ((gI x41.2 a2) < (0 : Int)))))], [.box [vi (0 : Int), .nils], .row t_farkas_row x37 0, .box [vb x33.1, .d (.sl (.int .i64)) x33.2], .box [vb x41.1, .d (.sl (.int .i64)) x41.2]]⟩ (by kernel_rfl) (AllP.of (o24) (AllP.of (fun hg => ⟨hg, trivial⟩) (AllP.of (fun hg => ⟨hg, hg, (o25 hg)⟩) (AllP.of (fun hg => ⟨hg, trivial⟩) (AllP.of (fun hg => ⟨hg, trivial⟩) (AllP.of (fun hc => hc) trivial)))))) ?_
          refine then_n (spine_c ?_)
          refine awp_cond (b := (decide ((gI x33.2 a2) > (0 : Int))) && (decide ((gI x41.2 a2) < (0 : Int)))) (by kernel_rfl) (fun hb => ?_) (fun hb => ?_)
          · replace h := h.1 (hb)
            obtain ⟨o26, o27, o28, o29, o30, h⟩ := h
            refine awp_dr tab mixed [1, 2, 4, 6, 16, 106, 107, 108, 113, 114, 115] [] [(16, .dat (.d (.sl (.int .i64)) (farkas_vector_int_sum.fn x33.2 (-(gI x41.2 a2)) (gI x33.2 a2) x41.2)))] [18] ⟨[[], [], [1], [], [3], [], [3, 4, 5], [3, 4, 5, 6], [3, 4, 5, 6, 7], [], [9], [], [9, 10, 11], [9, 10, 11, 12], [], [14], [1, 2, 3, 4, 5, 6, 7, 8, 9, 10, 11, 12, 13, 14, 15], [1, 2, 3, 4, 5, 6, 7, 8, 9, 10, 11, 12, 13, 14, 15, 16], [1, 2, 3, 4, 5, 6, 7, 8, 9, 10, 11, 12, 13, 14, 15, 16, 17], [0, 1, 2, 3, 4, 5, 6, 7, 8, 9, 10, 11, 12, 13, 14, 15, 16, 17, 18], [0, 1, 2, 3, 4, 5, 6, 7, 8, 9, 10, 11, 12, 13, 14, 15, 16, 17, 18, 19]], [.osl 1 0, .ref 2 0 1, .d (.sl (.int .i64)) x33.2, .ref 3 0 1, .d (.sl (.int .i64)) x41.2, vi a2, .er [vi (gI x41.2 a2)], vi (gI x41.2 a2), vi (-(gI x41.2 a2)), .ref 2 0 1, .d (.sl (.int .i64)) x33.2, vi a2, .er [vi (gI x33.2 a2)], vi (gI x33.2 a2), .ref 3 0 1, .d (.sl (.int .i64)) x41.2, .d (.sl (.int .i64)) (farkas_vector_int_sum.fn x33.2 (-(gI x41.2 a2)) (gI x33.2 a2) x41.2), .agg [vb false, .d (.sl (.int .i64)) (farkas_vector_int_sum.fn x33.2 (-(gI x41.2 a2)) (gI x33.2 a2) x41.2)], .d (.sl t_farkas_row) [(false, farkas_vector_int_sum.fn x33.2 (-(gI x41.2 a2)) (gI x33.2 a2) x41.2)], .osl 1 1, .osl 1 1], [none, none, none, none, none, none, some ((0 : Int) ≤ a2 ∧ a2 < (x41.2.length : Int)), none, some (-9223372036854775808 ≤ -(gI x41.2 a2) ∧ -(gI x41.2 a2) ≤ 9223372036854775807), none, none, none, some ((0 : Int) ≤ a2 ∧ a2 < (x33.2.length : Int)), none, none, none, some (OkC prog 79 [.d (.sl (.int .i64)) x33.2, vi (-(gI x41.2 a2)), vi (gI x33.2 a2), .d (.sl (.int .i64)) x41.2] (.d (.sl (.int .i64)) (farkas_vector_int_sum.fn x33.2 (-(gI x41.2 a2)) (gI x33.2 a2) x41.2))), none, some (1 * 2 ≤ 16777216), some ((x37.length + [(false, farkas_vector_int_sum.fn x33.2 (-(gI x41.2 a2)) (gI x33.2 a2) x41.2)].length) * 32 ≤ 140737488355328 ∧ x37.length + [(false, farkas_vector_int_sum.fn x33.2 (-(gI x41.2 a2)) (gI x33.2 a2) x41.2)].length ≤ 9223372036854775807), none], [19], [([], [.box [vi (0 : Int), .nils], .row t_farkas_row x37 0, .box [vb x33.1, .d (.sl (.int .i64)) x33.2], .box [vb x41.1, .d (.sl (.int .i64)) x41.2]]), ([19], [.box [vi (0 : Int), .nils], .row t_farkas_row (x37 ++ [(false, farkas_vector_int_sum.fn x33.2 (-(gI x41.2 a2)) (gI x33.2 a2) x41.2)]) 1, .box [vb x33.1, .d (.sl (.int .i64)) x33.2], .box [vb x41.1, .d (.sl (.int .i64)) x41.2]])]⟩ ⟨160, [(1, vi a2), (2, .er [vi a1.1, .d (.sl t_farkas_row) a1.2]), (4, .ref 0 0 0), (6, .osl 1 1), (16, .ref 2 0 0), (106, .d (.sl t_farkas_row) a1.2), (107, vi (a1.2.length : Int)), (108, vi x28), (113, .d (.sl t_farkas_row) a1.2), (114, vi (a1.2.length : Int)), (115, vi x36)], [.box [vi (0 : Int), .nils], .row t_farkas_row (x37 ++ [(false, farkas_vector_int_sum.fn x33.2 (-(gI x41.2 a2)) (gI x33.2 a2) x41.2)]) 1, .box [vb x33.1, .d (.sl (.int .i64)) x33.2], .box [vb x41.1, .d (.sl (.int .i64)) x41.2]]⟩ (by kernel_rfl) (AllO.n (AllO.n (AllO.n (AllO.n (AllO.n (AllO.n (AllO.s (o26) (AllO.n (AllO.s (o27) (AllO.n (AllO.n (AllO.n (AllO.s (o28) (AllO.n (AllO.n (AllO.n (AllO.s (ok_farkas_vector_int_sum x33.2 (-(gI x41.2 a2)) (gI x33.2 a2) x41.2 (o29)) (AllO.n (AllO.s (by decide) (AllO.s (o30) (AllO.n (AllO.e)))))))))))))))))))))) ?_
            refine then_n (spine_e (then_n (spine_e (blk_n (then_n (spine_c ?_))))))
            refine awp_abs (fun (x42 : (List farkas_row)) => ⟨160, [(1, vi a2), (2, .er [vi a1.1, .d (.sl t_farkas_row) a1.2]), (4, .ref 0 0 0), (6, .osl 1 1), (16, .ref 2 0 0), (106, .d (.sl t_farkas_row) a1.2), (107, vi (a1.2.length : Int)), (108, vi x28), (113, .d (.sl t_farkas_row) a1.2), (114, vi (a1.2.length : Int)), (115, vi x36)], [.box [vi (0 : Int), .nils], .row t_farkas_row x42 1, .box [vb x33.1, .d (.sl (.int .i64)) x33.2], .box [vb x41.1, .d (.sl (.int .i64)) x41.2]]⟩) (x37 ++ [(false, farkas_vector_int_sum.fn x33.2 (-(gI x41.2 a2)) (gI x33.2 a2) x41.2)]) ?_
            intro x42 hx42
            replace h := h x42 hx42
            obtain ⟨o31, h⟩ := h
            refine awp_rc tab [1, 2, 4, 6, 16, 106, 107, 108, 113, 114, 115] [] [] [] [-9223372036854775808 ≤ x36 + (1 : Int) ∧ x36 + (1 : Int) ≤ 9223372036854775807] ⟨160, [(1, vi a2), (2, .er [vi a1.1, .d (.sl t_farkas_row) a1.2]), (4, .ref 0 0 0), (6, .osl 1 1), (16, .ref 2 0 0), (106, .d (.sl t_farkas_row) a1.2), (107, vi (a1.2.length : Int)), (108, vi x28), (113, .d (.sl t_farkas_row) a1.2), (114, vi (a1.2.length : Int)), (115, vi (x36 + (1 : Int)))], [.box [vi (0 : Int), .nils], .row t_farkas_row x42 1, .box [vb x33.1, .d (.sl (.int .i64)) x33.2], .box [vb x41.1, .d (.sl (.int .i64)) x41.2]]⟩ (by kernel_rfl) (AllP.of (o31) trivial) ?_
            refine then_n (spine_e (then_n (spine_e (then_n (spine_e (then_n (?_)))))))
            obtain ⟨m, hm, h⟩ := h
            exact ⟨m, hm, ⟨160, [(1, vi a2), (2, .er [vi a1.1, .d (.sl t_farkas_row) a1.2]), (4, .ref 0 0 0), (6, .osl 1 0), (16, .ref 2 0 0), (106, .d (.sl t_farkas_row) a1.2), (107, vi (a1.2.length : Int)), (108, vi x28), (113, .d (.sl t_farkas_row) a1.2), (114, vi (a1.2.length : Int)), (115, vi (x36 + (1 : Int)))], [.box [vi (0 : Int), .nils], .row t_farkas_row x42 0, .box [vb x33.1, .d (.sl (.int .i64)) x33.2]]⟩, wk_ghosts hk (l := [.keep [1, 2, 4, 6, 16, 106, 107, 108, 113, 114, 115], .keep [1, 2, 4, 6, 16, 106, 107, 108, 113, 114, 115], .cut 3, .reset 1, .keep [1, 2, 4, 6, 16, 106, 107, 108, 113, 114, 115]]) (by kernel_rfl), x36 + (1 : Int), x42, h, rfl⟩
          · replace h := h.2 (hb)
            refine awp_skip (then_n (spine_e (then_n (spine_e (blk_n (then_n (spine_c ?_)))))))
            obtain ⟨o32, h⟩ := h
            refine awp_rc tab [1, 2, 4, 6, 16, 106, 107, 108, 113, 114, 115] [] [] [] [-9223372036854775808 ≤ x36 + (1 : Int) ∧ x36 + (1 : Int) ≤ 9223372036854775807] ⟨160, [(1, vi a2), (2, .er [vi a1.1, .d (.sl t_farkas_row) a1.2]), (4, .ref 0 0 0), (6, .osl 1 0), (16, .ref 2 0 0), (106, .d (.sl t_farkas_row) a1.2), (107, vi (a1.2.length : Int)), (108, vi x28), (113, .d (.sl t_farkas_row) a1.2), (114, vi (a1.2.length : Int)), (115, vi (x36 + (1 : Int)))], [.box [vi (0 : Int), .nils], .row t_farkas_row x37 0, .box [vb x33.1, .d (.sl (.int .i64)) x33.2], .box [vb x41.1, .d (.sl (.int .i64)) x41.2]]⟩ (by kernel_rfl) (AllP.of (o32) trivial) ?_
            refine then_n (spine_e (then_n (spine_e (then_n (spine_e (then_n (?_)))))))
            obtain ⟨m, hm, h⟩ := h
            exact ⟨m, hm, ⟨160, [(1, vi a2), (2, .er [vi a1.1, .d (.sl t_farkas_row) a1.2]), (4, .ref 0 0 0), (6, .osl 1 0), (16, .ref 2 0 0), (106, .d (.sl t_farkas_row) a1.2), (107, vi (a1.2.length : Int)), (108, vi x28), (113, .d (.sl t_farkas_row) a1.2), (114, vi (a1.2.length : Int)), (115, vi (x36 + (1 : Int)))], [.box [vi (0 : Int), .nils], .row t_farkas_row x37 0, .box [vb x33.1, .d (.sl (.int .i64)) x33.2]]⟩, wk_ghosts hk (l := [.keep [1, 2, 4, 6, 16, 106, 107, 108, 113, 114, 115], .keep [1, 2, 4, 6, 16, 106, 107, 108, 113, 114, 115], .cut 3, .keep [1, 2, 4, 6, 16, 106, 107, 108, 113, 114, 115]]) (by kernel_rfl), x36 + (1 : Int), x37, h, rfl⟩
        · replace h := h.2 (of_decide_eq_false hb)
          refine awp_exit (then_x (then_x (then_x (blk_h (then_n (spine_e (then_n (spine_e (blk_n (then_n (spine_c ?_)))))))))))
          obtain ⟨o33, h⟩ := h
          refine awp_rc tab [1, 2, 4, 6, 106, 107, 108] [] [] [] [-9223372036854775808 ≤ x28 + (1 : Int) ∧ x28 + (1 : Int) ≤ 9223372036854775807] ⟨160, [(1, vi a2), (2, .er [vi a1.1, .d (.sl t_farkas_row) a1.2]), (4, .ref 0 0 0), (6, .osl 1 0), (106, .d (.sl t_farkas_row) a1.2), (107, vi (a1.2.length : Int)), (108, vi (x28 + (1 : Int)))], [.box [vi (0 : Int), .nils], .row t_farkas_row x37 0, .box [vb x33.1, .d (.sl (.int .i64)) x33.2]]⟩ (by kernel_rfl) (AllP.of (o33) trivial) ?_
          refine then_n (spine_e (then_n (spine_e (then_n (spine_e (then_n (?_)))))))
          obtain ⟨m, hm, h⟩ := h
          exact ⟨m, hm, ⟨160, [(1, vi a2), (2, .er [vi a1.1, .d (.sl t_farkas_row) a1.2]), (4, .ref 0 0 0), (6, .osl 1 0), (106, .d (.sl t_farkas_row) a1.2), (107, vi (a1.2.length : Int)), (108, vi (x28 + (1 : Int)))], [.box [vi (0 : Int), .nils], .row t_farkas_row x37 0]⟩, wk_ghosts hk (l := [.keep [1, 2, 4, 6, 106, 107, 108], .keep [1, 2, 4, 6, 106, 107, 108], .cut 2, .keep [1, 2, 4, 6, 106, 107, 108]]) (by kernel_rfl), x28 + (1 : Int), x37, h, rfl⟩
      · replace h := h.2 (of_decide_eq_false hb)
        refine awp_exit (then_x (then_x (then_x (blk_h (then_n (spine_c ?_))))))
        refine awp_spine ?_
        refine awp_gh hk [.freeze 1, .keep [1, 2, 4, 6, 106, 107, 108, 109]] ⟨160, [(1, vi a2), (2, .er [vi a1.1, .d (.sl t_farkas_row) a1.2]), (4, .ref 0 0 0), (6, .d (.sl t_farkas_row) x29), (106, .d (.sl t_farkas_row) a1.2), (107, vi (a1.2.length : Int)), (108, vi x28), (109, vb (decide (x28 < (a1.2.length : Int))))], [.box [vi (0 : Int), .nils], .dead]⟩ (by kernel_rfl) ?_
        obtain ⟨o34, h⟩ := h
        refine awp_rc tab [4, 5] [] [(2, .dat (.tup [.agg [vi (((farkas_table_kept.fn a1 x29).1).1), .d (.sl t_farkas_row) (((farkas_table_kept.fn a1 x29).1).2)], vi ((farkas_table_kept.fn a1 x29).2)]))] [] [OkC prog 80 [.agg [vi a1.1, .d (.sl t_farkas_row) a1.2], .d (.sl t_farkas_row) x29] (.tup [.agg [vi (((farkas_table_kept.fn a1 x29).1).1), .d (.sl t_farkas_row) (((farkas_table_kept.fn a1 x29).1).2)], vi ((farkas_table_kept.fn a1 x29).2)])] ⟨160, [(4, .ref 0 0 0), (5, vi ((farkas_table_kept.fn a1 x29).2))], [.box [vi (((farkas_table_kept.fn a1 x29).1).1), .d (.sl t_farkas_row) (((farkas_table_kept.fn a1 x29).1).2)], .dead]⟩ (by kernel_rfl) (AllP.of (ok_farkas_table_kept a1 x29 (o34)) trivial) ?_
        refine then_n (spine_c ?_)
        refine awp_abs (fun (x43 : farkas_table × Int) => ⟨160, [(4, .ref 0 0 0), (5, vi x43.2)], [.box [vi x43.1.1, .d (.sl t_farkas_row) x43.1.2], .dead]⟩) (farkas_table_kept.fn a1 x29) ?_
        intro x43 hx43
        replace h := h x43 hx43
        refine awp_abs (fun (x44 : Int) => ⟨160, [(4, .ref 0 0 0), (5, vi x44)], [.box [vi x43.1.1, .d (.sl t_farkas_row) x43.1.2], .dead]⟩) (x43.2) ?_
        intro x44 hx44
        replace h := h x44 hx44
        refine awp_abs (fun (x45 : Int) => ⟨160, [(4, .ref 0 0 0), (5, vi x44)], [.box [vi x45, .d (.sl t_farkas_row) x43.1.2], .dead]⟩) (x43.1.1) ?_
        intro x45 hx45
        replace h := h x45 hx45
        refine awp_abs (fun (x46 : (List farkas_row)) => ⟨160, [(4, .ref 0 0 0), (5, vi x44)], [.box [vi x45, .d (.sl t_farkas_row) x46], .dead]⟩) (x43.1.2) ?_
        intro x46 hx46
        replace h := h x46 hx46
        refine awp_ret (then_r (then_r (then_r (then_r (then_r (then_r (?_)))))))
        exact ret_r (m := 0) (r := .tup [.agg [vi ((((x45, x46), x44).1).1), .d (.sl t_farkas_row) ((((x45, x46), x44).1).2)], vi (((x45, x46), x44).2)]) (objs := []) hk [.keep [4, 5]] ⟨160, [(4, .ref 0 0 0), (5, vi x44)], [.box [vi x45, .d (.sl t_farkas_row) x46], .dead]⟩ (by kernel_rfl) (by kernel_rfl) (Nat.le_refl 0) ⟨((x45, x46), x44), rfl, rfl, h⟩
theorem ok_farkas_table_without (a1 : farkas_table) (a2 : Int) (h : farkas_table_without.pre a1 a2) : OkC prog 56 [.agg [vi a1.1, .d (.sl t_farkas_row) a1.2], vi a2] (.tup [.agg [vi (((farkas_table_without.fn a1 a2).1).1), .d (.sl t_farkas_row) (((farkas_table_without.fn a1 a2).1).2)], vi ((farkas_table_without.fn a1 a2).2)]) :=
  OkC.of call_farkas_table_without ((walk_farkas_table_without a1 a2 _ (farkas_table_without.spec a1 a2 h)).mono fun r o ⟨x, hr, ho, hx⟩ => ⟨by rw [hr, hx], ho⟩) rfl rfl (fun _ => rfl)

noncomputable abbrev Bfarkas_eliminated : Code := bodyOf Try.f26
theorem call_farkas_eliminated : CallOk prog 26 := ⟨_, Try.func26, by kernel_rfl, by kernel_rfl⟩
theorem walk_farkas_eliminated (a1 : (List api_Cond)) (a2 : Int) (Q : (List farkas_table) × Int → Prop) (h : farkas_eliminated.wp a1 a2 Q) : VCalls prog 26 [.d (.sl t_api_Cond) a1, vi a2] [] (fun r o => ∃ x, r = .tup [.d (.sl t_farkas_table) x.1, vi x.2] ∧ o = [] ∧ Q x) := by
  refine vcalls_body tab Try.func26 (c := (spine (subC [0] Bfarkas_eliminated) [(spine (subC [1, 0] Bfarkas_eliminated) [(spine (subC [1, 1, 0] Bfarkas_eliminated) [(spine (subC [1, 1, 1, 0, 0] Bfarkas_eliminated) [(.block 0 (.loop (spine (subC [1, 1, 1, 0, 1, 0, 0, 0, 0] Bfarkas_eliminated) [(.cond (.tmp 21) .skip (.exit 0)), (spine (.block 1 (spine (subC [1, 1, 1, 0, 1, 0, 0, 1, 0, 0, 0] Bfarkas_eliminated) [(spine (subC [1, 1, 1, 0, 1, 0, 0, 1, 0, 0, 1, 0] Bfarkas_eliminated) [(spine (subC [1, 1, 1, 0, 1, 0, 0, 1, 0, 0, 1, 1, 0] Bfarkas_eliminated) [(.cond (.tmp 38) (spine (subC [1, 1, 1, 0, 1, 0, 0, 1, 0, 0, 1, 1, 1, 0, 0] Bfarkas_eliminated) [.ret]) .skip)])])])) [(subC [1, 1, 1, 0, 1, 0, 0, 1, 1] Bfarkas_eliminated)])]))), (spine (subC [1, 1, 1, 1, 0] Bfarkas_eliminated) [.ret])])])])])) (by kernel_rfl) (Nat.le_of_ble_eq_true (by kernel_rfl)) fun cx hd hi hk => ?_
  show AWp prog cx _ _ ⟨41, [(0, .d (.sl t_api_Cond) a1), (1, vi a2)], []⟩
  replace hk : cx.E.len = 0 := hk
  unfold farkas_eliminated.wp at h
  refine awp_spine ?_
  refine awp_rc tab [0, 1] [] [] [] [] ⟨41, [(0, .d (.sl t_api_Cond) a1), (1, vi a2)], []⟩ (by kernel_rfl) (trivial) ?_
  refine then_n (spine_c ?_)
  refine awp_spine ?_
  obtain ⟨o1, o2, h⟩ := h
  refine awp_rc tab [0, 1, 6] [] [] [] [-9223372036854775808 ≤ a2 + (1 : Int) ∧ a2 + (1 : Int) ≤ 9223372036854775807, (0 : Int) ≤ (a2 + (1 : Int)) ∧ (a2 + (1 : Int)) ≤ (a2 + (1 : Int)) ∧ (a2 + (1 : Int)) * 32 ≤ 140737488355328 ∧ (a2 + (1 : Int)) ≤ 9223372036854775807] ⟨41, [(0, .d (.sl t_api_Cond) a1), (1, vi a2), (6, .osl 0 0)], [.row t_farkas_table (List.replicate (Int.toNat (a2 + (1 : Int))) d_farkas_table) 0]⟩ (by kernel_rfl) (AllP.of (o1) (AllP.of (o2) trivial)) ?_
  refine then_n (spine_c ?_)
  refine awp_abs (fun (x1 : (List farkas_table)) => ⟨41, [(0, .d (.sl t_api_Cond) a1), (1, vi a2), (6, .osl 0 0)], [.row t_farkas_table x1 0]⟩) (List.replicate (Int.toNat (a2 + (1 : Int))) d_farkas_table) ?_
  intro x1 hx1
  replace h := h x1 hx1
  refine awp_spine ?_
  obtain ⟨o3, o4, o5, h⟩ := h
  refine awp_rc tab [1, 6] [] [(4, .dat (.agg [vi ((farkas_first.fn a1 a2).1), .d (.sl t_farkas_row) ((farkas_first.fn a1 a2).2)]))] [] [OkC prog 55 [.d (.sl t_api_Cond) a1, vi a2] (.agg [vi ((farkas_first.fn a1 a2).1), .d (.sl t_farkas_row) ((farkas_first.fn a1 a2).2)]), (0 : Int) ≤ a2 ∧ a2 < (x1.length : Int), Int.toNat a2 < x1.length] ⟨41, [(1, vi a2), (6, .osl 0 0)], [.row t_farkas_table (x1.set (Int.toNat a2) (farkas_first.fn a1 a2)) 0]⟩ (by kernel_rfl) (AllP.of (ok_farkas_first a1 a2 (o3)) (AllP.of (o4) (AllP.of (o5) trivial))) ?_
  refine then_n (spine_c ?_)
  refine awp_abs (fun (x2 : farkas_table) => ⟨41, [(1, vi a2), (6, .osl 0 0)], [.row t_farkas_table (x1.set (Int.toNat a2) x2) 0]⟩) (farkas_first.fn a1 a2) ?_
  intro x2 hx2
  replace h := h x2 hx2
  refine awp_abs (fun (x3 : (List farkas_table)) => ⟨41, [(1, vi a2), (6, .osl 0 0)], [.row t_farkas_table x3 0]⟩) (x1.set (Int.toNat a2) x2) ?_
  intro x3 hx3
  replace h := h x3 hx3
  refine awp_spine ?_
  obtain ⟨o6, h⟩ := h
  refine awp_rc tab [6, 7] [] [] [] [-9223372036854775808 ≤ a2 - (1 : Int) ∧ a2 - (1 : Int) ≤ 9223372036854775807] ⟨41, [(6, .osl 0 0), (7, vi (a2 - (1 : Int)))], [.row t_farkas_table x3 0]⟩ (by kernel_rfl) (AllP.of (o6) trivial) ?_
  refine then_n (spine_c ?_)
  refine awp_block ?_
  obtain ⟨I10, ⟨n10a, hz10⟩, hI10⟩ := h
  refine awp_loopN (fun n s => ∃ (x6 : Int) (x7 : (List farkas_table)), I10 n x6 x7 ∧ s = ⟨41, [(6, .osl 0 0), (7, vi x6)], [.row t_farkas_table x7 0]⟩) (n := n10a) (s0 := ⟨41, [(6, .osl 0 0), (7, vi (a2 - (1 : Int)))], [.row t_farkas_table x3 0]⟩) (wk_ghosts hk (l := [.keep [6, 7], .keep [6, 7], .keep [6, 7], .keep [6, 7]]) (by kernel_rfl)) ⟨a2 - (1 : Int), x3, hz10, rfl⟩ ?_
  rintro n10 s ⟨x6, x7, hx10, rfl⟩
  have h := hI10 n10 x6 x7 hx10
  refine awp_spine ?_
  refine awp_rc tab [6, 7, 21] [] [] [] [] ⟨41, [(6, .osl 0 0), (7, vi x6), (21, vb (decide (x6 ≥ (0 : Int))))], [.row t_farkas_table x7 0]⟩ (by kernel_rfl) (trivial) ?_
  refine then_n (spine_c ?_)
  refine awp_cond (b := decide (x6 ≥ (0 : Int))) (by kernel_rfl) (fun hb => ?_) (fun hb => ?_)
  · replace h := h.1 (of_decide_eq_true hb)
    refine awp_skip (then_n (spine_c ?_))
    refine awp_spine ?_
    refine awp_block ?_
    refine awp_spine ?_
    refine awp_rc tab [6, 7] [] [] [] [] ⟨41, [(6, .osl 0 0), (7, vi x6)], [.row t_farkas_table x7 0]⟩ (by kernel_rfl) (trivial) ?_
    refine then_n (spine_c ?_)
    refine awp_spine ?_
    obtain ⟨o7, o8, o9, o10, o11, o12, h⟩ := h
    refine awp_rc tab [6, 7, 8] [] [(8, .dat (.tup [.agg [vi (((farkas_table_without.fn (x7.getD (Int.toNat (x6 + (1 : Int))) d_farkas_table) x6).1).1), .d (.sl t_farkas_row) (((farkas_table_without.fn (x7.getD (Int.toNat (x6 + (1 : Int))) d_farkas_table) x6).1).2)], vi ((farkas_table_without.fn (x7.getD (Int.toNat (x6 + (1 : Int))) d_farkas_table) x6).2)]))] [] [-9223372036854775808 ≤ x6 + (1 : Int) ∧ x6 + (1 : Int) ≤ 9223372036854775807, (0 : Int) ≤ (x6 + (1 : Int)) ∧ (x6 + (1 : Int)) < (x7.length : Int), Int.toNat (x6 + (1 : Int)) < x7.length, OkC prog 56 [.agg [vi ((x7.getD (Int.toNat (x6 + (1 : Int))) d_farkas_table).1), .d (.sl t_farkas_row) ((x7.getD (Int.toNat (x6 + (1 : Int))) d_farkas_table).2)], vi x6] (.tup [.agg [vi (((farkas_table_without.fn (x7.getD (Int.toNat (x6 + (1 : Int))) d_farkas_table) x6).1).1), .d (.sl t_farkas_row) (((farkas_table_without.fn (x7.getD (Int.toNat (x6 + (1 : Int))) d_farkas_table) x6).1).2)], vi ((farkas_table_without.fn (x7.getD (Int.toNat (x6 + (1 : Int))) d_farkas_table) x6).2)]), (0 : Int) ≤ x6 ∧ x6 < (x7.length : Int), Int.toNat x6 < x7.length] ⟨41, [(6, .osl 0 0), (7, vi x6), (8, vi ((farkas_table_without.fn (x7.getD (Int.toNat (x6 + (1 : Int))) d_farkas_table) x6).2))], [.row t_farkas_table (x7.set (Int.toNat x6) ((farkas_table_without.fn (x7.getD (Int.toNat (x6 + (1 : Int))) d_farkas_table) x6).1)) 0]⟩ (by kernel_rfl) (AllP.of (o7) (AllP.of (o8) (AllP.of (o9) (AllP.of (ok_farkas_table_without (x7.getD (Int.toNat (x6 + (1 : Int))) d_farkas_table) x6 (o10)) (AllP.of (o11) (AllP.of (o12) trivial)))))) ?_
    refine then_n (spine_c ?_)
    refine awp_abs (fun (x11 : farkas_table × Int) => ⟨41, [(6, .osl 0 0), (7, vi x6), (8, vi x11.2)], [.row t_farkas_table (x7.set (Int.toNat x6) x11.1) 0]⟩) (farkas_table_without.fn (x7.getD (Int.toNat (x6 + (1 : Int))) d_farkas_table) x6) ?_
    intro x11 hx11
    replace h := h x11 hx11
    refine awp_abs (fun (x12 : Int) => ⟨41, [(6, .osl 0 0), (7, vi x6), (8, vi x12)], [.row t_farkas_table (x7.set (Int.toNat x6) x11.1) 0]⟩) (x11.2) ?_
    intro x12 hx12
    replace h := h x12 hx12
    refine awp_abs (fun (x13 : (List farkas_table)) => ⟨41, [(6, .osl 0 0), (7, vi x6), (8, vi x12)], [.row t_farkas_table x13 0]⟩) (x7.set (Int.toNat x6) x11.1) ?_
    intro x13 hx13
    replace h := h x13 hx13
    refine awp_spine ?_
    refine awp_rc tab [6, 7, 8, 38] [] [] [] [] ⟨41, [(6, .osl 0 0), (7, vi x6), (8, vi x12), (38, vb (x12 != (0 : Int)))], [.row t_farkas_table x13 0]⟩ (by kernel_rfl) (trivial) ?_
    refine then_n (spine_c ?_)
    refine awp_cond (b := x12 != (0 : Int)) (by kernel_rfl) (fun hb => ?_) (fun hb => ?_)
    · replace h := h.1 (bne_iff_ne.mp hb)
      refine awp_spine ?_
      refine awp_rc tab [4, 5] [] [] [] [] ⟨41, [(4, .nils), (5, vi x12)], [.row t_farkas_table x13 0]⟩ (by kernel_rfl) (trivial) ?_
      refine then_n (spine_c ?_)
      refine awp_ret (then_r (then_r (then_r (then_r (blk_r (then_r (then_r (then_r (blk_r (then_r (then_r (then_r (then_r (?_))))))))))))))
      exact ret_r (m := 0) (r := .tup [.d (.sl t_farkas_table) ((([] : List farkas_table), x12).1), vi ((([] : List farkas_table), x12).2)]) (objs := []) hk [.keep [4, 5], .nilAt 4 [] t_farkas_table, .keep [4, 5]] ⟨41, [(4, .d (.sl t_farkas_table) ([] : List farkas_table)), (5, vi x12)], [.row t_farkas_table x13 0]⟩ (by kernel_rfl) (by kernel_rfl) (Nat.le_refl 0) ⟨(([] : List farkas_table), x12), rfl, rfl, h⟩
    · replace h := h.2 (bne_f hb)
      refine awp_skip (then_n (spine_e (then_n (spine_e (then_n (spine_e (blk_n (then_n (spine_c ?_)))))))))
      obtain ⟨o13, h⟩ := h
      refine awp_rc tab [6, 7] [] [] [] [-9223372036854775808 ≤ x6 - (1 : Int) ∧ x6 - (1 : Int) ≤ 9223372036854775807] ⟨41, [(6, .osl 0 0), (7, vi (x6 - (1 : Int)))], [.row t_farkas_table x13 0]⟩ (by kernel_rfl) (AllP.of (o13) trivial) ?_
      refine then_n (spine_e (then_n (spine_e (then_n (?_)))))
      obtain ⟨m, hm, h⟩ := h
      exact ⟨m, hm, ⟨41, [(6, .osl 0 0), (7, vi (x6 - (1 : Int)))], [.row t_farkas_table x13 0]⟩, wk_ghosts hk (l := [.keep [6, 7], .keep [6, 7], .keep [6, 7]]) (by kernel_rfl), x6 - (1 : Int), x13, h, rfl⟩
  · replace h := h.2 (of_decide_eq_false hb)
    refine awp_exit (then_x (then_x (blk_h (then_n (spine_c ?_)))))
    refine awp_spine ?_
    refine awp_rc tab [4, 5] [] [] [] [] ⟨41, [(4, .osl 0 0), (5, vi (0 : Int))], [.row t_farkas_table x7 0]⟩ (by kernel_rfl) (trivial) ?_
    refine then_n (spine_c ?_)
    refine awp_ret (then_r (then_r (then_r (then_r (then_r (?_))))))
    exact ret_r (m := 0) (r := .tup [.d (.sl t_farkas_table) ((x7, 0).1), vi ((x7, 0).2)]) (objs := []) hk [.keep [4, 5], .freeze 0] ⟨41, [(4, .d (.sl t_farkas_table) x7), (5, vi (0 : Int))], [.dead]⟩ (by kernel_rfl) (by kernel_rfl) (Nat.le_refl 0) ⟨(x7, 0), rfl, rfl, h⟩
theorem ok_farkas_eliminated (a1 : (List api_Cond)) (a2 : Int) (h : farkas_eliminated.pre a1 a2) : OkC prog 26 [.d (.sl t_api_Cond) a1, vi a2] (.tup [.d (.sl t_farkas_table) ((farkas_eliminated.fn a1 a2).1), vi ((farkas_eliminated.fn a1 a2).2)]) :=
  OkC.of call_farkas_eliminated ((walk_farkas_eliminated a1 a2 _ (farkas_eliminated.spec a1 a2 h)).mono fun r o ⟨x, hr, ho, hx⟩ => ⟨by rw [hr, hx], ho⟩) rfl rfl (fun _ => rfl)

noncomputable abbrev Bfarkas_size : Code := bodyOf Try.f89
theorem call_farkas_size : CallOk prog 89 := ⟨_, Try.func89, by kernel_rfl, by kernel_rfl⟩
theorem walk_farkas_size (a1 : Int) (Q : Int → Prop) (h : farkas_size.wp a1 Q) : VCalls prog 89 [vi a1] [] (fun r o => ∃ x, r = .d (.int .u64) x ∧ o = [] ∧ Q x) := by
  refine vcalls_body tab Try.func89 (c := (spine (subC [0] Bfarkas_size) [(spine (subC [1, 0, 0] Bfarkas_size) [(.cond (.tmp 4) (spine (subC [1, 0, 1, 0, 0] Bfarkas_size) [.ret]) .skip), (spine (subC [1, 1, 0] Bfarkas_size) [.ret])])])) (by kernel_rfl) (Nat.le_of_ble_eq_true (by kernel_rfl)) fun cx hd hi hk => ?_
  show AWp prog cx _ _ ⟨10, [(0, vi a1)], []⟩
  replace hk : cx.E.len = 0 := hk
  unfold farkas_size.wp at h
  refine awp_spine ?_
  refine awp_rc tab [0] [] [] [] [] ⟨10, [(0, vi a1)], []⟩ (by kernel_rfl) (trivial) ?_
  refine then_n (spine_c ?_)
  refine awp_spine ?_
  refine awp_rc tab [0, 4] [] [] [] [] ⟨10, [(0, vi a1), (4, vb (decide (a1 < (0 : Int))))], []⟩ (by kernel_rfl) (trivial) ?_
  refine then_n (spine_c ?_)
  refine awp_cond (b := decide (a1 < (0 : Int))) (by kernel_rfl) (fun hb => ?_) (fun hb => ?_)
  · replace h := h.1 (of_decide_eq_true hb)
    refine awp_spine ?_
    refine awp_rc tab [2] [1, 2] [] [] [] ⟨10, [(2, .d (.int .u64) (IntKind.wrap .u64 (-(IntKind.wrap .u64 a1))))], []⟩ (by kernel_rfl) (trivial) ?_
    refine then_n (spine_c ?_)
    refine awp_abs (fun (x1 : Int) => ⟨10, [(2, .d (.int .u64) x1)], []⟩) (IntKind.wrap .u64 (-(IntKind.wrap .u64 a1))) ?_
    intro x1 hx1
    replace h := h x1 hx1
    refine awp_ret (then_r (then_r (then_r (?_))))
    exact ret_r (m := 0) (r := .d (.int .u64) x1) (objs := []) hk [.keep [2]] ⟨10, [(2, .d (.int .u64) x1)], []⟩ (by kernel_rfl) (by kernel_rfl) (Nat.le_refl 0) ⟨x1, rfl, rfl, h⟩
  · replace h := h.2 (of_decide_eq_false hb)
    refine awp_skip (then_n (spine_c ?_))
    refine awp_spine ?_
    refine awp_rc tab [2] [1] [] [] [] ⟨10, [(2, .d (.int .u64) (IntKind.wrap .u64 a1))], []⟩ (by kernel_rfl) (trivial) ?_
    refine then_n (spine_c ?_)
    refine awp_ret (then_r (then_r (then_r (?_))))
    exact ret_r (m := 0) (r := .d (.int .u64) (IntKind.wrap .u64 a1)) (objs := []) hk [.keep [2]] ⟨10, [(2, .d (.int .u64) (IntKind.wrap .u64 a1))], []⟩ (by kernel_rfl) (by kernel_rfl) (Nat.le_refl 0) ⟨IntKind.wrap .u64 a1, rfl, rfl, h⟩
theorem ok_farkas_size (a1 : Int) (h : farkas_size.pre a1) : OkC prog 89 [vi a1] (.d (.int .u64) (farkas_size.fn a1)) :=
  OkC.of call_farkas_size ((walk_farkas_size a1 _ (farkas_size.spec a1 h)).mono fun r o ⟨x, hr, ho, hx⟩ => ⟨by rw [hr, hx], ho⟩) rfl rfl (fun _ => rfl)

noncomputable abbrev Bmath_bits_Mul64 : Code := bodyOf Try.f88
theorem call_math_bits_Mul64 : CallOk prog 88 := ⟨_, Try.func88, by kernel_rfl, by kernel_rfl⟩
theorem walk_math_bits_Mul64 (a1 : Int) (a2 : Int) (Q : Int × Int → Prop) (h : math_bits_Mul64.wp a1 a2 Q) : VCalls prog 88 [.d (.int .u64) a1, .d (.int .u64) a2] [] (fun r o => ∃ x, r = .tup [.d (.int .u64) x.1, .d (.int .u64) x.2] ∧ o = [] ∧ Q x) := by
  refine vcalls_body tab Try.func88 (c := (spine (subC [0] Bmath_bits_Mul64) [(spine (subC [1, 0] Bmath_bits_Mul64) [(spine (subC [1, 1, 0] Bmath_bits_Mul64) [(spine (subC [1, 1, 1, 0] Bmath_bits_Mul64) [(spine (subC [1, 1, 1, 1, 0] Bmath_bits_Mul64) [(spine (subC [1, 1, 1, 1, 1, 0] Bmath_bits_Mul64) [(spine (subC [1, 1, 1, 1, 1, 1, 0] Bmath_bits_Mul64) [(spine (subC [1, 1, 1, 1, 1, 1, 1, 0] Bmath_bits_Mul64) [(spine (subC [1, 1, 1, 1, 1, 1, 1, 1, 0] Bmath_bits_Mul64) [(spine (subC [1, 1, 1, 1, 1, 1, 1, 1, 1, 0] Bmath_bits_Mul64) [(spine (subC [1, 1, 1, 1, 1, 1, 1, 1, 1, 1, 0] Bmath_bits_Mul64) [(spine (subC [1, 1, 1, 1, 1, 1, 1, 1, 1, 1, 1, 0] Bmath_bits_Mul64) [.ret])])])])])])])])])])])])) (by kernel_rfl) (Nat.le_of_ble_eq_true (by kernel_rfl)) fun cx hd hi hk => ?_
  show AWp prog cx _ _ ⟨51, [(0, .d (.int .u64) a1), (1, .d (.int .u64) a2)], []⟩
  replace hk : cx.E.len = 0 := hk
  unfold math_bits_Mul64.wp at h
  refine awp_spine ?_
  refine awp_rc tab [0, 1] [] [] [] [] ⟨51, [(0, .d (.int .u64) a1), (1, .d (.int .u64) a2)], []⟩ (by kernel_rfl) (trivial) ?_
  refine then_n (spine_c ?_)
  refine awp_spine ?_
  refine awp_rc tab [0, 1, 6] [1] [] [] [] ⟨51, [(0, .d (.int .u64) a1), (1, .d (.int .u64) a2), (6, .d (.int .u64) (IntKind.wrap .u64 ((BitVec.ofInt 64 a1 &&& BitVec.ofInt 64 (4294967295 : Int)).toNat : Int)))], []⟩ (by kernel_rfl) (trivial) ?_
  refine then_n (spine_c ?_)
  refine awp_abs (fun (x1 : Int) => ⟨51, [(0, .d (.int .u64) a1), (1, .d (.int .u64) a2), (6, .d (.int .u64) x1)], []⟩) (IntKind.wrap .u64 ((BitVec.ofInt 64 a1 &&& BitVec.ofInt 64 (4294967295 : Int)).toNat : Int)) ?_
  intro x1 hx1
  replace h := h x1 hx1
  refine awp_spine ?_
  obtain ⟨o1, h⟩ := h
  refine awp_rc tab [0, 1, 6, 7] [1] [] [] [0 ≤ (32 : Int)] ⟨51, [(0, .d (.int .u64) a1), (1, .d (.int .u64) a2), (6, .d (.int .u64) x1), (7, .d (.int .u64) (Int.fdiv a1 (2 ^ (min (Int.toNat (32 : Int)) 64))))], []⟩ (by kernel_rfl) (AllP.of (o1) trivial) ?_
  refine then_n (spine_c ?_)
  refine awp_abs (fun (x2 : Int) => ⟨51, [(0, .d (.int .u64) a1), (1, .d (.int .u64) a2), (6, .d (.int .u64) x1), (7, .d (.int .u64) x2)], []⟩) (Int.fdiv a1 (2 ^ (min (Int.toNat (32 : Int)) 64))) ?_
  intro x2 hx2
  replace h := h x2 hx2
  refine awp_spine ?_
  refine awp_rc tab [0, 1, 6, 7, 8] [1] [] [] [] ⟨51, [(0, .d (.int .u64) a1), (1, .d (.int .u64) a2), (6, .d (.int .u64) x1), (7, .d (.int .u64) x2), (8, .d (.int .u64) (IntKind.wrap .u64 ((BitVec.ofInt 64 a2 &&& BitVec.ofInt 64 (4294967295 : Int)).toNat : Int)))], []⟩ (by kernel_rfl) (trivial) ?_
  refine then_n (spine_c ?_)
  refine awp_abs (fun (x3 : Int) => ⟨51, [(0, .d (.int .u64) a1), (1, .d (.int .u64) a2), (6, .d (.int .u64) x1), (7, .d (.int .u64) x2), (8, .d (.int .u64) x3)], []⟩) (IntKind.wrap .u64 ((BitVec.ofInt 64 a2 &&& BitVec.ofInt 64 (4294967295 : Int)).toNat : Int)) ?_
  intro x3 hx3
  replace h := h x3 hx3
  refine awp_spine ?_
  obtain ⟨o2, h⟩ := h
  refine awp_rc tab [0, 1, 6, 7, 8, 9] [1] [] [] [0 ≤ (32 : Int)] ⟨51, [(0, .d (.int .u64) a1), (1, .d (.int .u64) a2), (6, .d (.int .u64) x1), (7, .d (.int .u64) x2), (8, .d (.int .u64) x3), (9, .d (.int .u64) (Int.fdiv a2 (2 ^ (min (Int.toNat (32 : Int)) 64))))], []⟩ (by kernel_rfl) (AllP.of (o2) trivial) ?_
  refine then_n (spine_c ?_)
  refine awp_abs (fun (x4 : Int) => ⟨51, [(0, .d (.int .u64) a1), (1, .d (.int .u64) a2), (6, .d (.int .u64) x1), (7, .d (.int .u64) x2), (8, .d (.int .u64) x3), (9, .d (.int .u64) x4)], []⟩) (Int.fdiv a2 (2 ^ (min (Int.toNat (32 : Int)) 64))) ?_
  intro x4 hx4
  replace h := h x4 hx4
  refine awp_spine ?_
  refine awp_rc tab [0, 1, 6, 7, 8, 9, 10] [2] [] [] [] ⟨51, [(0, .d (.int .u64) a1), (1, .d (.int .u64) a2), (6, .d (.int .u64) x1), (7, .d (.int .u64) x2), (8, .d (.int .u64) x3), (9, .d (.int .u64) x4), (10, .d (.int .u64) (IntKind.wrap .u64 (x1 * x3)))], []⟩ (by kernel_rfl) (trivial) ?_
  refine then_n (spine_c ?_)
  refine awp_spine ?_
  obtain ⟨o3, h⟩ := h
  refine awp_rc tab [0, 1, 6, 7, 9, 11] [2, 4, 5] [] [] [0 ≤ (32 : Int)] ⟨51, [(0, .d (.int .u64) a1), (1, .d (.int .u64) a2), (6, .d (.int .u64) x1), (7, .d (.int .u64) x2), (9, .d (.int .u64) x4), (11, .d (.int .u64) (IntKind.wrap .u64 ((IntKind.wrap .u64 (x2 * x3)) + (Int.fdiv (IntKind.wrap .u64 (x1 * x3)) (2 ^ (min (Int.toNat (32 : Int)) 64))))))], []⟩ (by kernel_rfl) (AllP.of (o3) trivial) ?_
  refine then_n (spine_c ?_)
  refine awp_abs (fun (x5 : Int) => ⟨51, [(0, .d (.int .u64) a1), (1, .d (.int .u64) a2), (6, .d (.int .u64) x1), (7, .d (.int .u64) x2), (9, .d (.int .u64) x4), (11, .d (.int .u64) x5)], []⟩) (IntKind.wrap .u64 ((IntKind.wrap .u64 (x2 * x3)) + (Int.fdiv (IntKind.wrap .u64 (x1 * x3)) (2 ^ (min (Int.toNat (32 : Int)) 64))))) ?_
  intro x5 hx5
  replace h := h x5 hx5
  refine awp_spine ?_
  refine awp_rc tab [0, 1, 6, 7, 9, 11, 12] [1] [] [] [] ⟨51, [(0, .d (.int .u64) a1), (1, .d (.int .u64) a2), (6, .d (.int .u64) x1), (7, .d (.int .u64) x2), (9, .d (.int .u64) x4), (11, .d (.int .u64) x5), (12, .d (.int .u64) (IntKind.wrap .u64 ((BitVec.ofInt 64 x5 &&& BitVec.ofInt 64 (4294967295 : Int)).toNat : Int)))], []⟩ (by kernel_rfl) (trivial) ?_
  refine then_n (spine_c ?_)
  refine awp_abs (fun (x6 : Int) => ⟨51, [(0, .d (.int .u64) a1), (1, .d (.int .u64) a2), (6, .d (.int .u64) x1), (7, .d (.int .u64) x2), (9, .d (.int .u64) x4), (11, .d (.int .u64) x5), (12, .d (.int .u64) x6)], []⟩) (IntKind.wrap .u64 ((BitVec.ofInt 64 x5 &&& BitVec.ofInt 64 (4294967295 : Int)).toNat : Int)) ?_
  intro x6 hx6
  replace h := h x6 hx6
  refine awp_spine ?_
  obtain ⟨o4, h⟩ := h
  refine awp_rc tab [0, 1, 6, 7, 9, 12, 13] [1] [] [] [0 ≤ (32 : Int)] ⟨51, [(0, .d (.int .u64) a1), (1, .d (.int .u64) a2), (6, .d (.int .u64) x1), (7, .d (.int .u64) x2), (9, .d (.int .u64) x4), (12, .d (.int .u64) x6), (13, .d (.int .u64) (Int.fdiv x5 (2 ^ (min (Int.toNat (32 : Int)) 64))))], []⟩ (by kernel_rfl) (AllP.of (o4) trivial) ?_
  refine then_n (spine_c ?_)
  refine awp_abs (fun (x7 : Int) => ⟨51, [(0, .d (.int .u64) a1), (1, .d (.int .u64) a2), (6, .d (.int .u64) x1), (7, .d (.int .u64) x2), (9, .d (.int .u64) x4), (12, .d (.int .u64) x6), (13, .d (.int .u64) x7)], []⟩) (Int.fdiv x5 (2 ^ (min (Int.toNat (32 : Int)) 64))) ?_
  intro x7 hx7
  replace h := h x7 hx7
  refine awp_spine ?_
  refine awp_rc tab [0, 1, 7, 9, 12, 13] [3, 4] [] [] [] ⟨51, [(0, .d (.int .u64) a1), (1, .d (.int .u64) a2), (7, .d (.int .u64) x2), (9, .d (.int .u64) x4), (12, .d (.int .u64) (IntKind.wrap .u64 (x6 + (IntKind.wrap .u64 (x1 * x4))))), (13, .d (.int .u64) x7)], []⟩ (by kernel_rfl) (trivial) ?_
  refine then_n (spine_c ?_)
  refine awp_abs (fun (x8 : Int) => ⟨51, [(0, .d (.int .u64) a1), (1, .d (.int .u64) a2), (7, .d (.int .u64) x2), (9, .d (.int .u64) x4), (12, .d (.int .u64) x8), (13, .d (.int .u64) x7)], []⟩) (IntKind.wrap .u64 (x6 + (IntKind.wrap .u64 (x1 * x4)))) ?_
  intro x8 hx8
  replace h := h x8 hx8
  refine awp_spine ?_
  obtain ⟨o5, h⟩ := h
  refine awp_rc tab [0, 1, 4] [2, 4, 6, 7] [] [] [0 ≤ (32 : Int)] ⟨51, [(0, .d (.int .u64) a1), (1, .d (.int .u64) a2), (4, .d (.int .u64) (IntKind.wrap .u64 ((IntKind.wrap .u64 ((IntKind.wrap .u64 (x2 * x4)) + x7)) + (Int.fdiv x8 (2 ^ (min (Int.toNat (32 : Int)) 64))))))], []⟩ (by kernel_rfl) (AllP.of (o5) trivial) ?_
  refine then_n (spine_c ?_)
  refine awp_abs (fun (x9 : Int) => ⟨51, [(0, .d (.int .u64) a1), (1, .d (.int .u64) a2), (4, .d (.int .u64) x9)], []⟩) (IntKind.wrap .u64 ((IntKind.wrap .u64 ((IntKind.wrap .u64 (x2 * x4)) + x7)) + (Int.fdiv x8 (2 ^ (min (Int.toNat (32 : Int)) 64))))) ?_
  intro x9 hx9
  replace h := h x9 hx9
  refine awp_spine ?_
  refine awp_rc tab [4, 5] [2] [] [] [] ⟨51, [(4, .d (.int .u64) x9), (5, .d (.int .u64) (IntKind.wrap .u64 (a1 * a2)))], []⟩ (by kernel_rfl) (trivial) ?_
  refine then_n (spine_c ?_)
  refine awp_ret (then_r (then_r (then_r (then_r (then_r (then_r (then_r (then_r (then_r (then_r (then_r (then_r (?_)))))))))))))
  exact ret_r (m := 0) (r := .tup [.d (.int .u64) ((x9, IntKind.wrap .u64 (a1 * a2)).1), .d (.int .u64) ((x9, IntKind.wrap .u64 (a1 * a2)).2)]) (objs := []) hk [.keep [4, 5]] ⟨51, [(4, .d (.int .u64) x9), (5, .d (.int .u64) (IntKind.wrap .u64 (a1 * a2)))], []⟩ (by kernel_rfl) (by kernel_rfl) (Nat.le_refl 0) ⟨(x9, IntKind.wrap .u64 (a1 * a2)), rfl, rfl, h⟩
theorem ok_math_bits_Mul64 (a1 : Int) (a2 : Int) (h : math_bits_Mul64.pre a1 a2) : OkC prog 88 [.d (.int .u64) a1, .d (.int .u64) a2] (.tup [.d (.int .u64) ((math_bits_Mul64.fn a1 a2).1), .d (.int .u64) ((math_bits_Mul64.fn a1 a2).2)]) :=
  OkC.of call_math_bits_Mul64 ((walk_math_bits_Mul64 a1 a2 _ (math_bits_Mul64.spec a1 a2 h)).mono fun r o ⟨x, hr, ho, hx⟩ => ⟨by rw [hr, hx], ho⟩) rfl rfl (fun _ => rfl)

noncomputable abbrev Bfarkas_fraction_less : Code := bodyOf Try.f61
theorem call_farkas_fraction_less : CallOk prog 61 := ⟨_, Try.func61, by kernel_rfl, by kernel_rfl⟩
theorem walk_farkas_fraction_less (a1 : farkas_fraction) (a2 : farkas_fraction) (Q : Bool → Prop) (h : farkas_fraction_less.wp a1 a2 Q) : VCalls prog 61 [.agg [vi a1.1, vi a1.2], .agg [vi a2.1, vi a2.2]] [] (fun r o => ∃ x, r = vb x ∧ o = [] ∧ Q x) := by
  refine vcalls_body tab Try.func61 (c := (spine (subC [0] Bfarkas_fraction_less) [(spine (subC [1, 0, 0] Bfarkas_fraction_less) [(.cond (.tmp 15) (spine (subC [1, 0, 1, 0, 0] Bfarkas_fraction_less) [.ret]) .skip), (spine (subC [1, 1, 0] Bfarkas_fraction_less) [(spine (subC [1, 1, 1, 0] Bfarkas_fraction_less) [(spine (subC [1, 1, 1, 1, 0, 0] Bfarkas_fraction_less) [(.cond (.tmp 41) (subC [1, 1, 1, 1, 0, 1, 0] Bfarkas_fraction_less) .skip), (spine (subC [1, 1, 1, 1, 1, 0] Bfarkas_fraction_less) [.ret])])])])])])) (by kernel_rfl) (Nat.le_of_ble_eq_true (by kernel_rfl)) fun cx hd hi hk => ?_
  show AWp prog cx _ _ ⟨59, [(0, .agg [vi a1.1, vi a1.2]), (1, .agg [vi a2.1, vi a2.2])], []⟩
  replace hk : cx.E.len = 0 := hk
  unfold farkas_fraction_less.wp at h
  refine awp_spine ?_
  refine awp_rc tab [2, 3] [] [] [0, 1] [] ⟨59, [(2, .er [vi a1.1, vi a1.2]), (3, .er [vi a2.1, vi a2.2])], []⟩ (by kernel_rfl) (trivial) ?_
  refine then_n (spine_c ?_)
  refine awp_spine ?_
  refine awp_rc tab [2, 3, 15] [] [] [] [] ⟨59, [(2, .er [vi a1.1, vi a1.2]), (3, .er [vi a2.1, vi a2.2]), (15, vb ((decide (a1.1 < (0 : Int))) != (decide (a2.1 < (0 : Int)))))], []⟩ (by kernel_rfl) (trivial) ?_
  refine then_n (spine_c ?_)
  refine awp_cond (b := (decide (a1.1 < (0 : Int))) != (decide (a2.1 < (0 : Int)))) (by kernel_rfl) (fun hb => ?_) (fun hb => ?_)
  · replace h := h.1 (bne_iff_ne.mp hb)
    refine awp_spine ?_
    refine awp_rc tab [4] [] [] [] [] ⟨59, [(4, vb (decide (a1.1 < (0 : Int))))], []⟩ (by kernel_rfl) (trivial) ?_
    refine then_n (spine_c ?_)
    refine awp_ret (then_r (then_r (then_r (?_))))
    exact ret_r (m := 0) (r := vb (decide (a1.1 < (0 : Int)))) (objs := []) hk [.keep [4]] ⟨59, [(4, vb (decide (a1.1 < (0 : Int))))], []⟩ (by kernel_rfl) (by kernel_rfl) (Nat.le_refl 0) ⟨decide (a1.1 < (0 : Int)), rfl, rfl, h⟩
  · replace h := h.2 (bne_f hb)
    refine awp_skip (then_n (spine_c ?_))
    refine awp_spine ?_
    obtain ⟨o1, o2, h⟩ := h
    refine awp_dr tab mixed [2, 3, 5, 6] [5] [(2, .dat (.d (.int .u64) (farkas_size.fn a1.1))), (6, .dat (.tup [.d (.int .u64) ((math_bits_Mul64.fn (farkas_size.fn a1.1) (IntKind.wrap .u64 a2.2)).1), .d (.int .u64) ((math_bits_Mul64.fn (farkas_size.fn a1.1) (IntKind.wrap .u64 a2.2)).2)]))] [] ⟨[[], [0], [0, 1], [], [3], [3, 4], [0, 1, 2, 3, 4, 5], [0, 1, 2, 3, 4, 5, 6], [0, 1, 2, 3, 4, 5, 6, 7], [0, 1, 2, 3, 4, 5, 6, 7], [0, 1, 2, 3, 4, 5, 6, 7, 8], [0, 1, 2, 3, 4, 5, 6, 7, 8, 9, 10]], [.er [vi a1.1, vi a1.2], vi a1.1, .d (.int .u64) (farkas_size.fn a1.1), .er [vi a2.2], vi a2.2, .d (.int .u64) (IntKind.wrap .u64 a2.2), .tup [.d (.int .u64) ((math_bits_Mul64.fn (farkas_size.fn a1.1) (IntKind.wrap .u64 a2.2)).1), .d (.int .u64) ((math_bits_Mul64.fn (farkas_size.fn a1.1) (IntKind.wrap .u64 a2.2)).2)], .tup [.d (.int .u64) ((math_bits_Mul64.fn (farkas_size.fn a1.1) (IntKind.wrap .u64 a2.2)).1), .d (.int .u64) ((math_bits_Mul64.fn (farkas_size.fn a1.1) (IntKind.wrap .u64 a2.2)).2)], .d (.int .u64) ((math_bits_Mul64.fn (farkas_size.fn a1.1) (IntKind.wrap .u64 a2.2)).1), .d (.int .u64) ((math_bits_Mul64.fn (farkas_size.fn a1.1) (IntKind.wrap .u64 a2.2)).2), .d (.int .u64) ((math_bits_Mul64.fn (farkas_size.fn a1.1) (IntKind.wrap .u64 a2.2)).1), .d (.int .u64) ((math_bits_Mul64.fn (farkas_size.fn a1.1) (IntKind.wrap .u64 a2.2)).2)], [none, none, some (OkC prog 89 [vi a1.1] (.d (.int .u64) (farkas_size.fn a1.1))), none, none, none, some (OkC prog 88 [.d (.int .u64) (farkas_size.fn a1.1), .d (.int .u64) (IntKind.wrap .u64 a2.2)] (.tup [.d (.int .u64) ((math_bits_Mul64.fn (farkas_size.fn a1.1) (IntKind.wrap .u64 a2.2)).1), .d (.int .u64) ((math_bits_Mul64.fn (farkas_size.fn a1.1) (IntKind.wrap .u64 a2.2)).2)])), none, none, none, none, none], [], [([], [])]⟩ ⟨59, [(2, .er [vi a1.1, vi a1.2]), (3, .er [vi a2.1, vi a2.2]), (5, .d (.int .u64) ((math_bits_Mul64.fn (farkas_size.fn a1.1) (IntKind.wrap .u64 a2.2)).1)), (6, .d (.int .u64) ((math_bits_Mul64.fn (farkas_size.fn a1.1) (IntKind.wrap .u64 a2.2)).2))], []⟩ (by kernel_rfl) (AllO.n (AllO.n (AllO.s (ok_farkas_size a1.1 (o1)) (AllO.n (AllO.n (AllO.n (AllO.s (ok_math_bits_Mul64 (farkas_size.fn a1.1) (IntKind.wrap .u64 a2.2) (o2)) (AllO.n (AllO.n (AllO.n (AllO.n (AllO.n (AllO.e))))))))))))) ?_
    refine then_n (spine_c ?_)
    refine awp_abs (fun (x1 : Int) => ⟨59, [(2, .er [vi a1.1, vi a1.2]), (3, .er [vi a2.1, vi a2.2]), (5, .d (.int .u64) ((math_bits_Mul64.fn x1 (IntKind.wrap .u64 a2.2)).1)), (6, .d (.int .u64) ((math_bits_Mul64.fn x1 (IntKind.wrap .u64 a2.2)).2))], []⟩) (farkas_size.fn a1.1) ?_
    intro x1 hx1
    replace h := h x1 hx1
    refine awp_abs (fun (x2 : Int × Int) => ⟨59, [(2, .er [vi a1.1, vi a1.2]), (3, .er [vi a2.1, vi a2.2]), (5, .d (.int .u64) x2.1), (6, .d (.int .u64) x2.2)], []⟩) (math_bits_Mul64.fn x1 (IntKind.wrap .u64 a2.2)) ?_
    intro x2 hx2
    replace h := h x2 hx2
    refine awp_abs (fun (x3 : Int) => ⟨59, [(2, .er [vi a1.1, vi a1.2]), (3, .er [vi a2.1, vi a2.2]), (5, .d (.int .u64) x3), (6, .d (.int .u64) x2.2)], []⟩) (x2.1) ?_
    intro x3 hx3
    replace h := h x3 hx3
    refine awp_abs (fun (x4 : Int) => ⟨59, [(2, .er [vi a1.1, vi a1.2]), (3, .er [vi a2.1, vi a2.2]), (5, .d (.int .u64) x3), (6, .d (.int .u64) x4)], []⟩) (x2.2) ?_
    intro x4 hx4
    replace h := h x4 hx4
    refine awp_spine ?_
    obtain ⟨o3, o4, h⟩ := h
    refine awp_dr tab mixed [2, 5, 6, 7, 8] [5] [(2, .dat (.d (.int .u64) (farkas_size.fn a2.1))), (6, .dat (.tup [.d (.int .u64) ((math_bits_Mul64.fn (farkas_size.fn a2.1) (IntKind.wrap .u64 a1.2)).1), .d (.int .u64) ((math_bits_Mul64.fn (farkas_size.fn a2.1) (IntKind.wrap .u64 a1.2)).2)]))] [] ⟨[[], [0], [0, 1], [], [3], [3, 4], [0, 1, 2, 3, 4, 5], [0, 1, 2, 3, 4, 5, 6], [0, 1, 2, 3, 4, 5, 6, 7], [0, 1, 2, 3, 4, 5, 6, 7], [0, 1, 2, 3, 4, 5, 6, 7, 8], [0, 1, 2, 3, 4, 5, 6, 7, 8, 9, 10]], [.er [vi a2.1, vi a2.2], vi a2.1, .d (.int .u64) (farkas_size.fn a2.1), .er [vi a1.2], vi a1.2, .d (.int .u64) (IntKind.wrap .u64 a1.2), .tup [.d (.int .u64) ((math_bits_Mul64.fn (farkas_size.fn a2.1) (IntKind.wrap .u64 a1.2)).1), .d (.int .u64) ((math_bits_Mul64.fn (farkas_size.fn a2.1) (IntKind.wrap .u64 a1.2)).2)], .tup [.d (.int .u64) ((math_bits_Mul64.fn (farkas_size.fn a2.1) (IntKind.wrap .u64 a1.2)).1), .d (.int .u64) ((math_bits_Mul64.fn (farkas_size.fn a2.1) (IntKind.wrap .u64 a1.2)).2)], .d (.int .u64) ((math_bits_Mul64.fn (farkas_size.fn a2.1) (IntKind.wrap .u64 a1.2)).1), .d (.int .u64) ((math_bits_Mul64.fn (farkas_size.fn a2.1) (IntKind.wrap .u64 a1.2)).2), .d (.int .u64) ((math_bits_Mul64.fn (farkas_size.fn a2.1) (IntKind.wrap .u64 a1.2)).1), .d (.int .u64) ((math_bits_Mul64.fn (farkas_size.fn a2.1) (IntKind.wrap .u64 a1.2)).2)], [none, none, some (OkC prog 89 [vi a2.1] (.d (.int .u64) (farkas_size.fn a2.1))), none, none, none, some (OkC prog 88 [.d (.int .u64) (farkas_size.fn a2.1), .d (.int .u64) (IntKind.wrap .u64 a1.2)] (.tup [.d (.int .u64) ((math_bits_Mul64.fn (farkas_size.fn a2.1) (IntKind.wrap .u64 a1.2)).1), .d (.int .u64) ((math_bits_Mul64.fn (farkas_size.fn a2.1) (IntKind.wrap .u64 a1.2)).2)])), none, none, none, none, none], [], [([], [])]⟩ ⟨59, [(2, .er [vi a1.1, vi a1.2]), (5, .d (.int .u64) x3), (6, .d (.int .u64) x4), (7, .d (.int .u64) ((math_bits_Mul64.fn (farkas_size.fn a2.1) (IntKind.wrap .u64 a1.2)).1)), (8, .d (.int .u64) ((math_bits_Mul64.fn (farkas_size.fn a2.1) (IntKind.wrap .u64 a1.2)).2))], []⟩ (by kernel_rfl) (AllO.n (AllO.n (AllO.s (ok_farkas_size a2.1 (o3)) (AllO.n (AllO.n (AllO.n (AllO.s (ok_math_bits_Mul64 (farkas_size.fn a2.1) (IntKind.wrap .u64 a1.2) (o4)) (AllO.n (AllO.n (AllO.n (AllO.n (AllO.n (AllO.e))))))))))))) ?_
    refine then_n (spine_c ?_)
    refine awp_abs (fun (x5 : Int) => ⟨59, [(2, .er [vi a1.1, vi a1.2]), (5, .d (.int .u64) x3), (6, .d (.int .u64) x4), (7, .d (.int .u64) ((math_bits_Mul64.fn x5 (IntKind.wrap .u64 a1.2)).1)), (8, .d (.int .u64) ((math_bits_Mul64.fn x5 (IntKind.wrap .u64 a1.2)).2))], []⟩) (farkas_size.fn a2.1) ?_
    intro x5 hx5
    replace h := h x5 hx5
    refine awp_abs (fun (x6 : Int × Int) => ⟨59, [(2, .er [vi a1.1, vi a1.2]), (5, .d (.int .u64) x3), (6, .d (.int .u64) x4), (7, .d (.int .u64) x6.1), (8, .d (.int .u64) x6.2)], []⟩) (math_bits_Mul64.fn x5 (IntKind.wrap .u64 a1.2)) ?_
    intro x6 hx6
    replace h := h x6 hx6
    refine awp_abs (fun (x7 : Int) => ⟨59, [(2, .er [vi a1.1, vi a1.2]), (5, .d (.int .u64) x3), (6, .d (.int .u64) x4), (7, .d (.int .u64) x7), (8, .d (.int .u64) x6.2)], []⟩) (x6.1) ?_
    intro x7 hx7
    replace h := h x7 hx7
    refine awp_abs (fun (x8 : Int) => ⟨59, [(2, .er [vi a1.1, vi a1.2]), (5, .d (.int .u64) x3), (6, .d (.int .u64) x4), (7, .d (.int .u64) x7), (8, .d (.int .u64) x8)], []⟩) (x6.2) ?_
    intro x8 hx8
    replace h := h x8 hx8
    refine awp_spine ?_
    refine awp_rc tab [5, 6, 7, 8, 41] [] [] [] [] ⟨59, [(5, .d (.int .u64) x3), (6, .d (.int .u64) x4), (7, .d (.int .u64) x7), (8, .d (.int .u64) x8), (41, vb (decide (a1.1 < (0 : Int))))], []⟩ (by kernel_rfl) (trivial) ?_
    refine then_n (spine_c ?_)
    obtain ⟨R13, hA13, hB13⟩ := h
    refine awp_meet (fun s' => ∃ (x9 : Int) (x10 : Int) (x11 : Int) (x12 : Int), R13 x9 x10 x11 x12 ∧ Wk cx s' ⟨59, [(5, .d (.int .u64) x9), (6, .d (.int .u64) x10), (7, .d (.int .u64) x11), (8, .d (.int .u64) x12)], []⟩) ?_ ?_
    · have h := hA13
      refine awp_cond (b := decide (a1.1 < (0 : Int))) (by kernel_rfl) (fun hb => ?_) (fun hb => ?_)
      · replace h := h.1 (of_decide_eq_true hb)
        refine awp_rc tab [5, 6, 7, 8] [] [] [] [] ⟨59, [(5, .d (.int .u64) x7), (6, .d (.int .u64) x8), (7, .d (.int .u64) x3), (8, .d (.int .u64) x4)], []⟩ (by kernel_rfl) (trivial) ?_
        refine then_n (?_)
        exact ⟨x7, x8, x3, x4, h, wk_ghosts hk (l := [.keep [5, 6, 7, 8], .keep [5, 6, 7, 8], .keep [5, 6, 7, 8]]) (by kernel_rfl)⟩
      · replace h := h.2 (of_decide_eq_false hb)
        refine awp_skip (then_n (?_))
        exact ⟨x3, x4, x7, x8, h, wk_ghosts hk (l := [.keep [5, 6, 7, 8], .keep [5, 6, 7, 8], .keep [5, 6, 7, 8]]) (by kernel_rfl)⟩
    · rintro s' ⟨x9, x10, x11, x12, hx13, hw13⟩
      have h := hB13 x9 x10 x11 x12 hx13
      refine spine_c (awp_wk hw13 ?_)
      refine awp_spine ?_
      refine awp_rc tab [4] [2, 6, 10] [] [] [(!(decide (x9 < x11))) = true → (!(decide (x9 < x11))) = true ∧ ((!(decide (x9 < x11))) = true ∧ True), (!(decide (x9 < x11))) = true → (!(decide (x9 < x11))) = true ∧ True, ((!(decide (x9 < x11))) && (x9 == x11)) = true → ((!(decide (x9 < x11))) && (x9 == x11)) = true ∧ (((!(decide (x9 < x11))) && (x9 == x11)) = true ∧ True), (!(decide (x9 < x11))) = true → (!(decide (x9 < x11))) = true ∧ ((x9 == x11) = true → ((!(decide (x9 < x11))) && (x9 == x11)) = true), (decide (x9 < x11)) = false → (!(decide (x9 < x11))) = true] ⟨59, [(4, vb ((decide (x9 < x11)) || ((x9 == x11) && (decide (x10 < x12)))))], []⟩ (by kernel_rfl) (AllP.of (fun hg => ⟨hg, hg, trivial⟩) (AllP.of (fun hg => ⟨hg, trivial⟩) (AllP.of (fun hg => ⟨hg, hg, trivial⟩) (AllP.of (fun hg => ⟨hg, fun hc => and_t hg hc⟩) (AllP.of (fun hc => not_f hc) trivial))))) ?_
      refine then_n (spine_c ?_)
      refine awp_ret (then_r (then_r (then_r (then_r (then_r (then_r (?_)))))))
      exact ret_r (m := 0) (r := vb ((decide (x9 < x11)) || ((x9 == x11) && (decide (x10 < x12))))) (objs := []) hk [.keep [4]] ⟨59, [(4, vb ((decide (x9 < x11)) || ((x9 == x11) && (decide (x10 < x12)))))], []⟩ (by kernel_rfl) (by kernel_rfl) (Nat.le_refl 0) ⟨(decide (x9 < x11)) || ((x9 == x11) && (decide (x10 < x12))), rfl, rfl, h⟩
theorem ok_farkas_fraction_less (a1 : farkas_fraction) (a2 : farkas_fraction) (h : farkas_fraction_less.pre a1 a2) : OkC prog 61 [.agg [vi a1.1, vi a1.2], .agg [vi a2.1, vi a2.2]] (vb (farkas_fraction_less.fn a1 a2)) :=
  OkC.of call_farkas_fraction_less ((walk_farkas_fraction_less a1 a2 _ (farkas_fraction_less.spec a1 a2 h)).mono fun r o ⟨x, hr, ho, hx⟩ => ⟨by rw [hr, hx], ho⟩) rfl rfl (fun _ => rfl)

noncomputable abbrev Bfarkas_point_bound : Code := bodyOf Try.f60
theorem call_farkas_point_bound : CallOk prog 60 := ⟨_, Try.func60, by kernel_rfl, by kernel_rfl⟩
theorem walk_farkas_point_bound (a1 : farkas_point) (a2 : farkas_row) (a3 : Int) (Q : farkas_fraction → Prop) (h : farkas_point_bound.wp a1 a2 a3 Q) : VCalls prog 60 [.agg [.d (.sl (.int .i64)) a1.1, vi a1.2], .agg [vb a2.1, .d (.sl (.int .i64)) a2.2], vi a3] [] (fun r o => ∃ x, r = .agg [vi x.1, vi x.2] ∧ o = [] ∧ Q x) := by
  refine vcalls_body tab Try.func60 (c := (spine (subC [0] Bfarkas_point_bound) [(spine (subC [1, 0] Bfarkas_point_bound) [(spine (subC [1, 1, 0] Bfarkas_point_bound) [(spine (subC [1, 1, 1, 0, 0] Bfarkas_point_bound) [(.block 0 (.loop (spine (subC [1, 1, 1, 0, 1, 0, 0, 0] Bfarkas_point_bound) [(spine (.cond (.tmp 26) .skip (.exit 0)) [(spine (.block 1 (spine (subC [1, 1, 1, 0, 1, 0, 0, 1, 1, 0, 0, 0] Bfarkas_point_bound) [(subC [1, 1, 1, 0, 1, 0, 0, 1, 1, 0, 0, 1] Bfarkas_point_bound)])) [(subC [1, 1, 1, 0, 1, 0, 0, 1, 1, 1] Bfarkas_point_bound)])])]))), (spine (subC [1, 1, 1, 1, 0, 0] Bfarkas_point_bound) [(.cond (.tmp 45) (spine (subC [1, 1, 1, 1, 0, 1, 0, 0] Bfarkas_point_bound) [.ret]) .skip), (spine (subC [1, 1, 1, 1, 1, 0] Bfarkas_point_bound) [.ret])])])])])])) (by kernel_rfl) (Nat.le_of_ble_eq_true (by kernel_rfl)) fun cx hd hi hk => ?_
  show AWp prog cx _ _ ⟨62, [(0, .agg [.d (.sl (.int .i64)) a1.1, vi a1.2]), (1, .agg [vb a2.1, .d (.sl (.int .i64)) a2.2]), (2, vi a3)], []⟩
  replace hk : cx.E.len = 0 := hk
  unfold farkas_point_bound.wp at h
  refine awp_spine ?_
  refine awp_rc tab [2, 3, 4, 6] [] [] [0, 1] [] ⟨62, [(2, vi a3), (3, .er [.d (.sl (.int .i64)) a1.1, vi a1.2]), (4, .er [vb a2.1, .d (.sl (.int .i64)) a2.2]), (6, .ref 0 0 0)], [.box [vi (0 : Int), vi (0 : Int)]]⟩ (by kernel_rfl) (trivial) ?_
  refine then_n (spine_c ?_)
  refine awp_spine ?_
  refine awp_rc tab [2, 3, 4, 6, 7] [] [] [] [] ⟨62, [(2, vi a3), (3, .er [.d (.sl (.int .i64)) a1.1, vi a1.2]), (4, .er [vb a2.1, .d (.sl (.int .i64)) a2.2]), (6, .ref 0 0 0), (7, vi (a1.1.length : Int))], [.box [vi (0 : Int), vi (0 : Int)]]⟩ (by kernel_rfl) (trivial) ?_
  refine then_n (spine_c ?_)
  refine awp_len 3 [0] (T := (.int .i64)) (l := a1.1) (by kernel_rfl) fun hl => ?_
  replace h := h hl
  refine awp_spine ?_
  obtain ⟨o1, o2, h⟩ := h
  refine awp_dr tab mixed [3, 4, 6, 7, 8] [] [] [] ⟨[[], [0], [], [0, 1, 2], [0, 1, 2, 3], [], [5], [0, 1, 2, 3, 4, 5, 6], [0, 1, 2, 3, 4, 5, 6, 7]], [.er [.d (.sl (.int .i64)) a2.2], .d (.sl (.int .i64)) a2.2, vi a3, .er [vi (gI a2.2 a3)], vi (gI a2.2 a3), .er [vi a1.2], vi a1.2, vi ((gI a2.2 a3) * a1.2), vi ((gI a2.2 a3) * a1.2)], [none, none, none, some ((0 : Int) ≤ a3 ∧ a3 < (a2.2.length : Int)), none, none, none, some (-9223372036854775808 ≤ (gI a2.2 a3) * a1.2 ∧ (gI a2.2 a3) * a1.2 ≤ 9223372036854775807), none], [], [([], [.box [vi (0 : Int), vi (0 : Int)]])]⟩ ⟨62, [(3, .er [.d (.sl (.int .i64)) a1.1, vi a1.2]), (4, .er [vb a2.1, .d (.sl (.int .i64)) a2.2]), (6, .ref 0 0 0), (7, vi (a1.1.length : Int)), (8, vi ((gI a2.2 a3) * a1.2))], [.box [vi (0 : Int), vi (0 : Int)]]⟩ (by kernel_rfl) (AllO.n (AllO.n (AllO.n (AllO.s (o1) (AllO.n (AllO.n (AllO.n (AllO.s (o2) (AllO.n (AllO.e)))))))))) ?_
  refine then_n (spine_c ?_)
  refine awp_spine ?_
  refine awp_rc tab [4, 6, 7, 8, 23, 24, 25] [] [] [] [] ⟨62, [(4, .er [vb a2.1, .d (.sl (.int .i64)) a2.2]), (6, .ref 0 0 0), (7, vi (a1.1.length : Int)), (8, vi ((gI a2.2 a3) * a1.2)), (23, .d (.sl (.int .i64)) a1.1), (24, vi (a1.1.length : Int)), (25, vi (0 : Int))], [.box [vi (0 : Int), vi (0 : Int)]]⟩ (by kernel_rfl) (trivial) ?_
  refine then_n (spine_c ?_)
  refine awp_len 23 [] (T := (.int .i64)) (l := a1.1) (by kernel_rfl) fun hl => ?_
  replace h := h hl
  refine awp_block ?_
  obtain ⟨I7, ⟨n7a, hz7⟩, hI7⟩ := h
  refine awp_loopN (fun n s => ∃ (x3 : Int) (x4 : Int), I7 n x3 x4 ∧ s = ⟨62, [(4, .er [vb a2.1, .d (.sl (.int .i64)) a2.2]), (6, .ref 0 0 0), (7, vi (a1.1.length : Int)), (8, vi x3), (23, .d (.sl (.int .i64)) a1.1), (24, vi (a1.1.length : Int)), (25, vi x4)], [.box [vi (0 : Int), vi (0 : Int)]]⟩) (n := n7a) (s0 := ⟨62, [(4, .er [vb a2.1, .d (.sl (.int .i64)) a2.2]), (6, .ref 0 0 0), (7, vi (a1.1.length : Int)), (8, vi ((gI a2.2 a3) * a1.2)), (23, .d (.sl (.int .i64)) a1.1), (24, vi (a1.1.length : Int)), (25, vi (0 : Int))], [.box [vi (0 : Int), vi (0 : Int)]]⟩) (wk_ghosts hk (l := [.keep [4, 6, 7, 8, 23, 24, 25], .keep [4, 6, 7, 8, 23, 24, 25], .keep [4, 6, 7, 8, 23, 24, 25], .keep [4, 6, 7, 8, 23, 24, 25]]) (by kernel_rfl)) ⟨(gI a2.2 a3) * a1.2, 0, hz7, rfl⟩ ?_
  rintro n7 s ⟨x3, x4, hx7, rfl⟩
  have h := hI7 n7 x3 x4 hx7
  refine awp_spine ?_
  refine awp_rc tab [4, 6, 7, 8, 23, 24, 25, 26] [] [] [] [] ⟨62, [(4, .er [vb a2.1, .d (.sl (.int .i64)) a2.2]), (6, .ref 0 0 0), (7, vi (a1.1.length : Int)), (8, vi x3), (23, .d (.sl (.int .i64)) a1.1), (24, vi (a1.1.length : Int)), (25, vi x4), (26, vb (decide (x4 < (a1.1.length : Int))))], [.box [vi (0 : Int), vi (0 : Int)]]⟩ (by kernel_rfl) (trivial) ?_
  refine then_n (spine_c ?_)
  refine awp_spine ?_
  refine awp_cond (b := decide (x4 < (a1.1.length : Int))) (by kernel_rfl) (fun hb => ?_) (fun hb => ?_)
  · replace h := h.1 (of_decide_eq_true hb)
    refine awp_skip (then_n (spine_c ?_))
    refine awp_spine ?_
    refine awp_block ?_
    refine awp_spine ?_
    obtain ⟨o3, h⟩ := h
    refine awp_rc tab [4, 6, 7, 8, 9, 10, 23, 24, 25] [] [] [] [(0 : Int) ≤ x4 ∧ x4 < (a1.1.length : Int)] ⟨62, [(4, .er [vb a2.1, .d (.sl (.int .i64)) a2.2]), (6, .ref 0 0 0), (7, vi (a1.1.length : Int)), (8, vi x3), (9, vi x4), (10, vi (gI a1.1 x4)), (23, .d (.sl (.int .i64)) a1.1), (24, vi (a1.1.length : Int)), (25, vi x4)], [.box [vi (0 : Int), vi (0 : Int)]]⟩ (by kernel_rfl) (AllP.of (o3) trivial) ?_
    refine then_n (spine_c ?_)
    obtain ⟨o4, o5, o6, h⟩ := h
    refine awp_rc tab [4, 6, 7, 8, 23, 24, 25] [] [] [] [(0 : Int) ≤ x4 ∧ x4 < (a2.2.length : Int), -9223372036854775808 ≤ (gI a2.2 x4) * (gI a1.1 x4) ∧ (gI a2.2 x4) * (gI a1.1 x4) ≤ 9223372036854775807, -9223372036854775808 ≤ x3 + ((gI a2.2 x4) * (gI a1.1 x4)) ∧ x3 + ((gI a2.2 x4) * (gI a1.1 x4)) ≤ 9223372036854775807] ⟨62, [(4, .er [vb a2.1, .d (.sl (.int .i64)) a2.2]), (6, .ref 0 0 0), (7, vi (a1.1.length : Int)), (8, vi (x3 + ((gI a2.2 x4) * (gI a1.1 x4)))), (23, .d (.sl (.int .i64)) a1.1), (24, vi (a1.1.length : Int)), (25, vi x4)], [.box [vi (0 : Int), vi (0 : Int)]]⟩ (by kernel_rfl) (AllP.of (o4) (AllP.of (o5) (AllP.of (o6) trivial))) ?_
    refine then_n (spine_e (blk_n (then_n (spine_c ?_))))
    refine awp_abs (fun (x8 : Int) => ⟨62, [(4, .er [vb a2.1, .d (.sl (.int .i64)) a2.2]), (6, .ref 0 0 0), (7, vi (a1.1.length : Int)), (8, vi x8), (23, .d (.sl (.int .i64)) a1.1), (24, vi (a1.1.length : Int)), (25, vi x4)], [.box [vi (0 : Int), vi (0 : Int)]]⟩) (x3 + ((gI a2.2 x4) * (gI a1.1 x4))) ?_
    intro x8 hx8
    replace h := h x8 hx8
    obtain ⟨o7, h⟩ := h
    refine awp_rc tab [4, 6, 7, 8, 23, 24, 25] [] [] [] [-9223372036854775808 ≤ x4 + (1 : Int) ∧ x4 + (1 : Int) ≤ 9223372036854775807] ⟨62, [(4, .er [vb a2.1, .d (.sl (.int .i64)) a2.2]), (6, .ref 0 0 0), (7, vi (a1.1.length : Int)), (8, vi x8), (23, .d (.sl (.int .i64)) a1.1), (24, vi (a1.1.length : Int)), (25, vi (x4 + (1 : Int)))], [.box [vi (0 : Int), vi (0 : Int)]]⟩ (by kernel_rfl) (AllP.of (o7) trivial) ?_
    refine then_n (spine_e (then_n (spine_e (then_n (spine_e (then_n (?_)))))))
    obtain ⟨m, hm, h⟩ := h
    exact ⟨m, hm, ⟨62, [(4, .er [vb a2.1, .d (.sl (.int .i64)) a2.2]), (6, .ref 0 0 0), (7, vi (a1.1.length : Int)), (8, vi x8), (23, .d (.sl (.int .i64)) a1.1), (24, vi (a1.1.length : Int)), (25, vi (x4 + (1 : Int)))], [.box [vi (0 : Int), vi (0 : Int)]]⟩, wk_ghosts hk (l := [.keep [4, 6, 7, 8, 23, 24, 25], .keep [4, 6, 7, 8, 23, 24, 25], .keep [4, 6, 7, 8, 23, 24, 25]]) (by kernel_rfl), x8, x4 + (1 : Int), h, rfl⟩
  · replace h := h.2 (of_decide_eq_false hb)
    refine awp_exit (then_x (then_x (then_x (blk_h (then_n (spine_c ?_))))))
    refine awp_spine ?_
    obtain ⟨o8, h⟩ := h
    refine awp_rc tab [4, 6, 7, 8, 45] [] [] [] [(0 : Int) ≤ (a1.1.length : Int) ∧ (a1.1.length : Int) < (a2.2.length : Int)] ⟨62, [(4, .er [vb a2.1, .d (.sl (.int .i64)) a2.2]), (6, .ref 0 0 0), (7, vi (a1.1.length : Int)), (8, vi x3), (45, vb (decide ((gI a2.2 (a1.1.length : Int)) < (0 : Int))))], [.box [vi (0 : Int), vi (0 : Int)]]⟩ (by kernel_rfl) (AllP.of (o8) trivial) ?_
    refine then_n (spine_c ?_)
    refine awp_cond (b := decide ((gI a2.2 (a1.1.length : Int)) < (0 : Int))) (by kernel_rfl) (fun hb => ?_) (fun hb => ?_)
    · replace h := h.1 (of_decide_eq_true hb)
      refine awp_spine ?_
      obtain ⟨o9, o10, h⟩ := h
      refine awp_rc tab [6] [] [] [] [(0 : Int) ≤ (a1.1.length : Int) ∧ (a1.1.length : Int) < (a2.2.length : Int), -9223372036854775808 ≤ -(gI a2.2 (a1.1.length : Int)) ∧ -(gI a2.2 (a1.1.length : Int)) ≤ 9223372036854775807] ⟨62, [(6, .ref 0 0 0)], [.box [vi x3, vi (-(gI a2.2 (a1.1.length : Int)))]]⟩ (by kernel_rfl) (AllP.of (o9) (AllP.of (o10) trivial)) ?_
      refine then_n (spine_c ?_)
      refine awp_ret (then_r (then_r (then_r (then_r (then_r (then_r (?_)))))))
      exact ret_r (m := 0) (r := .agg [vi ((x3, -(gI a2.2 (a1.1.length : Int))).1), vi ((x3, -(gI a2.2 (a1.1.length : Int))).2)]) (objs := []) hk [.keep [6]] ⟨62, [(6, .ref 0 0 0)], [.box [vi x3, vi (-(gI a2.2 (a1.1.length : Int)))]]⟩ (by kernel_rfl) (by kernel_rfl) (Nat.le_refl 0) ⟨(x3, -(gI a2.2 (a1.1.length : Int))), rfl, rfl, h⟩
    · replace h := h.2 (of_decide_eq_false hb)
      refine awp_skip (then_n (spine_c ?_))
      refine awp_spine ?_
      obtain ⟨o11, o12, h⟩ := h
      refine awp_rc tab [6] [] [] [] [-9223372036854775808 ≤ -x3 ∧ -x3 ≤ 9223372036854775807, (0 : Int) ≤ (a1.1.length : Int) ∧ (a1.1.length : Int) < (a2.2.length : Int)] ⟨62, [(6, .ref 0 0 0)], [.box [vi (-x3), vi (gI a2.2 (a1.1.length : Int))]]⟩ (by kernel_rfl) (AllP.of (o11) (AllP.of (o12) trivial)) ?_
      refine then_n (spine_c ?_)
      refine awp_ret (then_r (then_r (then_r (then_r (then_r (then_r (?_)))))))
      exact ret_r (m := 0) (r := .agg [vi ((-x3, gI a2.2 (a1.1.length : Int)).1), vi ((-x3, gI a2.2 (a1.1.length : Int)).2)]) (objs := []) hk [.keep [6]] ⟨62, [(6, .ref 0 0 0)], [.box [vi (-x3), vi (gI a2.2 (a1.1.length : Int))]]⟩ (by kernel_rfl) (by kernel_rfl) (Nat.le_refl 0) ⟨(-x3, gI a2.2 (a1.1.length : Int)), rfl, rfl, h⟩
theorem ok_farkas_point_bound (a1 : farkas_point) (a2 : farkas_row) (a3 : Int) (h : farkas_point_bound.pre a1 a2 a3) : OkC prog 60 [.agg [.d (.sl (.int .i64)) a1.1, vi a1.2], .agg [vb a2.1, .d (.sl (.int .i64)) a2.2], vi a3] (.agg [vi ((farkas_point_bound.fn a1 a2 a3).1), vi ((farkas_point_bound.fn a1 a2 a3).2)]) :=
  OkC.of call_farkas_point_bound ((walk_farkas_point_bound a1 a2 a3 _ (farkas_point_bound.spec a1 a2 a3 h)).mono fun r o ⟨x, hr, ho, hx⟩ => ⟨by rw [hr, hx], ho⟩) rfl rfl (fun _ => rfl)

noncomputable abbrev Bfarkas_point_value : Code := bodyOf Try.f33
theorem call_farkas_point_value : CallOk prog 33 := ⟨_, Try.func33, by kernel_rfl, by kernel_rfl⟩
theorem walk_farkas_point_value (a1 : farkas_point) (a2 : farkas_table) (Q : farkas_fraction → Prop) (h : farkas_point_value.wp a1 a2 Q) : VCalls prog 33 [.agg [.d (.sl (.int .i64)) a1.1, vi a1.2], .agg [vi a2.1, .d (.sl t_farkas_row) a2.2]] [] (fun r o => ∃ x, r = .agg [vi x.1, vi x.2] ∧ o = [] ∧ Q x) := by
  refine vcalls_body tab Try.func33 (c := (spine (subC [0] Bfarkas_point_value) [(spine (subC [1, 0] Bfarkas_point_value) [(spine (subC [1, 1, 0] Bfarkas_point_value) [(spine (subC [1, 1, 1, 0, 0] Bfarkas_point_value) [(.block 0 (.loop (spine (subC [1, 1, 1, 0, 1, 0, 0, 0] Bfarkas_point_value) [(spine (.cond (.tmp 18) .skip (.exit 0)) [(spine (.block 1 (spine (subC [1, 1, 1, 0, 1, 0, 0, 1, 1, 0, 0, 0] Bfarkas_point_value) [(spine (subC [1, 1, 1, 0, 1, 0, 0, 1, 1, 0, 0, 1, 0, 0] Bfarkas_point_value) [(.cond (.tmp 26) (.exit 1) .skip), (spine (subC [1, 1, 1, 0, 1, 0, 0, 1, 1, 0, 0, 1, 1, 0] Bfarkas_point_value) [(.block 2 (spine (subC [1, 1, 1, 0, 1, 0, 0, 1, 1, 0, 0, 1, 1, 1, 0, 0] Bfarkas_point_value) [(.cond (.tmp 32) (spine (subC [1, 1, 1, 0, 1, 0, 0, 1, 1, 0, 0, 1, 1, 1, 0, 1, 0, 0] Bfarkas_point_value) [.ret]) (spine (subC [1, 1, 1, 0, 1, 0, 0, 1, 1, 0, 0, 1, 1, 1, 0, 1, 1, 0] Bfarkas_point_value) [(.cond (.tmp 36) (spine (subC [1, 1, 1, 0, 1, 0, 0, 1, 1, 0, 0, 1, 1, 1, 0, 1, 1, 1, 0, 0] Bfarkas_point_value) [(.cond (.tmp 51) (subC [1, 1, 1, 0, 1, 0, 0, 1, 1, 0, 0, 1, 1, 1, 0, 1, 1, 1, 0, 1, 0] Bfarkas_point_value) .skip)]) (spine (subC [1, 1, 1, 0, 1, 0, 0, 1, 1, 0, 0, 1, 1, 1, 0, 1, 1, 1, 1, 0] Bfarkas_point_value) [(.cond (.tmp 52) (subC [1, 1, 1, 0, 1, 0, 0, 1, 1, 0, 0, 1, 1, 1, 0, 1, 1, 1, 1, 1, 0] Bfarkas_point_value) .skip)]))]))]))])])])) [(subC [1, 1, 1, 0, 1, 0, 0, 1, 1, 1] Bfarkas_point_value)])])]))), (spine (subC [1, 1, 1, 1, 0, 0] Bfarkas_point_value) [(.cond (.tmp 64) (spine (subC [1, 1, 1, 1, 0, 1, 0, 0] Bfarkas_point_value) [.ret]) .skip), (spine (subC [1, 1, 1, 1, 1, 0, 0] Bfarkas_point_value) [(.cond (.tmp 69) (spine (subC [1, 1, 1, 1, 1, 0, 1, 0, 0] Bfarkas_point_value) [.ret]) .skip), (spine (subC [1, 1, 1, 1, 1, 1, 0] Bfarkas_point_value) [.ret])])])])])])])) (by kernel_rfl) (Nat.le_of_ble_eq_true (by kernel_rfl)) fun cx hd hi hk => ?_
  show AWp prog cx _ _ ⟨74, [(0, .agg [.d (.sl (.int .i64)) a1.1, vi a1.2]), (1, .agg [vi a2.1, .d (.sl t_farkas_row) a2.2])], []⟩
  replace hk : cx.E.len = 0 := hk
  unfold farkas_point_value.wp at h
  refine awp_spine ?_
  refine awp_rc tab [2, 3, 4] [] [] [0, 1] [] ⟨74, [(2, .er [.d (.sl (.int .i64)) a1.1, vi a1.2]), (3, .er [vi a2.1, .d (.sl t_farkas_row) a2.2]), (4, .ref 0 0 0)], [.box [vi (0 : Int), vi (0 : Int)]]⟩ (by kernel_rfl) (trivial) ?_
  refine then_n (spine_c ?_)
  refine awp_spine ?_
  refine awp_rc tab [2, 3, 4, 5] [] [] [] [] ⟨74, [(2, .er [.d (.sl (.int .i64)) a1.1, vi a1.2]), (3, .er [vi a2.1, .d (.sl t_farkas_row) a2.2]), (4, .ref 0 0 0), (5, vi (a1.1.length : Int))], [.box [vi (0 : Int), vi (0 : Int)]]⟩ (by kernel_rfl) (trivial) ?_
  refine then_n (spine_c ?_)
  refine awp_len 2 [0] (T := (.int .i64)) (l := a1.1) (by kernel_rfl) fun hl => ?_
  replace h := h hl
  refine awp_spine ?_
  refine awp_rc tab [2, 3, 4, 5, 6, 7] [] [] [] [] ⟨74, [(2, .er [.d (.sl (.int .i64)) a1.1, vi a1.2]), (3, .er [vi a2.1, .d (.sl t_farkas_row) a2.2]), (4, .ref 0 0 0), (5, vi (a1.1.length : Int)), (6, .nilp), (7, .nilp)], [.box [vi (0 : Int), vi (0 : Int)]]⟩ (by kernel_rfl) (trivial) ?_
  refine then_n (spine_c ?_)
  refine awp_spine ?_
  refine awp_rc tab [2, 3, 4, 5, 6, 7, 15, 16, 17] [] [] [] [] ⟨74, [(2, .er [.d (.sl (.int .i64)) a1.1, vi a1.2]), (3, .er [vi a2.1, .d (.sl t_farkas_row) a2.2]), (4, .ref 0 0 0), (5, vi (a1.1.length : Int)), (6, .nilp), (7, .nilp), (15, .d (.sl t_farkas_row) a2.2), (16, vi (a2.2.length : Int)), (17, vi (0 : Int))], [.box [vi (0 : Int), vi (0 : Int)]]⟩ (by kernel_rfl) (trivial) ?_
  refine then_n (spine_c ?_)
  refine awp_len 3 [1] (T := t_farkas_row) (l := a2.2) (by kernel_rfl) fun hl => ?_
  replace h := h hl
  refine awp_block ?_
  obtain ⟨I15, ⟨n15a, hz15⟩, hI15⟩ := h
  refine awp_loopN (fun n s => ∃ (x1 : Bool) (x2 : Int) (x3 : Int) (x4 : Bool) (x5 : Int) (x6 : Int) (x7 : Int), I15 n x1 x2 x3 x4 x5 x6 x7 ∧ s = ⟨74, [(2, .er [.d (.sl (.int .i64)) a1.1, vi a1.2]), (3, .er [vi a2.1, .d (.sl t_farkas_row) a2.2]), (4, .ref 0 0 0), (5, vi (a1.1.length : Int)), (6, .opt x1 (.er [vi x2, vi x3])), (7, .opt x4 (.er [vi x5, vi x6])), (15, .d (.sl t_farkas_row) a2.2), (16, vi (a2.2.length : Int)), (17, vi x7)], [.box [vi (0 : Int), vi (0 : Int)]]⟩) (n := n15a) (s0 := ⟨74, [(2, .er [.d (.sl (.int .i64)) a1.1, vi a1.2]), (3, .er [vi a2.1, .d (.sl t_farkas_row) a2.2]), (4, .ref 0 0 0), (5, vi (a1.1.length : Int)), (6, .opt false (.er [vi (0 : Int), vi (0 : Int)])), (7, .opt false (.er [vi (0 : Int), vi (0 : Int)])), (15, .d (.sl t_farkas_row) a2.2), (16, vi (a2.2.length : Int)), (17, vi (0 : Int))], [.box [vi (0 : Int), vi (0 : Int)]]⟩) (wk_ghosts hk (l := [.keep [2, 3, 4, 5, 6, 7, 15, 16, 17], .keep [2, 3, 4, 5, 6, 7, 15, 16, 17], .optN 6 (.er [vi (0 : Int), vi (0 : Int)]), .optN 7 (.er [vi (0 : Int), vi (0 : Int)]), .keep [2, 3, 4, 5, 6, 7, 15, 16, 17], .keep [2, 3, 4, 5, 6, 7, 15, 16, 17]]) (by kernel_rfl)) ⟨false, (0 : Int), (0 : Int), false, (0 : Int), (0 : Int), 0, hz15, rfl⟩ ?_
  rintro n15 s ⟨x1, x2, x3, x4, x5, x6, x7, hx15, rfl⟩
  have h := hI15 n15 x1 x2 x3 x4 x5 x6 x7 hx15
  refine awp_spine ?_
  refine awp_rc tab [2, 3, 4, 5, 6, 7, 15, 16, 17, 18] [] [] [] [] ⟨74, [(2, .er [.d (.sl (.int .i64)) a1.1, vi a1.2]), (3, .er [vi a2.1, .d (.sl t_farkas_row) a2.2]), (4, .ref 0 0 0), (5, vi (a1.1.length : Int)), (6, .opt x1 (.er [vi x2, vi x3])), (7, .opt x4 (.er [vi x5, vi x6])), (15, .d (.sl t_farkas_row) a2.2), (16, vi (a2.2.length : Int)), (17, vi x7), (18, vb (decide (x7 < (a2.2.length : Int))))], [.box [vi (0 : Int), vi (0 : Int)]]⟩ (by kernel_rfl) (trivial) ?_
  refine then_n (spine_c ?_)
  refine awp_spine ?_
  refine awp_cond (b := decide (x7 < (a2.2.length : Int))) (by kernel_rfl) (fun hb => ?_) (fun hb => ?_)
  · replace h := h.1 (of_decide_eq_true hb)
    refine awp_skip (then_n (spine_c ?_))
    refine awp_spine ?_
    refine awp_block ?_
    refine awp_spine ?_
    obtain ⟨o1, h⟩ := h
    refine awp_rc tab [2, 3, 4, 5, 6, 7, 9, 15, 16, 17] [] [] [] [(0 : Int) ≤ x7 ∧ x7 < (a2.2.length : Int)] ⟨74, [(2, .er [.d (.sl (.int .i64)) a1.1, vi a1.2]), (3, .er [vi a2.1, .d (.sl t_farkas_row) a2.2]), (4, .ref 0 0 0), (5, vi (a1.1.length : Int)), (6, .opt x1 (.er [vi x2, vi x3])), (7, .opt x4 (.er [vi x5, vi x6])), (9, .ref 1 0 0), (15, .d (.sl t_farkas_row) a2.2), (16, vi (a2.2.length : Int)), (17, vi x7)], [.box [vi (0 : Int), vi (0 : Int)], .box [vb ((a2.2.getD (Int.toNat x7) d_farkas_row).1), .d (.sl (.int .i64)) ((a2.2.getD (Int.toNat x7) d_farkas_row).2)]]⟩ (by kernel_rfl) (AllP.of (o1) trivial) ?_
    refine then_n (spine_c ?_)
    refine awp_abs (fun (x16 : farkas_row) => ⟨74, [(2, .er [.d (.sl (.int .i64)) a1.1, vi a1.2]), (3, .er [vi a2.1, .d (.sl t_farkas_row) a2.2]), (4, .ref 0 0 0), (5, vi (a1.1.length : Int)), (6, .opt x1 (.er [vi x2, vi x3])), (7, .opt x4 (.er [vi x5, vi x6])), (9, .ref 1 0 0), (15, .d (.sl t_farkas_row) a2.2), (16, vi (a2.2.length : Int)), (17, vi x7)], [.box [vi (0 : Int), vi (0 : Int)], .box [vb x16.1, .d (.sl (.int .i64)) x16.2]]⟩) (a2.2.getD (Int.toNat x7) d_farkas_row) ?_
    intro x16 hx16
    replace h := h x16 hx16
    refine awp_spine ?_
    obtain ⟨o2, h⟩ := h
    refine awp_rc tab [2, 3, 4, 5, 6, 7, 9, 15, 16, 17, 26] [] [] [] [(0 : Int) ≤ (a1.1.length : Int) ∧ (a1.1.length : Int) < (x16.2.length : Int)] ⟨74, [(2, .er [.d (.sl (.int .i64)) a1.1, vi a1.2]), (3, .er [vi a2.1, .d (.sl t_farkas_row) a2.2]), (4, .ref 0 0 0), (5, vi (a1.1.length : Int)), (6, .opt x1 (.er [vi x2, vi x3])), (7, .opt x4 (.er [vi x5, vi x6])), (9, .ref 1 0 0), (15, .d (.sl t_farkas_row) a2.2), (16, vi (a2.2.length : Int)), (17, vi x7), (26, vb ((gI x16.2 (a1.1.length : Int)) == (0 : Int)))], [.box [vi (0 : Int), vi (0 : Int)], .box [vb x16.1, .d (.sl (.int .i64)) x16.2]]⟩ (by kernel_rfl) (AllP.of (o2) trivial) ?_
    refine then_n (spine_c ?_)
    refine awp_cond (b := (gI x16.2 (a1.1.length : Int)) == (0 : Int)) (by kernel_rfl) (fun hb => ?_) (fun hb => ?_)
    · replace h := h.1 (eq_of_beq hb)
      refine awp_exit (then_x (then_x (blk_h (then_n (spine_c ?_)))))
      obtain ⟨o3, h⟩ := h
      refine awp_rc tab [2, 3, 4, 5, 6, 7, 15, 16, 17] [] [] [] [-9223372036854775808 ≤ x7 + (1 : Int) ∧ x7 + (1 : Int) ≤ 9223372036854775807] ⟨74, [(2, .er [.d (.sl (.int .i64)) a1.1, vi a1.2]), (3, .er [vi a2.1, .d (.sl t_farkas_row) a2.2]), (4, .ref 0 0 0), (5, vi (a1.1.length : Int)), (6, .opt x1 (.er [vi x2, vi x3])), (7, .opt x4 (.er [vi x5, vi x6])), (15, .d (.sl t_farkas_row) a2.2), (16, vi (a2.2.length : Int)), (17, vi (x7 + (1 : Int)))], [.box [vi (0 : Int), vi (0 : Int)], .box [vb x16.1, .d (.sl (.int .i64)) x16.2]]⟩ (by kernel_rfl) (AllP.of (o3) trivial) ?_
      refine then_n (spine_e (then_n (spine_e (then_n (spine_e (then_n (?_)))))))
      obtain ⟨m, hm, h⟩ := h
      exact ⟨m, hm, ⟨74, [(2, .er [.d (.sl (.int .i64)) a1.1, vi a1.2]), (3, .er [vi a2.1, .d (.sl t_farkas_row) a2.2]), (4, .ref 0 0 0), (5, vi (a1.1.length : Int)), (6, .opt x1 (.er [vi x2, vi x3])), (7, .opt x4 (.er [vi x5, vi x6])), (15, .d (.sl t_farkas_row) a2.2), (16, vi (a2.2.length : Int)), (17, vi (x7 + (1 : Int)))], [.box [vi (0 : Int), vi (0 : Int)]]⟩, wk_ghosts hk (l := [.keep [2, 3, 4, 5, 6, 7, 15, 16, 17], .keep [2, 3, 4, 5, 6, 7, 15, 16, 17], .cut 1, .keep [2, 3, 4, 5, 6, 7, 15, 16, 17]]) (by kernel_rfl), x1, x2, x3, x4, x5, x6, x7 + (1 : Int), h, rfl⟩
    · replace h := h.2 (ne_of_beq_false hb)
      refine awp_skip (then_n (spine_c ?_))
      refine awp_spine ?_
      obtain ⟨o4, h⟩ := h
      refine awp_rc tab [2, 3, 4, 5, 6, 7, 9, 10, 15, 16, 17] [] [(4, .dat (.agg [vi ((farkas_point_bound.fn a1 x16 a2.1).1), vi ((farkas_point_bound.fn a1 x16 a2.1).2)]))] [] [OkC prog 60 [.agg [.d (.sl (.int .i64)) a1.1, vi a1.2], .agg [vb x16.1, .d (.sl (.int .i64)) x16.2], vi a2.1] (.agg [vi ((farkas_point_bound.fn a1 x16 a2.1).1), vi ((farkas_point_bound.fn a1 x16 a2.1).2)])] ⟨74, [(2, .er [.d (.sl (.int .i64)) a1.1, vi a1.2]), (3, .er [vi a2.1, .d (.sl t_farkas_row) a2.2]), (4, .ref 0 0 0), (5, vi (a1.1.length : Int)), (6, .opt x1 (.er [vi x2, vi x3])), (7, .opt x4 (.er [vi x5, vi x6])), (9, .ref 1 0 0), (10, .ref 2 0 0), (15, .d (.sl t_farkas_row) a2.2), (16, vi (a2.2.length : Int)), (17, vi x7)], [.box [vi (0 : Int), vi (0 : Int)], .box [vb x16.1, .d (.sl (.int .i64)) x16.2], .box [vi ((farkas_point_bound.fn a1 x16 a2.1).1), vi ((farkas_point_bound.fn a1 x16 a2.1).2)]]⟩ (by kernel_rfl) (AllP.of (ok_farkas_point_bound a1 x16 a2.1 (o4)) trivial) ?_
      refine then_n (spine_c ?_)
      refine awp_abs (fun (x17 : farkas_fraction) => ⟨74, [(2, .er [.d (.sl (.int .i64)) a1.1, vi a1.2]), (3, .er [vi a2.1, .d (.sl t_farkas_row) a2.2]), (4, .ref 0 0 0), (5, vi (a1.1.length : Int)), (6, .opt x1 (.er [vi x2, vi x3])), (7, .opt x4 (.er [vi x5, vi x6])), (9, .ref 1 0 0), (10, .ref 2 0 0), (15, .d (.sl t_farkas_row) a2.2), (16, vi (a2.2.length : Int)), (17, vi x7)], [.box [vi (0 : Int), vi (0 : Int)], .box [vb x16.1, .d (.sl (.int .i64)) x16.2], .box [vi x17.1, vi x17.2]]⟩) (farkas_point_bound.fn a1 x16 a2.1) ?_
      intro x17 hx17
      replace h := h x17 hx17
      refine awp_abs (fun (x18 : Int) => ⟨74, [(2, .er [.d (.sl (.int .i64)) a1.1, vi a1.2]), (3, .er [vi a2.1, .d (.sl t_farkas_row) a2.2]), (4, .ref 0 0 0), (5, vi (a1.1.length : Int)), (6, .opt x1 (.er [vi x2, vi x3])), (7, .opt x4 (.er [vi x5, vi x6])), (9, .ref 1 0 0), (10, .ref 2 0 0), (15, .d (.sl t_farkas_row) a2.2), (16, vi (a2.2.length : Int)), (17, vi x7)], [.box [vi (0 : Int), vi (0 : Int)], .box [vb x16.1, .d (.sl (.int .i64)) x16.2], .box [vi x18, vi x17.2]]⟩) (x17.1) ?_
      intro x18 hx18
      replace h := h x18 hx18
      refine awp_abs (fun (x19 : Int) => ⟨74, [(2, .er [.d (.sl (.int .i64)) a1.1, vi a1.2]), (3, .er [vi a2.1, .d (.sl t_farkas_row) a2.2]), (4, .ref 0 0 0), (5, vi (a1.1.length : Int)), (6, .opt x1 (.er [vi x2, vi x3])), (7, .opt x4 (.er [vi x5, vi x6])), (9, .ref 1 0 0), (10, .ref 2 0 0), (15, .d (.sl t_farkas_row) a2.2), (16, vi (a2.2.length : Int)), (17, vi x7)], [.box [vi (0 : Int), vi (0 : Int)], .box [vb x16.1, .d (.sl (.int .i64)) x16.2], .box [vi x18, vi x19]]⟩) (x17.2) ?_
      intro x19 hx19
      replace h := h x19 hx19
      refine awp_block ?_
      refine awp_spine ?_
      refine awp_rc tab [2, 3, 4, 5, 6, 7, 9, 10, 15, 16, 17, 32] [] [] [] [] ⟨74, [(2, .er [.d (.sl (.int .i64)) a1.1, vi a1.2]), (3, .er [vi a2.1, .d (.sl t_farkas_row) a2.2]), (4, .ref 0 0 0), (5, vi (a1.1.length : Int)), (6, .opt x1 (.er [vi x2, vi x3])), (7, .opt x4 (.er [vi x5, vi x6])), (9, .ref 1 0 0), (10, .ref 2 0 0), (15, .d (.sl t_farkas_row) a2.2), (16, vi (a2.2.length : Int)), (17, vi x7), (32, vb x16.1)], [.box [vi (0 : Int), vi (0 : Int)], .box [vb x16.1, .d (.sl (.int .i64)) x16.2], .box [vi x18, vi x19]]⟩ (by kernel_rfl) (trivial) ?_
      refine then_n (spine_c ?_)
      refine awp_cond (b := x16.1) (by kernel_rfl) (fun hb => ?_) (fun hb => ?_)
      · replace h := h.1 (hb)
        refine awp_spine ?_
        refine awp_rc tab [4] [] [] [] [] ⟨74, [(4, .ref 0 0 0)], [.box [vi x18, vi x19], .box [vb x16.1, .d (.sl (.int .i64)) x16.2], .box [vi x18, vi x19]]⟩ (by kernel_rfl) (trivial) ?_
        refine then_n (spine_c ?_)
        refine awp_ret (then_r (then_r (blk_r (then_r (then_r (then_r (blk_r (then_r (then_r (then_r (then_r (blk_r (then_r (then_r (then_r (then_r (?_)))))))))))))))))
        exact ret_r (m := 0) (r := .agg [vi ((x18, x19).1), vi ((x18, x19).2)]) (objs := []) hk [.keep [4]] ⟨74, [(4, .ref 0 0 0)], [.box [vi x18, vi x19], .box [vb x16.1, .d (.sl (.int .i64)) x16.2], .box [vi x18, vi x19]]⟩ (by kernel_rfl) (by kernel_rfl) (Nat.le_refl 0) ⟨(x18, x19), rfl, rfl, h⟩
      · replace h := h.2 (hb)
        refine awp_spine ?_
        obtain ⟨o5, h⟩ := h
        refine awp_rc tab [2, 3, 4, 5, 6, 7, 10, 15, 16, 17, 36] [] [] [] [(0 : Int) ≤ (a1.1.length : Int) ∧ (a1.1.length : Int) < (x16.2.length : Int)] ⟨74, [(2, .er [.d (.sl (.int .i64)) a1.1, vi a1.2]), (3, .er [vi a2.1, .d (.sl t_farkas_row) a2.2]), (4, .ref 0 0 0), (5, vi (a1.1.length : Int)), (6, .opt x1 (.er [vi x2, vi x3])), (7, .opt x4 (.er [vi x5, vi x6])), (10, .ref 2 0 0), (15, .d (.sl t_farkas_row) a2.2), (16, vi (a2.2.length : Int)), (17, vi x7), (36, vb (decide ((gI x16.2 (a1.1.length : Int)) > (0 : Int))))], [.box [vi (0 : Int), vi (0 : Int)], .box [vb x16.1, .d (.sl (.int .i64)) x16.2], .box [vi x18, vi x19]]⟩ (by kernel_rfl) (AllP.of (o5) trivial) ?_
        refine then_n (spine_c ?_)
        refine awp_cond (b := decide ((gI x16.2 (a1.1.length : Int)) > (0 : Int))) (by kernel_rfl) (fun hb => ?_) (fun hb => ?_)
        · replace h := h.1 (of_decide_eq_true hb)
          refine awp_spine ?_
          obtain ⟨o6, h⟩ := h
          refine awp_dr tab mixed [2, 3, 4, 5, 6, 7, 10, 15, 16, 17, 51] [] [(7, .dat (vb (farkas_fraction_less.fn (x2, x3) (x18, x19))))] [] ⟨[[], [0], [0, 1], [0, 1, 2], [0, 1, 2, 3], [0, 1, 2, 3, 4], [0, 1, 2], [0, 1, 2, 3, 4, 5, 6], [0, 1, 2, 3, 4, 5, 6, 7]], [.opt x1 (.er [vi x2, vi x3]), vb (!x1), vb (!x1), .when (!(!x1)) (.opt x1 (.er [vi x2, vi x3])), .when (!(!x1)) (.er [vi x2, vi x3]), .when (!(!x1)) (.agg [vi x2, vi x3]), .when (!(!x1)) (.agg [vi x18, vi x19]), .when (!(!x1)) (vb (farkas_fraction_less.fn (x2, x3) (x18, x19))), vb ((!x1) || (farkas_fraction_less.fn (x2, x3) (x18, x19)))], [none, none, none, none, some ((!(!x1)) = true → (!(!x1)) = true ∧ (x1 = true)), some ((!(!x1)) = true → (!(!x1)) = true ∧ True), none, some ((!(!x1)) = true → (!(!x1)) = true ∧ ((!(!x1)) = true ∧ (OkC prog 61 [.agg [vi x2, vi x3], .agg [vi x18, vi x19]] (vb (farkas_fraction_less.fn (x2, x3) (x18, x19)))))), some ((!x1) = false → (!(!x1)) = true)], [], [([], [.box [vi (0 : Int), vi (0 : Int)], .box [vb x16.1, .d (.sl (.int .i64)) x16.2], .box [vi x18, vi x19]])]⟩ ⟨74, [(2, .er [.d (.sl (.int .i64)) a1.1, vi a1.2]), (3, .er [vi a2.1, .d (.sl t_farkas_row) a2.2]), (4, .ref 0 0 0), (5, vi (a1.1.length : Int)), (6, .opt x1 (.er [vi x2, vi x3])), (7, .opt x4 (.er [vi x5, vi x6])), (10, .ref 2 0 0), (15, .d (.sl t_farkas_row) a2.2), (16, vi (a2.2.length : Int)), (17, vi x7), (51, vb ((!x1) || (farkas_fraction_less.fn (x2, x3) (x18, x19))))], [.box [vi (0 : Int), vi (0 : Int)], .box [vb x16.1, .d (.sl (.int .i64)) x16.2], .box [vi x18, vi x19]]⟩ (by kernel_rfl) (AllO.n (AllO.n (AllO.n (AllO.n (AllO.s (fun hg => ⟨hg, nn hg⟩) (AllO.s (fun hg => ⟨hg, trivial⟩) (AllO.n (AllO.s (fun hg => ⟨hg, hg, ok_farkas_fraction_less (x2, x3) (x18, x19) ((o6 hg))⟩) (AllO.s (fun hc => not_f hc) (AllO.e)))))))))) ?_
          refine then_n (spine_c ?_)
          refine awp_cond (b := (!x1) || (farkas_fraction_less.fn (x2, x3) (x18, x19))) (by kernel_rfl) (fun hb => ?_) (fun hb => ?_)
          · replace h := h.1 (hb)
            refine awp_rc tab [2, 3, 4, 5, 6, 7, 15, 16, 17] [] [] [] [] ⟨74, [(2, .er [.d (.sl (.int .i64)) a1.1, vi a1.2]), (3, .er [vi a2.1, .d (.sl t_farkas_row) a2.2]), (4, .ref 0 0 0), (5, vi (a1.1.length : Int)), (6, .ref 2 0 0), (7, .opt x4 (.er [vi x5, vi x6])), (15, .d (.sl t_farkas_row) a2.2), (16, vi (a2.2.length : Int)), (17, vi x7)], [.box [vi (0 : Int), vi (0 : Int)], .box [vb x16.1, .d (.sl (.int .i64)) x16.2], .box [vi x18, vi x19]]⟩ (by kernel_rfl) (trivial) ?_
            refine then_n (spine_e (then_n (spine_e (then_n (spine_e (blk_n (then_n (spine_e (then_n (spine_e (then_n (spine_e (blk_n (then_n (spine_c ?_)))))))))))))))
            obtain ⟨o7, h⟩ := h
            refine awp_rc tab [2, 3, 4, 5, 6, 7, 15, 16, 17] [] [] [] [-9223372036854775808 ≤ x7 + (1 : Int) ∧ x7 + (1 : Int) ≤ 9223372036854775807] ⟨74, [(2, .er [.d (.sl (.int .i64)) a1.1, vi a1.2]), (3, .er [vi a2.1, .d (.sl t_farkas_row) a2.2]), (4, .ref 0 0 0), (5, vi (a1.1.length : Int)), (6, .ref 2 0 0), (7, .opt x4 (.er [vi x5, vi x6])), (15, .d (.sl t_farkas_row) a2.2), (16, vi (a2.2.length : Int)), (17, vi (x7 + (1 : Int)))], [.box [vi (0 : Int), vi (0 : Int)], .box [vb x16.1, .d (.sl (.int .i64)) x16.2], .box [vi x18, vi x19]]⟩ (by kernel_rfl) (AllP.of (o7) trivial) ?_
            refine then_n (spine_e (then_n (spine_e (then_n (spine_e (then_n (?_)))))))
            obtain ⟨m, hm, h⟩ := h
            exact ⟨m, hm, ⟨74, [(2, .er [.d (.sl (.int .i64)) a1.1, vi a1.2]), (3, .er [vi a2.1, .d (.sl t_farkas_row) a2.2]), (4, .ref 0 0 0), (5, vi (a1.1.length : Int)), (6, .opt true (.er [vi x18, vi x19])), (7, .opt x4 (.er [vi x5, vi x6])), (15, .d (.sl t_farkas_row) a2.2), (16, vi (a2.2.length : Int)), (17, vi (x7 + (1 : Int)))], [.box [vi (0 : Int), vi (0 : Int)]]⟩, wk_ghosts hk (l := [.keep [2, 3, 4, 5, 6, 7, 15, 16, 17], .freeze 2, .optS 6, .keep [2, 3, 4, 5, 6, 7, 15, 16, 17], .cut 1, .keep [2, 3, 4, 5, 6, 7, 15, 16, 17]]) (by kernel_rfl), true, x18, x19, x4, x5, x6, x7 + (1 : Int), h, rfl⟩
          · replace h := h.2 (hb)
            refine awp_skip (then_n (spine_e (then_n (spine_e (then_n (spine_e (blk_n (then_n (spine_e (then_n (spine_e (then_n (spine_e (blk_n (then_n (spine_c ?_))))))))))))))))
            obtain ⟨o8, h⟩ := h
            refine awp_rc tab [2, 3, 4, 5, 6, 7, 15, 16, 17] [] [] [] [-9223372036854775808 ≤ x7 + (1 : Int) ∧ x7 + (1 : Int) ≤ 9223372036854775807] ⟨74, [(2, .er [.d (.sl (.int .i64)) a1.1, vi a1.2]), (3, .er [vi a2.1, .d (.sl t_farkas_row) a2.2]), (4, .ref 0 0 0), (5, vi (a1.1.length : Int)), (6, .opt x1 (.er [vi x2, vi x3])), (7, .opt x4 (.er [vi x5, vi x6])), (15, .d (.sl t_farkas_row) a2.2), (16, vi (a2.2.length : Int)), (17, vi (x7 + (1 : Int)))], [.box [vi (0 : Int), vi (0 : Int)], .box [vb x16.1, .d (.sl (.int .i64)) x16.2], .box [vi x18, vi x19]]⟩ (by kernel_rfl) (AllP.of (o8) trivial) ?_
            refine then_n (spine_e (then_n (spine_e (then_n (spine_e (then_n (?_)))))))
            obtain ⟨m, hm, h⟩ := h
            exact ⟨m, hm, ⟨74, [(2, .er [.d (.sl (.int .i64)) a1.1, vi a1.2]), (3, .er [vi a2.1, .d (.sl t_farkas_row) a2.2]), (4, .ref 0 0 0), (5, vi (a1.1.length : Int)), (6, .opt x1 (.er [vi x2, vi x3])), (7, .opt x4 (.er [vi x5, vi x6])), (15, .d (.sl t_farkas_row) a2.2), (16, vi (a2.2.length : Int)), (17, vi (x7 + (1 : Int)))], [.box [vi (0 : Int), vi (0 : Int)]]⟩, wk_ghosts hk (l := [.keep [2, 3, 4, 5, 6, 7, 15, 16, 17], .keep [2, 3, 4, 5, 6, 7, 15, 16, 17], .cut 1, .keep [2, 3, 4, 5, 6, 7, 15, 16, 17]]) (by kernel_rfl), x1, x2, x3, x4, x5, x6, x7 + (1 : Int), h, rfl⟩
        · replace h := h.2 (of_decide_eq_false hb)
          refine awp_spine ?_
          obtain ⟨o9, h⟩ := h
          refine awp_dr tab mixed [2, 3, 4, 5, 6, 7, 10, 15, 16, 17, 52] [] [(7, .dat (vb (farkas_fraction_less.fn (x18, x19) (x5, x6))))] [] ⟨[[], [0], [0, 1], [0, 1, 2], [0, 1, 2], [0, 1, 2, 4], [0, 1, 2, 4, 5], [0, 1, 2, 3, 4, 5, 6], [0, 1, 2, 3, 4, 5, 6, 7], [0, 1, 2, 3, 4, 5, 6, 7, 8]], [.opt x4 (.er [vi x5, vi x6]), vb (!x4), vb (!x4), .when (!(!x4)) (.agg [vi x18, vi x19]), .when (!(!x4)) (.opt x4 (.er [vi x5, vi x6])), .when (!(!x4)) (.er [vi x5, vi x6]), .when (!(!x4)) (.agg [vi x5, vi x6]), .when (!(!x4)) (vb (farkas_fraction_less.fn (x18, x19) (x5, x6))), vb ((!x4) || (farkas_fraction_less.fn (x18, x19) (x5, x6))), vb ((!x4) || (farkas_fraction_less.fn (x18, x19) (x5, x6)))], [none, none, none, none, none, some ((!(!x4)) = true → (!(!x4)) = true ∧ (x4 = true)), some ((!(!x4)) = true → (!(!x4)) = true ∧ True), some ((!(!x4)) = true → (!(!x4)) = true ∧ ((!(!x4)) = true ∧ (OkC prog 61 [.agg [vi x18, vi x19], .agg [vi x5, vi x6]] (vb (farkas_fraction_less.fn (x18, x19) (x5, x6)))))), some ((!x4) = false → (!(!x4)) = true), none], [], [([], [.box [vi (0 : Int), vi (0 : Int)], .box [vb x16.1, .d (.sl (.int .i64)) x16.2], .box [vi x18, vi x19]])]⟩ ⟨74, [(2, .er [.d (.sl (.int .i64)) a1.1, vi a1.2]), (3, .er [vi a2.1, .d (.sl t_farkas_row) a2.2]), (4, .ref 0 0 0), (5, vi (a1.1.length : Int)), (6, .opt x1 (.er [vi x2, vi x3])), (7, .opt x4 (.er [vi x5, vi x6])), (10, .ref 2 0 0), (15, .d (.sl t_farkas_row) a2.2), (16, vi (a2.2.length : Int)), (17, vi x7), (52, vb ((!x4) || (farkas_fraction_less.fn (x18, x19) (x5, x6))))], [.box [vi (0 : Int), vi (0 : Int)], .box [vb x16.1, .d (.sl (.int .i64)) x16.2], .box [vi x18, vi x19]]⟩ (by kernel_rfl) (AllO.n (AllO.n (AllO.n (AllO.n (AllO.n (AllO.s (fun hg => ⟨hg, nn hg⟩) (AllO.s (fun hg => ⟨hg, trivial⟩) (AllO.s (fun hg => ⟨hg, hg, ok_farkas_fraction_less (x18, x19) (x5, x6) ((o9 hg))⟩) (AllO.s (fun hc => not_f hc) (AllO.n (AllO.e))))))))))) ?_
          refine then_n (spine_c ?_)
          refine awp_cond (b := (!x4) || (farkas_fraction_less.fn (x18, x19) (x5, x6))) (by kernel_rfl) (fun hb => ?_) (fun hb => ?_)
          · replace h := h.1 (hb)
            refine awp_rc tab [2, 3, 4, 5, 6, 7, 15, 16, 17] [] [] [] [] ⟨74, [(2, .er [.d (.sl (.int .i64)) a1.1, vi a1.2]), (3, .er [vi a2.1, .d (.sl t_farkas_row) a2.2]), (4, .ref 0 0 0), (5, vi (a1.1.length : Int)), (6, .opt x1 (.er [vi x2, vi x3])), (7, .ref 2 0 0), (15, .d (.sl t_farkas_row) a2.2), (16, vi (a2.2.length : Int)), (17, vi x7)], [.box [vi (0 : Int), vi (0 : Int)], .box [vb x16.1, .d (.sl (.int .i64)) x16.2], .box [vi x18, vi x19]]⟩ (by kernel_rfl) (trivial) ?_
            refine then_n (spine_e (then_n (spine_e (then_n (spine_e (blk_n (then_n (spine_e (then_n (spine_e (then_n (spine_e (blk_n (then_n (spine_c ?_)))))))))))))))
            obtain ⟨o10, h⟩ := h
            refine awp_rc tab [2, 3, 4, 5, 6, 7, 15, 16, 17] [] [] [] [-9223372036854775808 ≤ x7 + (1 : Int) ∧ x7 + (1 : Int) ≤ 9223372036854775807] ⟨74, [(2, .er [.d (.sl (.int .i64)) a1.1, vi a1.2]), (3, .er [vi a2.1, .d (.sl t_farkas_row) a2.2]), (4, .ref 0 0 0), (5, vi (a1.1.length : Int)), (6, .opt x1 (.er [vi x2, vi x3])), (7, .ref 2 0 0), (15, .d (.sl t_farkas_row) a2.2), (16, vi (a2.2.length : Int)), (17, vi (x7 + (1 : Int)))], [.box [vi (0 : Int), vi (0 : Int)], .box [vb x16.1, .d (.sl (.int .i64)) x16.2], .box [vi x18, vi x19]]⟩ (by kernel_rfl) (AllP.of (o10) trivial) ?_
            refine then_n (spine_e (then_n (spine_e (then_n (spine_e (then_n (?_)))))))
            obtain ⟨m, hm, h⟩ := h
            exact ⟨m, hm, ⟨74, [(2, .er [.d (.sl (.int .i64)) a1.1, vi a1.2]), (3, .er [vi a2.1, .d (.sl t_farkas_row) a2.2]), (4, .ref 0 0 0), (5, vi (a1.1.length : Int)), (6, .opt x1 (.er [vi x2, vi x3])), (7, .opt true (.er [vi x18, vi x19])), (15, .d (.sl t_farkas_row) a2.2), (16, vi (a2.2.length : Int)), (17, vi (x7 + (1 : Int)))], [.box [vi (0 : Int), vi (0 : Int)]]⟩, wk_ghosts hk (l := [.keep [2, 3, 4, 5, 6, 7, 15, 16, 17], .freeze 2, .optS 7, .keep [2, 3, 4, 5, 6, 7, 15, 16, 17], .cut 1, .keep [2, 3, 4, 5, 6, 7, 15, 16, 17]]) (by kernel_rfl), x1, x2, x3, true, x18, x19, x7 + (1 : Int), h, rfl⟩
          · replace h := h.2 (hb)
            refine awp_skip (then_n (spine_e (then_n (spine_e (then_n (spine_e (blk_n (then_n (spine_e (then_n (spine_e (then_n (spine_e (blk_n (then_n (spine_c ?_))))))))))))))))
            obtain ⟨o11, h⟩ := h
            refine awp_rc tab [2, 3, 4, 5, 6, 7, 15, 16, 17] [] [] [] [-9223372036854775808 ≤ x7 + (1 : Int) ∧ x7 + (1 : Int) ≤ 9223372036854775807] ⟨74, [(2, .er [.d (.sl (.int .i64)) a1.1, vi a1.2]), (3, .er [vi a2.1, .d (.sl t_farkas_row) a2.2]), (4, .ref 0 0 0), (5, vi (a1.1.length : Int)), (6, .opt x1 (.er [vi x2, vi x3])), (7, .opt x4 (.er [vi x5, vi x6])), (15, .d (.sl t_farkas_row) a2.2), (16, vi (a2.2.length : Int)), (17, vi (x7 + (1 : Int)))], [.box [vi (0 : Int), vi (0 : Int)], .box [vb x16.1, .d (.sl (.int .i64)) x16.2], .box [vi x18, vi x19]]⟩ (by kernel_rfl) (AllP.of (o11) trivial) ?_
            refine then_n (spine_e (then_n (spine_e (then_n (spine_e (then_n (?_)))))))
            obtain ⟨m, hm, h⟩ := h
            exact ⟨m, hm, ⟨74, [(2, .er [.d (.sl (.int .i64)) a1.1, vi a1.2]), (3, .er [vi a2.1, .d (.sl t_farkas_row) a2.2]), (4, .ref 0 0 0), (5, vi (a1.1.length : Int)), (6, .opt x1 (.er [vi x2, vi x3])), (7, .opt x4 (.er [vi x5, vi x6])), (15, .d (.sl t_farkas_row) a2.2), (16, vi (a2.2.length : Int)), (17, vi (x7 + (1 : Int)))], [.box [vi (0 : Int), vi (0 : Int)]]⟩, wk_ghosts hk (l := [.keep [2, 3, 4, 5, 6, 7, 15, 16, 17], .keep [2, 3, 4, 5, 6, 7, 15, 16, 17], .cut 1, .keep [2, 3, 4, 5, 6, 7, 15, 16, 17]]) (by kernel_rfl), x1, x2, x3, x4, x5, x6, x7 + (1 : Int), h, rfl⟩
  · replace h := h.2 (of_decide_eq_false hb)
    refine awp_exit (then_x (then_x (then_x (blk_h (then_n (spine_c ?_))))))
    refine awp_spine ?_
    refine awp_rc tab [4, 6, 7, 64] [] [] [] [] ⟨74, [(4, .ref 0 0 0), (6, .opt x1 (.er [vi x2, vi x3])), (7, .opt x4 (.er [vi x5, vi x6])), (64, vb (!(!x1)))], [.box [vi (0 : Int), vi (0 : Int)]]⟩ (by kernel_rfl) (trivial) ?_
    refine then_n (spine_c ?_)
    refine awp_cond (b := !(!x1)) (by kernel_rfl) (fun hb => ?_) (fun hb => ?_)
    · replace h := h.1 ((nf (nt hb)))
      refine awp_spine ?_
      obtain ⟨o12, h⟩ := h
      refine awp_rc tab [4] [] [] [] [x1 = true] ⟨74, [(4, .ref 0 0 0)], [.box [vi x2, vi x3]]⟩ (by kernel_rfl) (AllP.of (o12) trivial) ?_
      refine then_n (spine_c ?_)
      refine awp_ret (then_r (then_r (then_r (then_r (then_r (then_r (?_)))))))
      exact ret_r (m := 0) (r := .agg [vi ((x2, x3).1), vi ((x2, x3).2)]) (objs := []) hk [.keep [4]] ⟨74, [(4, .ref 0 0 0)], [.box [vi x2, vi x3]]⟩ (by kernel_rfl) (by kernel_rfl) (Nat.le_refl 0) ⟨(x2, x3), rfl, rfl, h⟩
    · replace h := h.2 ((nt (nf hb)))
      refine awp_skip (then_n (spine_c ?_))
      refine awp_spine ?_
      refine awp_rc tab [4, 7, 69] [] [] [] [] ⟨74, [(4, .ref 0 0 0), (7, .opt x4 (.er [vi x5, vi x6])), (69, vb (!(!x4)))], [.box [vi (0 : Int), vi (0 : Int)]]⟩ (by kernel_rfl) (trivial) ?_
      refine then_n (spine_c ?_)
      refine awp_cond (b := !(!x4)) (by kernel_rfl) (fun hb => ?_) (fun hb => ?_)
      · replace h := h.1 ((nf (nt hb)))
        refine awp_spine ?_
        obtain ⟨o13, h⟩ := h
        refine awp_rc tab [4] [] [] [] [x4 = true] ⟨74, [(4, .ref 0 0 0)], [.box [vi x5, vi x6]]⟩ (by kernel_rfl) (AllP.of (o13) trivial) ?_
        refine then_n (spine_c ?_)
        refine awp_ret (then_r (then_r (then_r (then_r (then_r (then_r (then_r (?_))))))))
        exact ret_r (m := 0) (r := .agg [vi ((x5, x6).1), vi ((x5, x6).2)]) (objs := []) hk [.keep [4]] ⟨74, [(4, .ref 0 0 0)], [.box [vi x5, vi x6]]⟩ (by kernel_rfl) (by kernel_rfl) (Nat.le_refl 0) ⟨(x5, x6), rfl, rfl, h⟩
      · replace h := h.2 ((nt (nf hb)))
        refine awp_skip (then_n (spine_c ?_))
        refine awp_spine ?_
        refine awp_rc tab [4] [] [] [] [] ⟨74, [(4, .ref 0 0 0)], [.box [vi (0 : Int), vi (1 : Int)]]⟩ (by kernel_rfl) (trivial) ?_
        refine then_n (spine_c ?_)
        refine awp_ret (then_r (then_r (then_r (then_r (then_r (then_r (then_r (?_))))))))
        exact ret_r (m := 0) (r := .agg [vi ((0, 1).1), vi ((0, 1).2)]) (objs := []) hk [.keep [4]] ⟨74, [(4, .ref 0 0 0)], [.box [vi (0 : Int), vi (1 : Int)]]⟩ (by kernel_rfl) (by kernel_rfl) (Nat.le_refl 0) ⟨(0, 1), rfl, rfl, h⟩
theorem ok_farkas_point_value (a1 : farkas_point) (a2 : farkas_table) (h : farkas_point_value.pre a1 a2) : OkC prog 33 [.agg [.d (.sl (.int .i64)) a1.1, vi a1.2], .agg [vi a2.1, .d (.sl t_farkas_row) a2.2]] (.agg [vi ((farkas_point_value.fn a1 a2).1), vi ((farkas_point_value.fn a1 a2).2)]) :=
  OkC.of call_farkas_point_value ((walk_farkas_point_value a1 a2 _ (farkas_point_value.spec a1 a2 h)).mono fun r o ⟨x, hr, ho, hx⟩ => ⟨by rw [hr, hx], ho⟩) rfl rfl (fun _ => rfl)

end Go.Proofs.Ytlncingakpelbaa
