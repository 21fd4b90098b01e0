/- Part of a proof that a law of the program holds for every input: printed by a program of this work. No conditions. -/
import Derived.Test.YtlncingakpelbaaK3
namespace Go.Proofs.Ytlncingakpelbaa
open Go
set_option linter.unusedVariables false
set_option maxHeartbeats 4000000

noncomputable abbrev Bfarkas_table_kept_1 : Code := bodyOf Try.f94
theorem call_farkas_table_kept_1 : CallOk prog 94 := ⟨_, Try.func94, by kernel_rfl, by kernel_rfl⟩
theorem walk_farkas_table_kept_1 (a1 : farkas_row) (a2 : Bool) (a3 : (List Int)) (a4 : Int) (a5 : (List farkas_row)) (Q : Bool → Prop) (h : farkas_table_kept_1.wp a1 a2 a3 a4 a5 Q) : VCalls prog 94 [.agg [vb a1.1, .d (.sl (.int .i64)) a1.2], .er [vb a2, .d (.sl (.int .i64)) a3], .er [vi a4, .d (.sl t_farkas_row) a5]] [] (fun r o => ∃ x, r = vb x ∧ o = [] ∧ Q x) := by
  refine vcalls_body tab Try.func94 (c := (spine (subC [0] Bfarkas_table_kept_1) [(spine (subC [1, 0] Bfarkas_table_kept_1) [.ret])])) (by kernel_rfl) (Nat.le_of_ble_eq_true (by kernel_rfl)) fun cx hd hi hk => ?_
  show AWp prog cx _ _ ⟨25, [(0, .agg [vb a1.1, .d (.sl (.int .i64)) a1.2]), (1, .er [vb a2, .d (.sl (.int .i64)) a3]), (2, .er [vi a4, .d (.sl t_farkas_row) a5])], []⟩
  replace hk : cx.E.len = 0 := hk
  unfold farkas_table_kept_1.wp at h
  refine awp_spine ?_
  refine awp_rc tab [1, 2, 3] [] [] [0] [] ⟨25, [(1, .er [vb a2, .d (.sl (.int .i64)) a3]), (2, .er [vi a4, .d (.sl t_farkas_row) a5]), (3, .er [vb a1.1, .d (.sl (.int .i64)) a1.2])], []⟩ (by kernel_rfl) (trivial) ?_
  refine then_n (spine_c ?_)
  refine awp_spine ?_
  obtain ⟨o1, o2, o3, o4, h⟩ := h
  refine awp_dr tab mixed [4] [] [(18, .dat (vb (slices_Equal_farkas_vector_int_int.fn (a1.2.take (Int.toNat (a4 + (1 : Int)))) (a3.take (Int.toNat (a4 + (1 : Int)))))))] [] ⟨[[], [0], [], [2], [0, 1, 2, 3], [0, 1, 2, 3, 4], [0, 1, 2, 3, 4, 5], [0, 1, 2, 3, 4, 5, 6], [0, 1, 2, 3, 4, 5], [0, 1, 2, 3, 4, 5, 8], [0, 1, 2, 3, 4, 5, 8, 9], [0, 1, 2, 3, 4, 5, 6, 7, 8, 9, 10], [0, 1, 2, 3, 4, 5], [0, 1, 2, 3, 4, 5, 12], [0, 1, 2, 3, 4, 5], [0, 1, 2, 3, 4, 5, 14], [0, 1, 2, 3, 4, 5, 14, 15], [0, 1, 2, 3, 4, 5, 12, 13, 14, 15, 16], [0, 1, 2, 3, 4, 5, 6, 7, 8, 9, 10, 11, 12, 13, 14, 15, 16, 17], [0, 1, 2, 3, 4, 5, 6, 7, 8, 9, 10, 11, 12, 13, 14, 15, 16, 17, 18], [0, 1, 2, 3, 4, 5, 6, 7, 8, 9, 10, 11, 12, 13, 14, 15, 16, 17, 18, 19]], [.er [vb a1.1, .d (.sl (.int .i64)) a1.2], vb a1.1, .er [vb a2, .d (.sl (.int .i64)) a3], vb a2, vb (a1.1 == a2), vb (a1.1 == a2), .when (a1.1 == a2) (.er [.d (.sl (.int .i64)) a1.2]), .when (a1.1 == a2) (.d (.sl (.int .i64)) a1.2), .when (a1.1 == a2) (.er [vi a4, .d (.sl t_farkas_row) a5]), .when (a1.1 == a2) (vi a4), .when (a1.1 == a2) (vi (a4 + (1 : Int))), .when (a1.1 == a2) (.d (.sl (.int .i64)) (a1.2.take (Int.toNat (a4 + (1 : Int))))), .when (a1.1 == a2) (.er [.d (.sl (.int .i64)) a3]), .when (a1.1 == a2) (.d (.sl (.int .i64)) a3), .when (a1.1 == a2) (.er [vi a4, .d (.sl t_farkas_row) a5]), .when (a1.1 == a2) (vi a4), .when (a1.1 == a2) (vi (a4 + (1 : Int))), .when (a1.1 == a2) (.d (.sl (.int .i64)) (a3.take (Int.toNat (a4 + (1 : Int))))), .when (a1.1 == a2) (vb (slices_Equal_farkas_vector_int_int.fn (a1.2.take (Int.toNat (a4 + (1 : Int)))) (a3.take (Int.toNat (a4 + (1 : Int)))))), vb ((a1.1 == a2) && (slices_Equal_farkas_vector_int_int.fn (a1.2.take (Int.toNat (a4 + (1 : Int)))) (a3.take (Int.toNat (a4 + (1 : Int)))))), vb ((a1.1 == a2) && (slices_Equal_farkas_vector_int_int.fn (a1.2.take (Int.toNat (a4 + (1 : Int)))) (a3.take (Int.toNat (a4 + (1 : Int))))))], [none, none, none, none, none, none, none, some ((a1.1 == a2) = true → (a1.1 == a2) = true ∧ True), none, some ((a1.1 == a2) = true → (a1.1 == a2) = true ∧ True), some ((a1.1 == a2) = true → (a1.1 == a2) = true ∧ (-9223372036854775808 ≤ a4 + (1 : Int) ∧ a4 + (1 : Int) ≤ 9223372036854775807)), some ((a1.1 == a2) = true → (a1.1 == a2) = true ∧ ((a1.1 == a2) = true ∧ ((0 : Int) ≤ (a4 + (1 : Int)) ∧ (a4 + (1 : Int)) ≤ (a1.2.length : Int)))), none, some ((a1.1 == a2) = true → (a1.1 == a2) = true ∧ True), none, some ((a1.1 == a2) = true → (a1.1 == a2) = true ∧ True), some ((a1.1 == a2) = true → (a1.1 == a2) = true ∧ (-9223372036854775808 ≤ a4 + (1 : Int) ∧ a4 + (1 : Int) ≤ 9223372036854775807)), some ((a1.1 == a2) = true → (a1.1 == a2) = true ∧ ((a1.1 == a2) = true ∧ ((0 : Int) ≤ (a4 + (1 : Int)) ∧ (a4 + (1 : Int)) ≤ (a3.length : Int)))), some ((a1.1 == a2) = true → (a1.1 == a2) = true ∧ ((a1.1 == a2) = true ∧ (OkC prog 95 [.d (.sl (.int .i64)) (a1.2.take (Int.toNat (a4 + (1 : Int)))), .d (.sl (.int .i64)) (a3.take (Int.toNat (a4 + (1 : Int))))] (vb (slices_Equal_farkas_vector_int_int.fn (a1.2.take (Int.toNat (a4 + (1 : Int)))) (a3.take (Int.toNat (a4 + (1 : Int))))))))), some ((a1.1 == a2) = true → (a1.1 == a2) = true), none], [], [([], [])]⟩ ⟨25, [(4, vb ((a1.1 == a2) && (slices_Equal_farkas_vector_int_int.fn (a1.2.take (Int.toNat (a4 + (1 : Int)))) (a3.take (Int.toNat (a4 + (1 : Int)))))))], []⟩ (by kernel_rfl) (AllO.n (AllO.n (AllO.n (AllO.n (AllO.n (AllO.n (AllO.n (AllO.s (fun hg => ⟨hg, trivial⟩) (AllO.n (AllO.s (fun hg => ⟨hg, trivial⟩) (AllO.s (fun hg => ⟨hg, (o1 hg)⟩) (AllO.s (fun hg => ⟨hg, hg, (o2 hg)⟩) (AllO.n (AllO.s (fun hg => ⟨hg, trivial⟩) (AllO.n (AllO.s (fun hg => ⟨hg, trivial⟩) (AllO.s (fun hg => ⟨hg, (o3 hg)⟩) (AllO.s (fun hg => ⟨hg, hg, (o4 hg)⟩) (AllO.s (fun hg => ⟨hg, hg, ok_slices_Equal_farkas_vector_int_int (a1.2.take (Int.toNat (a4 + (1 : Int)))) (a3.take (Int.toNat (a4 + (1 : Int))))⟩) (AllO.s (fun hc => hc) (AllO.n (AllO.e)))))))))))))))))))))) ?_
  refine then_n (spine_c ?_)
  refine awp_ret (then_r (then_r (?_)))
  exact ret_r (m := 0) (r := vb ((a1.1 == a2) && (slices_Equal_farkas_vector_int_int.fn (a1.2.take (Int.toNat (a4 + (1 : Int)))) (a3.take (Int.toNat (a4 + (1 : Int))))))) (objs := []) hk [.keep [4]] ⟨25, [(4, vb ((a1.1 == a2) && (slices_Equal_farkas_vector_int_int.fn (a1.2.take (Int.toNat (a4 + (1 : Int)))) (a3.take (Int.toNat (a4 + (1 : Int)))))))], []⟩ (by kernel_rfl) (by kernel_rfl) (Nat.le_refl 0) ⟨(a1.1 == a2) && (slices_Equal_farkas_vector_int_int.fn (a1.2.take (Int.toNat (a4 + (1 : Int)))) (a3.take (Int.toNat (a4 + (1 : Int))))), rfl, rfl, h⟩
theorem ok_farkas_table_kept_1 (a1 : farkas_row) (a2 : Bool) (a3 : (List Int)) (a4 : Int) (a5 : (List farkas_row)) (h : farkas_table_kept_1.pre a1 a2 a3 a4 a5) : OkC prog 94 [.agg [vb a1.1, .d (.sl (.int .i64)) a1.2], .er [vb a2, .d (.sl (.int .i64)) a3], .er [vi a4, .d (.sl t_farkas_row) a5]] (vb (farkas_table_kept_1.fn a1 a2 a3 a4 a5)) :=
  OkC.of call_farkas_table_kept_1 ((walk_farkas_table_kept_1 a1 a2 a3 a4 a5 _ (farkas_table_kept_1.spec a1 a2 a3 a4 a5 h)).mono fun r o ⟨x, hr, ho, hx⟩ => ⟨by rw [hr, hx], ho⟩) rfl rfl (fun _ => rfl)

noncomputable abbrev Bslices_IndexFunc_Sfarkas_row_farkas_row__farkas_table_kept_1 : Code := bodyOf Try.f100
theorem call_slices_IndexFunc_Sfarkas_row_farkas_row__farkas_table_kept_1 : CallOk prog 100 := ⟨_, Try.func100, by kernel_rfl, by kernel_rfl⟩
theorem walk_slices_IndexFunc_Sfarkas_row_farkas_row__farkas_table_kept_1 (a1 : (List farkas_row)) (a2 : Bool) (a3 : (List Int)) (a4 : Int) (a5 : (List farkas_row)) (Q : Int → Prop) (h : slices_IndexFunc_Sfarkas_row_farkas_row__farkas_table_kept_1.wp a1 a2 a3 a4 a5 Q) : VCalls prog 100 [.d (.sl t_farkas_row) a1, .fn (.func 94) [] [.er [vb a2, .d (.sl (.int .i64)) a3], .er [vi a4, .d (.sl t_farkas_row) a5]]] [] (fun r o => ∃ x, r = vi x ∧ o = [] ∧ Q x) := by
  refine vcalls_body tab Try.func100 (c := (spine (subC [0] Bslices_IndexFunc_Sfarkas_row_farkas_row__farkas_table_kept_1) [(spine (subC [1, 0, 0] Bslices_IndexFunc_Sfarkas_row_farkas_row__farkas_table_kept_1) [(.block 0 (.loop (spine (subC [1, 0, 1, 0, 0, 0] Bslices_IndexFunc_Sfarkas_row_farkas_row__farkas_table_kept_1) [(spine (.cond (.tmp 9) .skip (.exit 0)) [(spine (.block 1 (spine (subC [1, 0, 1, 0, 0, 1, 1, 0, 0, 0] Bslices_IndexFunc_Sfarkas_row_farkas_row__farkas_table_kept_1) [(spine (subC [1, 0, 1, 0, 0, 1, 1, 0, 0, 1, 0] Bslices_IndexFunc_Sfarkas_row_farkas_row__farkas_table_kept_1) [(.cond (.tmp 16) (spine (subC [1, 0, 1, 0, 0, 1, 1, 0, 0, 1, 1, 0, 0] Bslices_IndexFunc_Sfarkas_row_farkas_row__farkas_table_kept_1) [.ret]) .skip)])])) [(subC [1, 0, 1, 0, 0, 1, 1, 1] Bslices_IndexFunc_Sfarkas_row_farkas_row__farkas_table_kept_1)])])]))), (spine (subC [1, 1, 0] Bslices_IndexFunc_Sfarkas_row_farkas_row__farkas_table_kept_1) [.ret])])])) (by kernel_rfl) (Nat.le_of_ble_eq_true (by kernel_rfl)) fun cx hd hi hk => ?_
  show AWp prog cx _ _ ⟨19, [(0, .d (.sl t_farkas_row) a1), (1, .fn (.func 94) [] [.er [vb a2, .d (.sl (.int .i64)) a3], .er [vi a4, .d (.sl t_farkas_row) a5]])], []⟩
  replace hk : cx.E.len = 0 := hk
  unfold slices_IndexFunc_Sfarkas_row_farkas_row__farkas_table_kept_1.wp at h
  refine awp_spine ?_
  refine awp_rc tab [0, 1] [] [] [] [] ⟨19, [(0, .d (.sl t_farkas_row) a1), (1, .fn (.func 94) [] [.er [vb a2, .d (.sl (.int .i64)) a3], .er [vi a4, .d (.sl t_farkas_row) a5]])], []⟩ (by kernel_rfl) (trivial) ?_
  refine then_n (spine_c ?_)
  refine awp_spine ?_
  refine awp_rc tab [0, 1, 7, 8] [] [] [] [] ⟨19, [(0, .d (.sl t_farkas_row) a1), (1, .fn (.func 94) [] [.er [vb a2, .d (.sl (.int .i64)) a3], .er [vi a4, .d (.sl t_farkas_row) a5]]), (7, vi (a1.length : Int)), (8, vi (0 : Int))], []⟩ (by kernel_rfl) (trivial) ?_
  refine then_n (spine_c ?_)
  refine awp_len 0 [] (T := t_farkas_row) (l := a1) (by kernel_rfl) fun hl => ?_
  replace h := h hl
  refine awp_block ?_
  obtain ⟨I4, ⟨n4a, hz4⟩, hI4⟩ := h
  refine awp_loopN (fun n s => ∃ (x2 : Int), I4 n x2 ∧ s = ⟨19, [(0, .d (.sl t_farkas_row) a1), (1, .fn (.func 94) [] [.er [vb a2, .d (.sl (.int .i64)) a3], .er [vi a4, .d (.sl t_farkas_row) a5]]), (7, vi (a1.length : Int)), (8, vi x2)], []⟩) (n := n4a) (s0 := ⟨19, [(0, .d (.sl t_farkas_row) a1), (1, .fn (.func 94) [] [.er [vb a2, .d (.sl (.int .i64)) a3], .er [vi a4, .d (.sl t_farkas_row) a5]]), (7, vi (a1.length : Int)), (8, vi (0 : Int))], []⟩) (wk_ghosts hk (l := [.keep [0, 1, 7, 8], .keep [0, 1, 7, 8], .keep [0, 1, 7, 8], .keep [0, 1, 7, 8]]) (by kernel_rfl)) ⟨0, hz4, rfl⟩ ?_
  rintro n4 s ⟨x2, hx4, rfl⟩
  have h := hI4 n4 x2 hx4
  refine awp_spine ?_
  refine awp_rc tab [0, 1, 7, 8, 9] [] [] [] [] ⟨19, [(0, .d (.sl t_farkas_row) a1), (1, .fn (.func 94) [] [.er [vb a2, .d (.sl (.int .i64)) a3], .er [vi a4, .d (.sl t_farkas_row) a5]]), (7, vi (a1.length : Int)), (8, vi x2), (9, vb (decide (x2 < (a1.length : Int))))], []⟩ (by kernel_rfl) (trivial) ?_
  refine then_n (spine_c ?_)
  refine awp_spine ?_
  refine awp_cond (b := decide (x2 < (a1.length : Int))) (by kernel_rfl) (fun hb => ?_) (fun hb => ?_)
  · replace h := h.1 (of_decide_eq_true hb)
    refine awp_skip (then_n (spine_c ?_))
    refine awp_spine ?_
    refine awp_block ?_
    refine awp_spine ?_
    refine awp_rc tab [0, 1, 5, 7, 8] [] [] [] [] ⟨19, [(0, .d (.sl t_farkas_row) a1), (1, .fn (.func 94) [] [.er [vb a2, .d (.sl (.int .i64)) a3], .er [vi a4, .d (.sl t_farkas_row) a5]]), (5, vi x2), (7, vi (a1.length : Int)), (8, vi x2)], []⟩ (by kernel_rfl) (trivial) ?_
    refine then_n (spine_c ?_)
    refine awp_spine ?_
    obtain ⟨o1, o2, h⟩ := h
    refine awp_rc tab [0, 1, 5, 7, 8, 16] [] [(5, .dat (vb (farkas_table_kept_1.fn (a1.getD (Int.toNat x2) d_farkas_row) a2 a3 a4 a5)))] [] [(0 : Int) ≤ x2 ∧ x2 < (a1.length : Int), OkC prog 94 [.agg [vb ((a1.getD (Int.toNat x2) d_farkas_row).1), .d (.sl (.int .i64)) ((a1.getD (Int.toNat x2) d_farkas_row).2)], .er [vb a2, .d (.sl (.int .i64)) a3], .er [vi a4, .d (.sl t_farkas_row) a5]] (vb (farkas_table_kept_1.fn (a1.getD (Int.toNat x2) d_farkas_row) a2 a3 a4 a5))] ⟨19, [(0, .d (.sl t_farkas_row) a1), (1, .fn (.func 94) [] [.er [vb a2, .d (.sl (.int .i64)) a3], .er [vi a4, .d (.sl t_farkas_row) a5]]), (5, vi x2), (7, vi (a1.length : Int)), (8, vi x2), (16, vb (farkas_table_kept_1.fn (a1.getD (Int.toNat x2) d_farkas_row) a2 a3 a4 a5))], []⟩ (by kernel_rfl) (AllP.of (o1) (AllP.of (ok_farkas_table_kept_1 (a1.getD (Int.toNat x2) d_farkas_row) a2 a3 a4 a5 (o2)) trivial)) ?_
    refine then_n (spine_c ?_)
    refine awp_cond (b := farkas_table_kept_1.fn (a1.getD (Int.toNat x2) d_farkas_row) a2 a3 a4 a5) (by kernel_rfl) (fun hb => ?_) (fun hb => ?_)
    · replace h := h.1 (hb)
      refine awp_spine ?_
      refine awp_rc tab [4] [] [] [] [] ⟨19, [(4, vi x2)], []⟩ (by kernel_rfl) (trivial) ?_
      refine then_n (spine_c ?_)
      refine awp_ret (then_r (then_r (then_r (blk_r (then_r (then_r (then_r (then_r (blk_r (then_r (then_r (?_))))))))))))
      exact ret_r (m := 0) (r := vi x2) (objs := []) hk [.keep [4]] ⟨19, [(4, vi x2)], []⟩ (by kernel_rfl) (by kernel_rfl) (Nat.le_refl 0) ⟨x2, rfl, rfl, h⟩
    · replace h := h.2 (hb)
      refine awp_skip (then_n (spine_e (then_n (spine_e (blk_n (then_n (spine_c ?_)))))))
      obtain ⟨o3, h⟩ := h
      refine awp_rc tab [0, 1, 7, 8] [] [] [] [-9223372036854775808 ≤ x2 + (1 : Int) ∧ x2 + (1 : Int) ≤ 9223372036854775807] ⟨19, [(0, .d (.sl t_farkas_row) a1), (1, .fn (.func 94) [] [.er [vb a2, .d (.sl (.int .i64)) a3], .er [vi a4, .d (.sl t_farkas_row) a5]]), (7, vi (a1.length : Int)), (8, vi (x2 + (1 : Int)))], []⟩ (by kernel_rfl) (AllP.of (o3) trivial) ?_
      refine then_n (spine_e (then_n (spine_e (then_n (spine_e (then_n (?_)))))))
      obtain ⟨m, hm, h⟩ := h
      exact ⟨m, hm, ⟨19, [(0, .d (.sl t_farkas_row) a1), (1, .fn (.func 94) [] [.er [vb a2, .d (.sl (.int .i64)) a3], .er [vi a4, .d (.sl t_farkas_row) a5]]), (7, vi (a1.length : Int)), (8, vi (x2 + (1 : Int)))], []⟩, wk_ghosts hk (l := [.keep [0, 1, 7, 8], .keep [0, 1, 7, 8], .keep [0, 1, 7, 8]]) (by kernel_rfl), x2 + (1 : Int), h, rfl⟩
  · replace h := h.2 (of_decide_eq_false hb)
    refine awp_exit (then_x (then_x (then_x (blk_h (then_n (spine_c ?_))))))
    refine awp_spine ?_
    refine awp_rc tab [4] [] [] [] [] ⟨19, [(4, vi (-1))], []⟩ (by kernel_rfl) (trivial) ?_
    refine then_n (spine_c ?_)
    refine awp_ret (then_r (then_r (then_r (?_))))
    exact ret_r (m := 0) (r := vi (-1)) (objs := []) hk [.keep [4]] ⟨19, [(4, vi (-1))], []⟩ (by kernel_rfl) (by kernel_rfl) (Nat.le_refl 0) ⟨(-1), rfl, rfl, h⟩
theorem ok_slices_IndexFunc_Sfarkas_row_farkas_row__farkas_table_kept_1 (a1 : (List farkas_row)) (a2 : Bool) (a3 : (List Int)) (a4 : Int) (a5 : (List farkas_row)) (h : slices_IndexFunc_Sfarkas_row_farkas_row__farkas_table_kept_1.pre a1 a2 a3 a4 a5) : OkC prog 100 [.d (.sl t_farkas_row) a1, .fn (.func 94) [] [.er [vb a2, .d (.sl (.int .i64)) a3], .er [vi a4, .d (.sl t_farkas_row) a5]]] (vi (slices_IndexFunc_Sfarkas_row_farkas_row__farkas_table_kept_1.fn a1 a2 a3 a4 a5)) :=
  OkC.of call_slices_IndexFunc_Sfarkas_row_farkas_row__farkas_table_kept_1 ((walk_slices_IndexFunc_Sfarkas_row_farkas_row__farkas_table_kept_1 a1 a2 a3 a4 a5 _ (slices_IndexFunc_Sfarkas_row_farkas_row__farkas_table_kept_1.spec a1 a2 a3 a4 a5 h)).mono fun r o ⟨x, hr, ho, hx⟩ => ⟨by rw [hr, hx], ho⟩) rfl rfl (fun _ => rfl)

noncomputable abbrev Bslices_ContainsFunc_Sfarkas_row_farkas_row__farkas_table_kept_1 : Code := bodyOf Try.f93
theorem call_slices_ContainsFunc_Sfarkas_row_farkas_row__farkas_table_kept_1 : CallOk prog 93 := ⟨_, Try.func93, by kernel_rfl, by kernel_rfl⟩
theorem walk_slices_ContainsFunc_Sfarkas_row_farkas_row__farkas_table_kept_1 (a1 : (List farkas_row)) (a2 : Bool) (a3 : (List Int)) (a4 : Int) (a5 : (List farkas_row)) (Q : Bool → Prop) (h : slices_ContainsFunc_Sfarkas_row_farkas_row__farkas_table_kept_1.wp a1 a2 a3 a4 a5 Q) : VCalls prog 93 [.d (.sl t_farkas_row) a1, .fn (.func 94) [] [.er [vb a2, .d (.sl (.int .i64)) a3], .er [vi a4, .d (.sl t_farkas_row) a5]]] [] (fun r o => ∃ x, r = vb x ∧ o = [] ∧ Q x) := by
  refine vcalls_body tab Try.func93 (c := (spine (subC [0] Bslices_ContainsFunc_Sfarkas_row_farkas_row__farkas_table_kept_1) [(spine (subC [1, 0] Bslices_ContainsFunc_Sfarkas_row_farkas_row__farkas_table_kept_1) [.ret])])) (by kernel_rfl) (Nat.le_of_ble_eq_true (by kernel_rfl)) fun cx hd hi hk => ?_
  show AWp prog cx _ _ ⟨9, [(0, .d (.sl t_farkas_row) a1), (1, .fn (.func 94) [] [.er [vb a2, .d (.sl (.int .i64)) a3], .er [vi a4, .d (.sl t_farkas_row) a5]])], []⟩
  replace hk : cx.E.len = 0 := hk
  unfold slices_ContainsFunc_Sfarkas_row_farkas_row__farkas_table_kept_1.wp at h
  refine awp_spine ?_
  refine awp_rc tab [0, 1] [] [] [] [] ⟨9, [(0, .d (.sl t_farkas_row) a1), (1, .fn (.func 94) [] [.er [vb a2, .d (.sl (.int .i64)) a3], .er [vi a4, .d (.sl t_farkas_row) a5]])], []⟩ (by kernel_rfl) (trivial) ?_
  refine then_n (spine_c ?_)
  refine awp_spine ?_
  obtain ⟨o1, h⟩ := h
  refine awp_rc tab [4] [] [(2, .dat (vi (slices_IndexFunc_Sfarkas_row_farkas_row__farkas_table_kept_1.fn a1 a2 a3 a4 a5)))] [] [OkC prog 100 [.d (.sl t_farkas_row) a1, .fn (.func 94) [] [.er [vb a2, .d (.sl (.int .i64)) a3], .er [vi a4, .d (.sl t_farkas_row) a5]]] (vi (slices_IndexFunc_Sfarkas_row_farkas_row__farkas_table_kept_1.fn a1 a2 a3 a4 a5))] ⟨9, [(4, vb (decide ((slices_IndexFunc_Sfarkas_row_farkas_row__farkas_table_kept_1.fn a1 a2 a3 a4 a5) ≥ (0 : Int))))], []⟩ (by kernel_rfl) (AllP.of (ok_slices_IndexFunc_Sfarkas_row_farkas_row__farkas_table_kept_1 a1 a2 a3 a4 a5 (o1)) trivial) ?_
  refine then_n (spine_c ?_)
  refine awp_abs (fun (x1 : Int) => ⟨9, [(4, vb (decide (x1 ≥ (0 : Int))))], []⟩) (slices_IndexFunc_Sfarkas_row_farkas_row__farkas_table_kept_1.fn a1 a2 a3 a4 a5) ?_
  intro x1 hx1
  replace h := h x1 hx1
  refine awp_ret (then_r (then_r (?_)))
  exact ret_r (m := 0) (r := vb (decide (x1 ≥ (0 : Int)))) (objs := []) hk [.keep [4]] ⟨9, [(4, vb (decide (x1 ≥ (0 : Int))))], []⟩ (by kernel_rfl) (by kernel_rfl) (Nat.le_refl 0) ⟨decide (x1 ≥ (0 : Int)), rfl, rfl, h⟩
theorem ok_slices_ContainsFunc_Sfarkas_row_farkas_row__farkas_table_kept_1 (a1 : (List farkas_row)) (a2 : Bool) (a3 : (List Int)) (a4 : Int) (a5 : (List farkas_row)) (h : slices_ContainsFunc_Sfarkas_row_farkas_row__farkas_table_kept_1.pre a1 a2 a3 a4 a5) : OkC prog 93 [.d (.sl t_farkas_row) a1, .fn (.func 94) [] [.er [vb a2, .d (.sl (.int .i64)) a3], .er [vi a4, .d (.sl t_farkas_row) a5]]] (vb (slices_ContainsFunc_Sfarkas_row_farkas_row__farkas_table_kept_1.fn a1 a2 a3 a4 a5)) :=
  OkC.of call_slices_ContainsFunc_Sfarkas_row_farkas_row__farkas_table_kept_1 ((walk_slices_ContainsFunc_Sfarkas_row_farkas_row__farkas_table_kept_1 a1 a2 a3 a4 a5 _ (slices_ContainsFunc_Sfarkas_row_farkas_row__farkas_table_kept_1.spec a1 a2 a3 a4 a5 h)).mono fun r o ⟨x, hr, ho, hx⟩ => ⟨by rw [hr, hx], ho⟩) rfl rfl (fun _ => rfl)

noncomputable abbrev Bfarkas_table_kept_2 : Code := bodyOf Try.f97
theorem call_farkas_table_kept_2 : CallOk prog 97 := ⟨_, Try.func97, by kernel_rfl, by kernel_rfl⟩
theorem walk_farkas_table_kept_2 (a1 : Int) (Q : Bool → Prop) (h : farkas_table_kept_2.wp a1 Q) : VCalls prog 97 [vi a1] [] (fun r o => ∃ x, r = vb x ∧ o = [] ∧ Q x) := by
  refine vcalls_body tab Try.func97 (c := (spine (subC [0] Bfarkas_table_kept_2) [(spine (subC [1, 0] Bfarkas_table_kept_2) [.ret])])) (by kernel_rfl) (Nat.le_of_ble_eq_true (by kernel_rfl)) fun cx hd hi hk => ?_
  show AWp prog cx _ _ ⟨9, [(0, vi a1)], []⟩
  replace hk : cx.E.len = 0 := hk
  unfold farkas_table_kept_2.wp at h
  refine awp_spine ?_
  refine awp_rc tab [0] [] [] [] [] ⟨9, [(0, vi a1)], []⟩ (by kernel_rfl) (trivial) ?_
  refine then_n (spine_c ?_)
  refine awp_spine ?_
  refine awp_rc tab [2] [] [] [] [(!(decide (a1 < (-1073741824)))) = true → (!(decide (a1 < (-1073741824)))) = true ∧ True, (decide (a1 < (-1073741824))) = false → (!(decide (a1 < (-1073741824)))) = true] ⟨9, [(2, vb ((decide (a1 < (-1073741824))) || (decide (a1 > (1073741824 : Int)))))], []⟩ (by kernel_rfl) (AllP.of (fun hg => ⟨hg, trivial⟩) (AllP.of (fun hc => not_f hc) trivial)) ?_
  refine then_n (spine_c ?_)
  refine awp_ret (then_r (then_r (?_)))
  exact ret_r (m := 0) (r := vb ((decide (a1 < (-1073741824))) || (decide (a1 > (1073741824 : Int))))) (objs := []) hk [.keep [2]] ⟨9, [(2, vb ((decide (a1 < (-1073741824))) || (decide (a1 > (1073741824 : Int)))))], []⟩ (by kernel_rfl) (by kernel_rfl) (Nat.le_refl 0) ⟨(decide (a1 < (-1073741824))) || (decide (a1 > (1073741824 : Int))), rfl, rfl, h⟩
theorem ok_farkas_table_kept_2 (a1 : Int) : OkC prog 97 [vi a1] (vb (farkas_table_kept_2.fn a1)) :=
  OkC.of call_farkas_table_kept_2 ((walk_farkas_table_kept_2 a1 _ (farkas_table_kept_2.spec a1)).mono fun r o ⟨x, hr, ho, hx⟩ => ⟨by rw [hr, hx], ho⟩) rfl rfl (fun _ => rfl)

noncomputable abbrev Bslices_IndexFunc_farkas_vector_int_int__farkas_table_kept_2 : Code := bodyOf Try.f101
theorem call_slices_IndexFunc_farkas_vector_int_int__farkas_table_kept_2 : CallOk prog 101 := ⟨_, Try.func101, by kernel_rfl, by kernel_rfl⟩
theorem walk_slices_IndexFunc_farkas_vector_int_int__farkas_table_kept_2 (a1 : (List Int)) (Q : Int → Prop) (h : slices_IndexFunc_farkas_vector_int_int__farkas_table_kept_2.wp a1 Q) : VCalls prog 101 [.d (.sl (.int .i64)) a1, .fn (.func 97) [] []] [] (fun r o => ∃ x, r = vi x ∧ o = [] ∧ Q x) := by
  refine vcalls_body tab Try.func101 (c := (spine (subC [0] Bslices_IndexFunc_farkas_vector_int_int__farkas_table_kept_2) [(spine (subC [1, 0, 0] Bslices_IndexFunc_farkas_vector_int_int__farkas_table_kept_2) [(.block 0 (.loop (spine (subC [1, 0, 1, 0, 0, 0] Bslices_IndexFunc_farkas_vector_int_int__farkas_table_kept_2) [(spine (.cond (.tmp 9) .skip (.exit 0)) [(spine (.block 1 (spine (subC [1, 0, 1, 0, 0, 1, 1, 0, 0, 0] Bslices_IndexFunc_farkas_vector_int_int__farkas_table_kept_2) [(spine (subC [1, 0, 1, 0, 0, 1, 1, 0, 0, 1, 0] Bslices_IndexFunc_farkas_vector_int_int__farkas_table_kept_2) [(.cond (.tmp 16) (spine (subC [1, 0, 1, 0, 0, 1, 1, 0, 0, 1, 1, 0, 0] Bslices_IndexFunc_farkas_vector_int_int__farkas_table_kept_2) [.ret]) .skip)])])) [(subC [1, 0, 1, 0, 0, 1, 1, 1] Bslices_IndexFunc_farkas_vector_int_int__farkas_table_kept_2)])])]))), (spine (subC [1, 1, 0] Bslices_IndexFunc_farkas_vector_int_int__farkas_table_kept_2) [.ret])])])) (by kernel_rfl) (Nat.le_of_ble_eq_true (by kernel_rfl)) fun cx hd hi hk => ?_
  show AWp prog cx _ _ ⟨19, [(0, .d (.sl (.int .i64)) a1), (1, .fn (.func 97) [] [])], []⟩
  replace hk : cx.E.len = 0 := hk
  unfold slices_IndexFunc_farkas_vector_int_int__farkas_table_kept_2.wp at h
  refine awp_spine ?_
  refine awp_rc tab [0, 1] [] [] [] [] ⟨19, [(0, .d (.sl (.int .i64)) a1), (1, .fn (.func 97) [] [])], []⟩ (by kernel_rfl) (trivial) ?_
  refine then_n (spine_c ?_)
  refine awp_spine ?_
  refine awp_rc tab [0, 1, 7, 8] [] [] [] [] ⟨19, [(0, .d (.sl (.int .i64)) a1), (1, .fn (.func 97) [] []), (7, vi (a1.length : Int)), (8, vi (0 : Int))], []⟩ (by kernel_rfl) (trivial) ?_
  refine then_n (spine_c ?_)
  refine awp_len 0 [] (T := (.int .i64)) (l := a1) (by kernel_rfl) fun hl => ?_
  replace h := h hl
  refine awp_block ?_
  obtain ⟨I4, ⟨n4a, hz4⟩, hI4⟩ := h
  refine awp_loopN (fun n s => ∃ (x2 : Int), I4 n x2 ∧ s = ⟨19, [(0, .d (.sl (.int .i64)) a1), (1, .fn (.func 97) [] []), (7, vi (a1.length : Int)), (8, vi x2)], []⟩) (n := n4a) (s0 := ⟨19, [(0, .d (.sl (.int .i64)) a1), (1, .fn (.func 97) [] []), (7, vi (a1.length : Int)), (8, vi (0 : Int))], []⟩) (wk_ghosts hk (l := [.keep [0, 1, 7, 8], .keep [0, 1, 7, 8], .keep [0, 1, 7, 8], .keep [0, 1, 7, 8]]) (by kernel_rfl)) ⟨0, hz4, rfl⟩ ?_
  rintro n4 s ⟨x2, hx4, rfl⟩
  have h := hI4 n4 x2 hx4
  refine awp_spine ?_
  refine awp_rc tab [0, 1, 7, 8, 9] [] [] [] [] ⟨19, [(0, .d (.sl (.int .i64)) a1), (1, .fn (.func 97) [] []), (7, vi (a1.length : Int)), (8, vi x2), (9, vb (decide (x2 < (a1.length : Int))))], []⟩ (by kernel_rfl) (trivial) ?_
  refine then_n (spine_c ?_)
  refine awp_spine ?_
  refine awp_cond (b := decide (x2 < (a1.length : Int))) (by kernel_rfl) (fun hb => ?_) (fun hb => ?_)
  · replace h := h.1 (of_decide_eq_true hb)
    refine awp_skip (then_n (spine_c ?_))
    refine awp_spine ?_
    refine awp_block ?_
    refine awp_spine ?_
    refine awp_rc tab [0, 1, 5, 7, 8] [] [] [] [] ⟨19, [(0, .d (.sl (.int .i64)) a1), (1, .fn (.func 97) [] []), (5, vi x2), (7, vi (a1.length : Int)), (8, vi x2)], []⟩ (by kernel_rfl) (trivial) ?_
    refine then_n (spine_c ?_)
    refine awp_spine ?_
    obtain ⟨o1, h⟩ := h
    refine awp_rc tab [0, 1, 5, 7, 8, 16] [] [(5, .dat (vb (farkas_table_kept_2.fn (gI a1 x2))))] [] [(0 : Int) ≤ x2 ∧ x2 < (a1.length : Int), OkC prog 97 [vi (gI a1 x2)] (vb (farkas_table_kept_2.fn (gI a1 x2)))] ⟨19, [(0, .d (.sl (.int .i64)) a1), (1, .fn (.func 97) [] []), (5, vi x2), (7, vi (a1.length : Int)), (8, vi x2), (16, vb (farkas_table_kept_2.fn (gI a1 x2)))], []⟩ (by kernel_rfl) (AllP.of (o1) (AllP.of (ok_farkas_table_kept_2 (gI a1 x2)) trivial)) ?_
    refine then_n (spine_c ?_)
    refine awp_cond (b := farkas_table_kept_2.fn (gI a1 x2)) (by kernel_rfl) (fun hb => ?_) (fun hb => ?_)
    · replace h := h.1 (hb)
      refine awp_spine ?_
      refine awp_rc tab [4] [] [] [] [] ⟨19, [(4, vi x2)], []⟩ (by kernel_rfl) (trivial) ?_
      refine then_n (spine_c ?_)
      refine awp_ret (then_r (then_r (then_r (blk_r (then_r (then_r (then_r (then_r (blk_r (then_r (then_r (?_))))))))))))
      exact ret_r (m := 0) (r := vi x2) (objs := []) hk [.keep [4]] ⟨19, [(4, vi x2)], []⟩ (by kernel_rfl) (by kernel_rfl) (Nat.le_refl 0) ⟨x2, rfl, rfl, h⟩
    · replace h := h.2 (hb)
      refine awp_skip (then_n (spine_e (then_n (spine_e (blk_n (then_n (spine_c ?_)))))))
      obtain ⟨o2, h⟩ := h
      refine awp_rc tab [0, 1, 7, 8] [] [] [] [-9223372036854775808 ≤ x2 + (1 : Int) ∧ x2 + (1 : Int) ≤ 9223372036854775807] ⟨19, [(0, .d (.sl (.int .i64)) a1), (1, .fn (.func 97) [] []), (7, vi (a1.length : Int)), (8, vi (x2 + (1 : Int)))], []⟩ (by kernel_rfl) (AllP.of (o2) trivial) ?_
      refine then_n (spine_e (then_n (spine_e (then_n (spine_e (then_n (?_)))))))
      obtain ⟨m, hm, h⟩ := h
      exact ⟨m, hm, ⟨19, [(0, .d (.sl (.int .i64)) a1), (1, .fn (.func 97) [] []), (7, vi (a1.length : Int)), (8, vi (x2 + (1 : Int)))], []⟩, wk_ghosts hk (l := [.keep [0, 1, 7, 8], .keep [0, 1, 7, 8], .keep [0, 1, 7, 8]]) (by kernel_rfl), x2 + (1 : Int), h, rfl⟩
  · replace h := h.2 (of_decide_eq_false hb)
    refine awp_exit (then_x (then_x (then_x (blk_h (then_n (spine_c ?_))))))
    refine awp_spine ?_
    refine awp_rc tab [4] [] [] [] [] ⟨19, [(4, vi (-1))], []⟩ (by kernel_rfl) (trivial) ?_
    refine then_n (spine_c ?_)
    refine awp_ret (then_r (then_r (then_r (?_))))
    exact ret_r (m := 0) (r := vi (-1)) (objs := []) hk [.keep [4]] ⟨19, [(4, vi (-1))], []⟩ (by kernel_rfl) (by kernel_rfl) (Nat.le_refl 0) ⟨(-1), rfl, rfl, h⟩
theorem ok_slices_IndexFunc_farkas_vector_int_int__farkas_table_kept_2 (a1 : (List Int)) : OkC prog 101 [.d (.sl (.int .i64)) a1, .fn (.func 97) [] []] (vi (slices_IndexFunc_farkas_vector_int_int__farkas_table_kept_2.fn a1)) :=
  OkC.of call_slices_IndexFunc_farkas_vector_int_int__farkas_table_kept_2 ((walk_slices_IndexFunc_farkas_vector_int_int__farkas_table_kept_2 a1 _ (slices_IndexFunc_farkas_vector_int_int__farkas_table_kept_2.spec a1)).mono fun r o ⟨x, hr, ho, hx⟩ => ⟨by rw [hr, hx], ho⟩) rfl rfl (fun _ => rfl)

noncomputable abbrev Bslices_ContainsFunc_farkas_vector_int_int__farkas_table_kept_2 : Code := bodyOf Try.f96
theorem call_slices_ContainsFunc_farkas_vector_int_int__farkas_table_kept_2 : CallOk prog 96 := ⟨_, Try.func96, by kernel_rfl, by kernel_rfl⟩
theorem walk_slices_ContainsFunc_farkas_vector_int_int__farkas_table_kept_2 (a1 : (List Int)) (Q : Bool → Prop) (h : slices_ContainsFunc_farkas_vector_int_int__farkas_table_kept_2.wp a1 Q) : VCalls prog 96 [.d (.sl (.int .i64)) a1, .fn (.func 97) [] []] [] (fun r o => ∃ x, r = vb x ∧ o = [] ∧ Q x) := by
  refine vcalls_body tab Try.func96 (c := (spine (subC [0] Bslices_ContainsFunc_farkas_vector_int_int__farkas_table_kept_2) [(spine (subC [1, 0] Bslices_ContainsFunc_farkas_vector_int_int__farkas_table_kept_2) [.ret])])) (by kernel_rfl) (Nat.le_of_ble_eq_true (by kernel_rfl)) fun cx hd hi hk => ?_
  show AWp prog cx _ _ ⟨9, [(0, .d (.sl (.int .i64)) a1), (1, .fn (.func 97) [] [])], []⟩
  replace hk : cx.E.len = 0 := hk
  unfold slices_ContainsFunc_farkas_vector_int_int__farkas_table_kept_2.wp at h
  refine awp_spine ?_
  refine awp_rc tab [0, 1] [] [] [] [] ⟨9, [(0, .d (.sl (.int .i64)) a1), (1, .fn (.func 97) [] [])], []⟩ (by kernel_rfl) (trivial) ?_
  refine then_n (spine_c ?_)
  refine awp_spine ?_
  refine awp_rc tab [4] [] [(2, .dat (vi (slices_IndexFunc_farkas_vector_int_int__farkas_table_kept_2.fn a1)))] [] [OkC prog 101 [.d (.sl (.int .i64)) a1, .fn (.func 97) [] []] (vi (slices_IndexFunc_farkas_vector_int_int__farkas_table_kept_2.fn a1))] ⟨9, [(4, vb (decide ((slices_IndexFunc_farkas_vector_int_int__farkas_table_kept_2.fn a1) ≥ (0 : Int))))], []⟩ (by kernel_rfl) (AllP.of (ok_slices_IndexFunc_farkas_vector_int_int__farkas_table_kept_2 a1) trivial) ?_
  refine then_n (spine_c ?_)
  refine awp_abs (fun (x1 : Int) => ⟨9, [(4, vb (decide (x1 ≥ (0 : Int))))], []⟩) (slices_IndexFunc_farkas_vector_int_int__farkas_table_kept_2.fn a1) ?_
  intro x1 hx1
  replace h := h x1 hx1
  refine awp_ret (then_r (then_r (?_)))
  exact ret_r (m := 0) (r := vb (decide (x1 ≥ (0 : Int)))) (objs := []) hk [.keep [4]] ⟨9, [(4, vb (decide (x1 ≥ (0 : Int))))], []⟩ (by kernel_rfl) (by kernel_rfl) (Nat.le_refl 0) ⟨decide (x1 ≥ (0 : Int)), rfl, rfl, h⟩
theorem ok_slices_ContainsFunc_farkas_vector_int_int__farkas_table_kept_2 (a1 : (List Int)) : OkC prog 96 [.d (.sl (.int .i64)) a1, .fn (.func 97) [] []] (vb (slices_ContainsFunc_farkas_vector_int_int__farkas_table_kept_2.fn a1)) :=
  OkC.of call_slices_ContainsFunc_farkas_vector_int_int__farkas_table_kept_2 ((walk_slices_ContainsFunc_farkas_vector_int_int__farkas_table_kept_2 a1 _ (slices_ContainsFunc_farkas_vector_int_int__farkas_table_kept_2.spec a1)).mono fun r o ⟨x, hr, ho, hx⟩ => ⟨by rw [hr, hx], ho⟩) rfl rfl (fun _ => rfl)

noncomputable abbrev Bfarkas_table_kept : Code := bodyOf Try.f80
theorem call_farkas_table_kept : CallOk prog 80 := ⟨_, Try.func80, by kernel_rfl, by kernel_rfl⟩
theorem walk_farkas_table_kept (a1 : farkas_table) (a2 : (List farkas_row)) (Q : farkas_table × Int → Prop) (h : farkas_table_kept.wp a1 a2 Q) : VCalls prog 80 [.agg [vi a1.1, .d (.sl t_farkas_row) a1.2], .d (.sl t_farkas_row) a2] [] (fun r o => ∃ x, r = .tup [.agg [vi x.1.1, .d (.sl t_farkas_row) x.1.2], vi x.2] ∧ o = [] ∧ Q x) := by
  refine vcalls_body tab Try.func80 (c := (spine (subC [0] Bfarkas_table_kept) [(spine (subC [1, 0] Bfarkas_table_kept) [(spine (subC [1, 1, 0, 0] Bfarkas_table_kept) [(.block 0 (.loop (spine (subC [1, 1, 0, 1, 0, 0, 0] Bfarkas_table_kept) [(spine (.cond (.tmp 17) .skip (.exit 0)) [(spine (.block 1 (spine (subC [1, 1, 0, 1, 0, 0, 1, 1, 0, 0, 0] Bfarkas_table_kept) [(spine (subC [1, 1, 0, 1, 0, 0, 1, 1, 0, 0, 1, 0] Bfarkas_table_kept) [(spine (subC [1, 1, 0, 1, 0, 0, 1, 1, 0, 0, 1, 1, 0] Bfarkas_table_kept) [(.cond (.tmp 26) (subC [1, 1, 0, 1, 0, 0, 1, 1, 0, 0, 1, 1, 1, 0] Bfarkas_table_kept) .skip)])])])) [(subC [1, 1, 0, 1, 0, 0, 1, 1, 1] Bfarkas_table_kept)])])]))), (spine (subC [1, 1, 1, 0, 0] Bfarkas_table_kept) [(.cond (.tmp 37) (spine (subC [1, 1, 1, 0, 1, 0, 0] Bfarkas_table_kept) [.ret]) .skip), (spine (subC [1, 1, 1, 1, 0, 0] Bfarkas_table_kept) [(.block 2 (.loop (spine (subC [1, 1, 1, 1, 0, 1, 0, 0, 0] Bfarkas_table_kept) [(spine (.cond (.tmp 43) .skip (.exit 2)) [(spine (.block 3 (spine (subC [1, 1, 1, 1, 0, 1, 0, 0, 1, 1, 0, 0, 0] Bfarkas_table_kept) [(spine (subC [1, 1, 1, 1, 0, 1, 0, 0, 1, 1, 0, 0, 1, 0] Bfarkas_table_kept) [(.cond (.tmp 48) (spine (subC [1, 1, 1, 1, 0, 1, 0, 0, 1, 1, 0, 0, 1, 1, 0, 0] Bfarkas_table_kept) [.ret]) .skip)])])) [(subC [1, 1, 1, 1, 0, 1, 0, 0, 1, 1, 1] Bfarkas_table_kept)])])]))), (spine (subC [1, 1, 1, 1, 1, 0] Bfarkas_table_kept) [.ret])])])])])])) (by kernel_rfl) (Nat.le_of_ble_eq_true (by kernel_rfl)) fun cx hd hi hk => ?_
  show AWp prog cx _ _ ⟨52, [(0, .agg [vi a1.1, .d (.sl t_farkas_row) a1.2]), (1, .d (.sl t_farkas_row) a2)], []⟩
  replace hk : cx.E.len = 0 := hk
  unfold farkas_table_kept.wp at h
  refine awp_spine ?_
  refine awp_rc tab [1, 2, 4] [] [] [0] [] ⟨52, [(1, .d (.sl t_farkas_row) a2), (2, .er [vi a1.1, .d (.sl t_farkas_row) a1.2]), (4, .ref 0 0 0)], [.box [vi (0 : Int), .nils]]⟩ (by kernel_rfl) (trivial) ?_
  refine then_n (spine_c ?_)
  refine awp_spine ?_
  refine awp_rc tab [1, 2, 4, 6] [] [] [] [] ⟨52, [(1, .d (.sl t_farkas_row) a2), (2, .er [vi a1.1, .d (.sl t_farkas_row) a1.2]), (4, .ref 0 0 0), (6, .ref 1 0 0)], [.box [vi (0 : Int), .nils], .box [vi a1.1, .nils]]⟩ (by kernel_rfl) (trivial) ?_
  refine then_n (spine_c ?_)
  refine awp_spine ?_
  refine awp_rc tab [2, 4, 6, 14, 15, 16] [] [] [] [] ⟨52, [(2, .er [vi a1.1, .d (.sl t_farkas_row) a1.2]), (4, .ref 0 0 0), (6, .ref 1 0 0), (14, .d (.sl t_farkas_row) a2), (15, vi (a2.length : Int)), (16, vi (0 : Int))], [.box [vi (0 : Int), .nils], .box [vi a1.1, .nils]]⟩ (by kernel_rfl) (trivial) ?_
  refine then_n (spine_c ?_)
  refine awp_len 14 [] (T := t_farkas_row) (l := a2) (by kernel_rfl) fun hl => ?_
  replace h := h hl
  refine awp_block ?_
  obtain ⟨I7, ⟨n7a, hz7⟩, hI7⟩ := h
  refine awp_loopN (fun n s => ∃ (x3 : Int) (x4 : (List farkas_row)), I7 n x3 x4 ∧ s = ⟨52, [(2, .er [vi a1.1, .d (.sl t_farkas_row) a1.2]), (4, .ref 0 0 0), (6, .ref 1 0 0), (14, .d (.sl t_farkas_row) a2), (15, vi (a2.length : Int)), (16, vi x3)], [.box [vi (0 : Int), .nils], .box [vi a1.1, .osl 2 0], .row t_farkas_row x4 0]⟩) (n := n7a) (s0 := ⟨52, [(2, .er [vi a1.1, .d (.sl t_farkas_row) a1.2]), (4, .ref 0 0 0), (6, .ref 1 0 0), (14, .d (.sl t_farkas_row) a2), (15, vi (a2.length : Int)), (16, vi (0 : Int))], [.box [vi (0 : Int), .nils], .box [vi a1.1, .osl 2 0], .row t_farkas_row ([] : List farkas_row) 0]⟩) (wk_ghosts hk (l := [.keep [2, 4, 6, 14, 15, 16], .adoptBox 1 1 t_farkas_row, .keep [2, 4, 6, 14, 15, 16], .keep [2, 4, 6, 14, 15, 16], .keep [2, 4, 6, 14, 15, 16]]) (by kernel_rfl)) ⟨0, ([] : List farkas_row), hz7, rfl⟩ ?_
  rintro n7 s ⟨x3, x4, hx7, rfl⟩
  have h := hI7 n7 x3 x4 hx7
  refine awp_spine ?_
  refine awp_rc tab [2, 4, 6, 14, 15, 16, 17] [] [] [] [] ⟨52, [(2, .er [vi a1.1, .d (.sl t_farkas_row) a1.2]), (4, .ref 0 0 0), (6, .ref 1 0 0), (14, .d (.sl t_farkas_row) a2), (15, vi (a2.length : Int)), (16, vi x3), (17, vb (decide (x3 < (a2.length : Int))))], [.box [vi (0 : Int), .nils], .box [vi a1.1, .osl 2 0], .row t_farkas_row x4 0]⟩ (by kernel_rfl) (trivial) ?_
  refine then_n (spine_c ?_)
  refine awp_spine ?_
  refine awp_cond (b := decide (x3 < (a2.length : Int))) (by kernel_rfl) (fun hb => ?_) (fun hb => ?_)
  · replace h := h.1 (of_decide_eq_true hb)
    refine awp_skip (then_n (spine_c ?_))
    refine awp_spine ?_
    refine awp_block ?_
    refine awp_spine ?_
    obtain ⟨o1, h⟩ := h
    refine awp_rc tab [2, 4, 6, 8, 14, 15, 16] [] [] [] [(0 : Int) ≤ x3 ∧ x3 < (a2.length : Int)] ⟨52, [(2, .er [vi a1.1, .d (.sl t_farkas_row) a1.2]), (4, .ref 0 0 0), (6, .ref 1 0 0), (8, .ref 3 0 0), (14, .d (.sl t_farkas_row) a2), (15, vi (a2.length : Int)), (16, vi x3)], [.box [vi (0 : Int), .nils], .box [vi a1.1, .osl 2 0], .row t_farkas_row x4 0, .box [vb ((a2.getD (Int.toNat x3) d_farkas_row).1), .d (.sl (.int .i64)) ((a2.getD (Int.toNat x3) d_farkas_row).2)]]⟩ (by kernel_rfl) (AllP.of (o1) trivial) ?_
    refine then_n (spine_c ?_)
    refine awp_abs (fun (x8 : farkas_row) => ⟨52, [(2, .er [vi a1.1, .d (.sl t_farkas_row) a1.2]), (4, .ref 0 0 0), (6, .ref 1 0 0), (8, .ref 3 0 0), (14, .d (.sl t_farkas_row) a2), (15, vi (a2.length : Int)), (16, vi x3)], [.box [vi (0 : Int), .nils], .box [vi a1.1, .osl 2 0], .row t_farkas_row x4 0, .box [vb x8.1, .d (.sl (.int .i64)) x8.2]]⟩) (a2.getD (Int.toNat x3) d_farkas_row) ?_
    intro x8 hx8
    replace h := h x8 hx8
    refine awp_spine ?_
    obtain ⟨o2, h⟩ := h
    refine awp_rc tab [2, 4, 6, 8, 14, 15, 16] [] [(1, .dat (.agg [vb ((farkas_row_reduced.fn x8).1), .d (.sl (.int .i64)) ((farkas_row_reduced.fn x8).2)]))] [] [OkC prog 92 [.agg [vb x8.1, .d (.sl (.int .i64)) x8.2]] (.agg [vb ((farkas_row_reduced.fn x8).1), .d (.sl (.int .i64)) ((farkas_row_reduced.fn x8).2)])] ⟨52, [(2, .er [vi a1.1, .d (.sl t_farkas_row) a1.2]), (4, .ref 0 0 0), (6, .ref 1 0 0), (8, .ref 3 0 0), (14, .d (.sl t_farkas_row) a2), (15, vi (a2.length : Int)), (16, vi x3)], [.box [vi (0 : Int), .nils], .box [vi a1.1, .osl 2 0], .row t_farkas_row x4 0, .box [vb ((farkas_row_reduced.fn x8).1), .d (.sl (.int .i64)) ((farkas_row_reduced.fn x8).2)]]⟩ (by kernel_rfl) (AllP.of (ok_farkas_row_reduced x8 (o2)) trivial) ?_
    refine then_n (spine_c ?_)
    refine awp_abs (fun (x9 : farkas_row) => ⟨52, [(2, .er [vi a1.1, .d (.sl t_farkas_row) a1.2]), (4, .ref 0 0 0), (6, .ref 1 0 0), (8, .ref 3 0 0), (14, .d (.sl t_farkas_row) a2), (15, vi (a2.length : Int)), (16, vi x3)], [.box [vi (0 : Int), .nils], .box [vi a1.1, .osl 2 0], .row t_farkas_row x4 0, .box [vb x9.1, .d (.sl (.int .i64)) x9.2]]⟩) (farkas_row_reduced.fn x8) ?_
    intro x9 hx9
    replace h := h x9 hx9
    refine awp_spine ?_
    obtain ⟨o3, h⟩ := h
    refine awp_rc tab [2, 4, 6, 8, 14, 15, 16, 26] [] [(3, .dat (vb (slices_ContainsFunc_Sfarkas_row_farkas_row__farkas_table_kept_1.fn x4 x9.1 x9.2 a1.1 a1.2)))] [] [OkA prog 93 [.osl 2 0, .fn (.func 94) [] [.ref 3 0 0, .er [vi a1.1, .d (.sl t_farkas_row) a1.2]]] [.box [vi (0 : Int), .nils], .box [vi a1.1, .osl 2 0], .row t_farkas_row x4 0, .box [vb x9.1, .d (.sl (.int .i64)) x9.2]] (vb (slices_ContainsFunc_Sfarkas_row_farkas_row__farkas_table_kept_1.fn x4 x9.1 x9.2 a1.1 a1.2))] ⟨52, [(2, .er [vi a1.1, .d (.sl t_farkas_row) a1.2]), (4, .ref 0 0 0), (6, .ref 1 0 0), (8, .ref 3 0 0), (14, .d (.sl t_farkas_row) a2), (15, vi (a2.length : Int)), (16, vi x3), (26, vb (!(slices_ContainsFunc_Sfarkas_row_farkas_row__farkas_table_kept_1.fn x4 x9.1 x9.2 a1.1 a1.2)))], [.box [vi (0 : Int), .nils], .box [vi a1.1, .osl 2 0], .row t_farkas_row x4 0, .box [vb x9.1, .d (.sl (.int .i64)) x9.2]]⟩ (by kernel_rfl) (AllP.of (OkC.lent 1 (by kernel_rfl) rfl rfl (ok_slices_ContainsFunc_Sfarkas_row_farkas_row__farkas_table_kept_1 x4 x9.1 x9.2 a1.1 a1.2 (o3))) trivial) ?_
    refine then_n (spine_c ?_)
    refine awp_cond (b := !(slices_ContainsFunc_Sfarkas_row_farkas_row__farkas_table_kept_1.fn x4 x9.1 x9.2 a1.1 a1.2)) (by kernel_rfl) (fun hb => ?_) (fun hb => ?_)
    · replace h := h.1 ((nt hb))
      obtain ⟨o4, h⟩ := h
      refine awp_rc tab [2, 4, 6, 14, 15, 16] [] [] [3] [1 * 2 ≤ 16777216, (x4.length + [x9].length) * 32 ≤ 140737488355328 ∧ x4.length + [x9].length ≤ 9223372036854775807] ⟨52, [(2, .er [vi a1.1, .d (.sl t_farkas_row) a1.2]), (4, .ref 0 0 0), (6, .ref 1 0 0), (14, .d (.sl t_farkas_row) a2), (15, vi (a2.length : Int)), (16, vi x3)], [.box [vi (0 : Int), .nils], .box [vi a1.1, .osl 2 1], .row t_farkas_row (x4 ++ [x9]) 1, .box [vb x9.1, .d (.sl (.int .i64)) x9.2]]⟩ (by kernel_rfl) (AllP.of (by decide) (AllP.of (o4) trivial)) ?_
      refine then_n (spine_e (then_n (spine_e (then_n (spine_e (blk_n (then_n (spine_c ?_))))))))
      obtain ⟨o5, h⟩ := h
      refine awp_rc tab [2, 4, 6, 14, 15, 16] [] [] [] [-9223372036854775808 ≤ x3 + (1 : Int) ∧ x3 + (1 : Int) ≤ 9223372036854775807] ⟨52, [(2, .er [vi a1.1, .d (.sl t_farkas_row) a1.2]), (4, .ref 0 0 0), (6, .ref 1 0 0), (14, .d (.sl t_farkas_row) a2), (15, vi (a2.length : Int)), (16, vi (x3 + (1 : Int)))], [.box [vi (0 : Int), .nils], .box [vi a1.1, .osl 2 1], .row t_farkas_row (x4 ++ [x9]) 1, .box [vb x9.1, .d (.sl (.int .i64)) x9.2]]⟩ (by kernel_rfl) (AllP.of (o5) trivial) ?_
      refine then_n (spine_e (then_n (spine_e (then_n (spine_e (then_n (?_)))))))
      obtain ⟨m, hm, h⟩ := h
      exact ⟨m, hm, ⟨52, [(2, .er [vi a1.1, .d (.sl t_farkas_row) a1.2]), (4, .ref 0 0 0), (6, .ref 1 0 0), (14, .d (.sl t_farkas_row) a2), (15, vi (a2.length : Int)), (16, vi (x3 + (1 : Int)))], [.box [vi (0 : Int), .nils], .box [vi a1.1, .osl 2 0], .row t_farkas_row (x4 ++ [x9]) 0]⟩, wk_ghosts hk (l := [.keep [2, 4, 6, 14, 15, 16], .keep [2, 4, 6, 14, 15, 16], .cut 3, .reset 2, .keep [2, 4, 6, 14, 15, 16]]) (by kernel_rfl), x3 + (1 : Int), x4 ++ [x9], h, rfl⟩
    · replace h := h.2 ((nf hb))
      refine awp_skip (then_n (spine_e (then_n (spine_e (then_n (spine_e (blk_n (then_n (spine_c ?_)))))))))
      obtain ⟨o6, h⟩ := h
      refine awp_rc tab [2, 4, 6, 14, 15, 16] [] [] [] [-9223372036854775808 ≤ x3 + (1 : Int) ∧ x3 + (1 : Int) ≤ 9223372036854775807] ⟨52, [(2, .er [vi a1.1, .d (.sl t_farkas_row) a1.2]), (4, .ref 0 0 0), (6, .ref 1 0 0), (14, .d (.sl t_farkas_row) a2), (15, vi (a2.length : Int)), (16, vi (x3 + (1 : Int)))], [.box [vi (0 : Int), .nils], .box [vi a1.1, .osl 2 0], .row t_farkas_row x4 0, .box [vb x9.1, .d (.sl (.int .i64)) x9.2]]⟩ (by kernel_rfl) (AllP.of (o6) trivial) ?_
      refine then_n (spine_e (then_n (spine_e (then_n (spine_e (then_n (?_)))))))
      obtain ⟨m, hm, h⟩ := h
      exact ⟨m, hm, ⟨52, [(2, .er [vi a1.1, .d (.sl t_farkas_row) a1.2]), (4, .ref 0 0 0), (6, .ref 1 0 0), (14, .d (.sl t_farkas_row) a2), (15, vi (a2.length : Int)), (16, vi (x3 + (1 : Int)))], [.box [vi (0 : Int), .nils], .box [vi a1.1, .osl 2 0], .row t_farkas_row x4 0]⟩, wk_ghosts hk (l := [.keep [2, 4, 6, 14, 15, 16], .keep [2, 4, 6, 14, 15, 16], .cut 3, .keep [2, 4, 6, 14, 15, 16]]) (by kernel_rfl), x3 + (1 : Int), x4, h, rfl⟩
  · replace h := h.2 (of_decide_eq_false hb)
    refine awp_exit (then_x (then_x (then_x (blk_h (then_n (spine_c ?_))))))
    refine awp_spine ?_
    refine awp_rc tab [4, 6, 37] [] [] [] [] ⟨52, [(4, .ref 0 0 0), (6, .ref 1 0 0), (37, vb (decide ((x4.length : Int) > (400 : Int))))], [.box [vi (0 : Int), .nils], .box [vi a1.1, .osl 2 0], .row t_farkas_row x4 0]⟩ (by kernel_rfl) (trivial) ?_
    refine then_n (spine_c ?_)
    refine awp_cond (b := decide ((x4.length : Int) > (400 : Int))) (by kernel_rfl) (fun hb => ?_) (fun hb => ?_)
    · replace h := h.1 (of_decide_eq_true hb)
      refine awp_spine ?_
      refine awp_rc tab [4, 5] [] [] [] [] ⟨52, [(4, .ref 0 0 0), (5, vi (3 : Int))], [.box [vi (0 : Int), .nils], .box [vi a1.1, .osl 2 0], .row t_farkas_row x4 0]⟩ (by kernel_rfl) (trivial) ?_
      refine then_n (spine_c ?_)
      refine awp_ret (then_r (then_r (then_r (then_r (then_r (?_))))))
      exact ret_r (m := 0) (r := .tup [.agg [vi ((((0, ([] : List farkas_row)), 3).1).1), .d (.sl t_farkas_row) ((((0, ([] : List farkas_row)), 3).1).2)], vi (((0, ([] : List farkas_row)), 3).2)]) (objs := []) hk [.keep [4, 5], .nilBox 0 [1] t_farkas_row, .keep [4, 5]] ⟨52, [(4, .ref 0 0 0), (5, vi (3 : Int))], [.box [vi (0 : Int), .d (.sl t_farkas_row) ([] : List farkas_row)], .box [vi a1.1, .osl 2 0], .row t_farkas_row x4 0]⟩ (by kernel_rfl) (by kernel_rfl) (Nat.le_refl 0) ⟨((0, ([] : List farkas_row)), 3), rfl, rfl, h⟩
    · replace h := h.2 (of_decide_eq_false hb)
      refine awp_skip (then_n (spine_c ?_))
      refine awp_spine ?_
      refine awp_rc tab [4, 6, 40, 41, 42] [] [] [] [] ⟨52, [(4, .ref 0 0 0), (6, .ref 1 0 0), (40, .osl 2 0), (41, vi (x4.length : Int)), (42, vi (0 : Int))], [.box [vi (0 : Int), .nils], .box [vi a1.1, .osl 2 0], .row t_farkas_row x4 0]⟩ (by kernel_rfl) (trivial) ?_
      refine then_n (spine_c ?_)
      refine awp_block ?_
      obtain ⟨I13, ⟨n13a, hz13⟩, hI13⟩ := h
      refine awp_loopN (fun n s => ∃ (x11 : Int), I13 n x11 ∧ s = ⟨52, [(4, .ref 0 0 0), (6, .ref 1 0 0), (40, .osl 2 0), (41, vi (x4.length : Int)), (42, vi x11)], [.box [vi (0 : Int), .nils], .box [vi a1.1, .osl 2 0], .row t_farkas_row x4 0]⟩) (n := n13a) (s0 := ⟨52, [(4, .ref 0 0 0), (6, .ref 1 0 0), (40, .osl 2 0), (41, vi (x4.length : Int)), (42, vi (0 : Int))], [.box [vi (0 : Int), .nils], .box [vi a1.1, .osl 2 0], .row t_farkas_row x4 0]⟩) (wk_ghosts hk (l := [.keep [4, 6, 40, 41, 42], .keep [4, 6, 40, 41, 42], .keep [4, 6, 40, 41, 42], .keep [4, 6, 40, 41, 42]]) (by kernel_rfl)) ⟨0, hz13, rfl⟩ ?_
      rintro n13 s ⟨x11, hx13, rfl⟩
      have h := hI13 n13 x11 hx13
      refine awp_spine ?_
      refine awp_rc tab [4, 6, 40, 41, 42, 43] [] [] [] [] ⟨52, [(4, .ref 0 0 0), (6, .ref 1 0 0), (40, .osl 2 0), (41, vi (x4.length : Int)), (42, vi x11), (43, vb (decide (x11 < (x4.length : Int))))], [.box [vi (0 : Int), .nils], .box [vi a1.1, .osl 2 0], .row t_farkas_row x4 0]⟩ (by kernel_rfl) (trivial) ?_
      refine then_n (spine_c ?_)
      refine awp_spine ?_
      refine awp_cond (b := decide (x11 < (x4.length : Int))) (by kernel_rfl) (fun hb => ?_) (fun hb => ?_)
      · replace h := h.1 (of_decide_eq_true hb)
        refine awp_skip (then_n (spine_c ?_))
        refine awp_spine ?_
        refine awp_block ?_
        refine awp_spine ?_
        obtain ⟨o7, o8, h⟩ := h
        refine awp_rc tab [4, 6, 10, 40, 41, 42] [] [] [] [(0 : Int) ≤ x11 ∧ x11 < (x4.length : Int), Int.toNat x11 < x4.length] ⟨52, [(4, .ref 0 0 0), (6, .ref 1 0 0), (10, .ref 3 0 0), (40, .osl 2 0), (41, vi (x4.length : Int)), (42, vi x11)], [.box [vi (0 : Int), .nils], .box [vi a1.1, .osl 2 0], .row t_farkas_row x4 0, .box [vb ((x4.getD (Int.toNat x11) d_farkas_row).1), .d (.sl (.int .i64)) ((x4.getD (Int.toNat x11) d_farkas_row).2)]]⟩ (by kernel_rfl) (AllP.of (o7) (AllP.of (o8) trivial)) ?_
        refine then_n (spine_c ?_)
        refine awp_abs (fun (x14 : farkas_row) => ⟨52, [(4, .ref 0 0 0), (6, .ref 1 0 0), (10, .ref 3 0 0), (40, .osl 2 0), (41, vi (x4.length : Int)), (42, vi x11)], [.box [vi (0 : Int), .nils], .box [vi a1.1, .osl 2 0], .row t_farkas_row x4 0, .box [vb x14.1, .d (.sl (.int .i64)) x14.2]]⟩) (x4.getD (Int.toNat x11) d_farkas_row) ?_
        intro x14 hx14
        replace h := h x14 hx14
        refine awp_spine ?_
        refine awp_rc tab [4, 6, 40, 41, 42, 48] [] [(2, .dat (vb (slices_ContainsFunc_farkas_vector_int_int__farkas_table_kept_2.fn x14.2)))] [] [OkC prog 96 [.d (.sl (.int .i64)) x14.2, .fn (.func 97) [] []] (vb (slices_ContainsFunc_farkas_vector_int_int__farkas_table_kept_2.fn x14.2))] ⟨52, [(4, .ref 0 0 0), (6, .ref 1 0 0), (40, .osl 2 0), (41, vi (x4.length : Int)), (42, vi x11), (48, vb (slices_ContainsFunc_farkas_vector_int_int__farkas_table_kept_2.fn x14.2))], [.box [vi (0 : Int), .nils], .box [vi a1.1, .osl 2 0], .row t_farkas_row x4 0, .box [vb x14.1, .d (.sl (.int .i64)) x14.2]]⟩ (by kernel_rfl) (AllP.of (ok_slices_ContainsFunc_farkas_vector_int_int__farkas_table_kept_2 x14.2) trivial) ?_
        refine then_n (spine_c ?_)
        refine awp_cond (b := slices_ContainsFunc_farkas_vector_int_int__farkas_table_kept_2.fn x14.2) (by kernel_rfl) (fun hb => ?_) (fun hb => ?_)
        · replace h := h.1 (hb)
          refine awp_spine ?_
          refine awp_rc tab [4, 5] [] [] [] [] ⟨52, [(4, .ref 0 0 0), (5, vi (3 : Int))], [.box [vi (0 : Int), .nils], .box [vi a1.1, .osl 2 0], .row t_farkas_row x4 0, .box [vb x14.1, .d (.sl (.int .i64)) x14.2]]⟩ (by kernel_rfl) (trivial) ?_
          refine then_n (spine_c ?_)
          refine awp_ret (then_r (then_r (then_r (blk_r (then_r (then_r (then_r (then_r (blk_r (then_r (then_r (then_r (then_r (then_r (?_)))))))))))))))
          exact ret_r (m := 0) (r := .tup [.agg [vi ((((0, ([] : List farkas_row)), 3).1).1), .d (.sl t_farkas_row) ((((0, ([] : List farkas_row)), 3).1).2)], vi (((0, ([] : List farkas_row)), 3).2)]) (objs := []) hk [.keep [4, 5], .nilBox 0 [1] t_farkas_row, .keep [4, 5]] ⟨52, [(4, .ref 0 0 0), (5, vi (3 : Int))], [.box [vi (0 : Int), .d (.sl t_farkas_row) ([] : List farkas_row)], .box [vi a1.1, .osl 2 0], .row t_farkas_row x4 0, .box [vb x14.1, .d (.sl (.int .i64)) x14.2]]⟩ (by kernel_rfl) (by kernel_rfl) (Nat.le_refl 0) ⟨((0, ([] : List farkas_row)), 3), rfl, rfl, h⟩
        · replace h := h.2 (hb)
          refine awp_skip (then_n (spine_e (then_n (spine_e (blk_n (then_n (spine_c ?_)))))))
          obtain ⟨o9, h⟩ := h
          refine awp_rc tab [4, 6, 40, 41, 42] [] [] [] [-9223372036854775808 ≤ x11 + (1 : Int) ∧ x11 + (1 : Int) ≤ 9223372036854775807] ⟨52, [(4, .ref 0 0 0), (6, .ref 1 0 0), (40, .osl 2 0), (41, vi (x4.length : Int)), (42, vi (x11 + (1 : Int)))], [.box [vi (0 : Int), .nils], .box [vi a1.1, .osl 2 0], .row t_farkas_row x4 0, .box [vb x14.1, .d (.sl (.int .i64)) x14.2]]⟩ (by kernel_rfl) (AllP.of (o9) trivial) ?_
          refine then_n (spine_e (then_n (spine_e (then_n (spine_e (then_n (?_)))))))
          obtain ⟨m, hm, h⟩ := h
          exact ⟨m, hm, ⟨52, [(4, .ref 0 0 0), (6, .ref 1 0 0), (40, .osl 2 0), (41, vi (x4.length : Int)), (42, vi (x11 + (1 : Int)))], [.box [vi (0 : Int), .nils], .box [vi a1.1, .osl 2 0], .row t_farkas_row x4 0]⟩, wk_ghosts hk (l := [.keep [4, 6, 40, 41, 42], .keep [4, 6, 40, 41, 42], .cut 3, .keep [4, 6, 40, 41, 42]]) (by kernel_rfl), x11 + (1 : Int), h, rfl⟩
      · replace h := h.2 (of_decide_eq_false hb)
        refine awp_exit (then_x (then_x (then_x (blk_h (then_n (spine_c ?_))))))
        refine awp_spine ?_
        refine awp_rc tab [4, 5] [] [] [] [] ⟨52, [(4, .ref 0 0 0), (5, vi (0 : Int))], [.box [vi a1.1, .osl 2 0], .box [vi a1.1, .osl 2 0], .row t_farkas_row x4 0]⟩ (by kernel_rfl) (trivial) ?_
        refine then_n (spine_c ?_)
        refine awp_ret (then_r (then_r (then_r (then_r (then_r (then_r (?_)))))))
        exact ret_r (m := 0) (r := .tup [.agg [vi ((((a1.1, x4), 0).1).1), .d (.sl t_farkas_row) ((((a1.1, x4), 0).1).2)], vi (((a1.1, x4), 0).2)]) (objs := []) hk [.keep [4, 5], .freeze 2] ⟨52, [(4, .ref 0 0 0), (5, vi (0 : Int))], [.box [vi a1.1, .d (.sl t_farkas_row) x4], .box [vi a1.1, .d (.sl t_farkas_row) x4], .dead]⟩ (by kernel_rfl) (by kernel_rfl) (Nat.le_refl 0) ⟨((a1.1, x4), 0), rfl, rfl, h⟩
theorem ok_farkas_table_kept (a1 : farkas_table) (a2 : (List farkas_row)) (h : farkas_table_kept.pre a1 a2) : OkC prog 80 [.agg [vi a1.1, .d (.sl t_farkas_row) a1.2], .d (.sl t_farkas_row) a2] (.tup [.agg [vi (((farkas_table_kept.fn a1 a2).1).1), .d (.sl t_farkas_row) (((farkas_table_kept.fn a1 a2).1).2)], vi ((farkas_table_kept.fn a1 a2).2)]) :=
  OkC.of call_farkas_table_kept ((walk_farkas_table_kept a1 a2 _ (farkas_table_kept.spec a1 a2 h)).mono fun r o ⟨x, hr, ho, hx⟩ => ⟨by rw [hr, hx], ho⟩) rfl rfl (fun _ => rfl)

noncomputable abbrev Bfarkas_table_solver : Code := bodyOf Try.f78
theorem call_farkas_table_solver : CallOk prog 78 := ⟨_, Try.func78, by kernel_rfl, by kernel_rfl⟩
theorem walk_farkas_table_solver (a1 : farkas_table) (a2 : Int) (Q : Int → Prop) (h : farkas_table_solver.wp a1 a2 Q) : VCalls prog 78 [.agg [vi a1.1, .d (.sl t_farkas_row) a1.2], vi a2] [] (fun r o => ∃ x, r = vi x ∧ o = [] ∧ Q x) := by
  refine vcalls_body tab Try.func78 (c := (spine (subC [0] Bfarkas_table_solver) [(spine (subC [1, 0] Bfarkas_table_solver) [(spine (subC [1, 1, 0, 0] Bfarkas_table_solver) [(.block 0 (.loop (spine (subC [1, 1, 0, 1, 0, 0, 0] Bfarkas_table_solver) [(spine (.cond (.tmp 12) .skip (.exit 0)) [(spine (.block 1 (spine (subC [1, 1, 0, 1, 0, 0, 1, 1, 0, 0, 0] Bfarkas_table_solver) [(spine (subC [1, 1, 0, 1, 0, 0, 1, 1, 0, 0, 1, 0] Bfarkas_table_solver) [(.cond (.tmp 64) (subC [1, 1, 0, 1, 0, 0, 1, 1, 0, 0, 1, 1, 0] Bfarkas_table_solver) .skip)])])) [(subC [1, 1, 0, 1, 0, 0, 1, 1, 1] Bfarkas_table_solver)])])]))), (spine (subC [1, 1, 1, 0] Bfarkas_table_solver) [.ret])])])])) (by kernel_rfl) (Nat.le_of_ble_eq_true (by kernel_rfl)) fun cx hd hi hk => ?_
  show AWp prog cx _ _ ⟨68, [(0, .agg [vi a1.1, .d (.sl t_farkas_row) a1.2]), (1, vi a2)], []⟩
  replace hk : cx.E.len = 0 := hk
  unfold farkas_table_solver.wp at h
  refine awp_spine ?_
  refine awp_rc tab [1, 2] [] [] [0] [] ⟨68, [(1, vi a2), (2, .er [vi a1.1, .d (.sl t_farkas_row) a1.2])], []⟩ (by kernel_rfl) (trivial) ?_
  refine then_n (spine_c ?_)
  refine awp_spine ?_
  refine awp_rc tab [1, 2, 5] [] [] [] [] ⟨68, [(1, vi a2), (2, .er [vi a1.1, .d (.sl t_farkas_row) a1.2]), (5, vi (-1))], []⟩ (by kernel_rfl) (trivial) ?_
  refine then_n (spine_c ?_)
  refine awp_spine ?_
  refine awp_rc tab [1, 2, 5, 9, 10, 11] [] [] [] [] ⟨68, [(1, vi a2), (2, .er [vi a1.1, .d (.sl t_farkas_row) a1.2]), (5, vi (-1)), (9, .d (.sl t_farkas_row) a1.2), (10, vi (a1.2.length : Int)), (11, vi (0 : Int))], []⟩ (by kernel_rfl) (trivial) ?_
  refine then_n (spine_c ?_)
  refine awp_len 2 [1] (T := t_farkas_row) (l := a1.2) (by kernel_rfl) fun hl => ?_
  replace h := h hl
  refine awp_block ?_
  obtain ⟨I5, ⟨n5a, hz5⟩, hI5⟩ := h
  refine awp_loopN (fun n s => ∃ (x1 : Int) (x2 : Int), I5 n x1 x2 ∧ s = ⟨68, [(1, vi a2), (2, .er [vi a1.1, .d (.sl t_farkas_row) a1.2]), (5, vi x1), (9, .d (.sl t_farkas_row) a1.2), (10, vi (a1.2.length : Int)), (11, vi x2)], []⟩) (n := n5a) (s0 := ⟨68, [(1, vi a2), (2, .er [vi a1.1, .d (.sl t_farkas_row) a1.2]), (5, vi (-1)), (9, .d (.sl t_farkas_row) a1.2), (10, vi (a1.2.length : Int)), (11, vi (0 : Int))], []⟩) (wk_ghosts hk (l := [.keep [1, 2, 5, 9, 10, 11], .keep [1, 2, 5, 9, 10, 11], .keep [1, 2, 5, 9, 10, 11], .keep [1, 2, 5, 9, 10, 11]]) (by kernel_rfl)) ⟨(-1), 0, hz5, rfl⟩ ?_
  rintro n5 s ⟨x1, x2, hx5, rfl⟩
  have h := hI5 n5 x1 x2 hx5
  refine awp_spine ?_
  refine awp_rc tab [1, 2, 5, 9, 10, 11, 12] [] [] [] [] ⟨68, [(1, vi a2), (2, .er [vi a1.1, .d (.sl t_farkas_row) a1.2]), (5, vi x1), (9, .d (.sl t_farkas_row) a1.2), (10, vi (a1.2.length : Int)), (11, vi x2), (12, vb (decide (x2 < (a1.2.length : Int))))], []⟩ (by kernel_rfl) (trivial) ?_
  refine then_n (spine_c ?_)
  refine awp_spine ?_
  refine awp_cond (b := decide (x2 < (a1.2.length : Int))) (by kernel_rfl) (fun hb => ?_) (fun hb => ?_)
  · replace h := h.1 (of_decide_eq_true hb)
    refine awp_skip (then_n (spine_c ?_))
    refine awp_spine ?_
    refine awp_block ?_
    refine awp_spine ?_
    obtain ⟨o1, h⟩ := h
    refine awp_rc tab [1, 2, 5, 6, 7, 9, 10, 11] [] [] [] [(0 : Int) ≤ x2 ∧ x2 < (a1.2.length : Int)] ⟨68, [(1, vi a2), (2, .er [vi a1.1, .d (.sl t_farkas_row) a1.2]), (5, vi x1), (6, vi x2), (7, .ref 0 0 0), (9, .d (.sl t_farkas_row) a1.2), (10, vi (a1.2.length : Int)), (11, vi x2)], [.box [vb ((a1.2.getD (Int.toNat x2) d_farkas_row).1), .d (.sl (.int .i64)) ((a1.2.getD (Int.toNat x2) d_farkas_row).2)]]⟩ (by kernel_rfl) (AllP.of (o1) trivial) ?_
    refine then_n (spine_c ?_)
    refine awp_abs (fun (x6 : farkas_row) => ⟨68, [(1, vi a2), (2, .er [vi a1.1, .d (.sl t_farkas_row) a1.2]), (5, vi x1), (6, vi x2), (7, .ref 0 0 0), (9, .d (.sl t_farkas_row) a1.2), (10, vi (a1.2.length : Int)), (11, vi x2)], [.box [vb x6.1, .d (.sl (.int .i64)) x6.2]]⟩) (a1.2.getD (Int.toNat x2) d_farkas_row) ?_
    intro x6 hx6
    replace h := h x6 hx6
    refine awp_spine ?_
    obtain ⟨o2, o3, o4, o5, o6, o7, o8, o9, o10, h⟩ := h
    refine awp_dr tab mixed [1, 2, 5, 6, 9, 10, 11, 61, 62, 63, 64] [] [] [] ⟨[[], [0], [0, 1], [0, 1, 2], [0, 1, 2, 3], [0, 1, 2], [0, 1, 2, 3, 4, 5], [0, 1, 2, 3, 4, 5, 6], [0, 1, 2, 3, 4, 5, 6, 7], [0, 1, 2, 3, 4, 5, 6, 7, 8], [0, 1, 2, 3, 4, 5, 6, 7, 8, 9], [0, 1, 2, 3, 4, 5, 6, 7, 8, 9, 10], [0, 1, 2, 3, 4, 5, 6, 7, 8, 9, 10, 11], [0, 1, 2, 3, 4, 5, 6, 7, 8, 9, 10, 11, 12], [0, 1, 2, 3, 4, 5, 6, 7, 8, 9, 10, 11, 12, 13], [0, 1, 2, 3, 4, 5, 6, 7, 8, 9, 10, 11, 12, 13, 14], [0, 1, 2, 3, 4, 5, 6, 7, 8, 9, 10, 11, 12, 13], [0, 1, 2, 3, 4, 5, 6, 7, 8, 9, 10, 11, 12, 13, 14, 15, 16], [0, 1, 2, 3, 4, 5, 6, 7, 8, 9, 10, 11, 12, 13, 14, 15, 16, 17], [0, 1, 2, 3, 4, 5, 6, 7, 8, 9, 10, 11, 12, 13], [0, 1, 2, 3, 4, 5, 6, 7, 8, 9, 10, 11, 12, 13, 19], [0, 1, 2, 3, 4, 5, 6, 7, 8, 9, 10, 11, 12, 13], [0, 1, 2, 3, 4, 5, 6, 7, 8, 9, 10, 11, 12, 13, 19, 20, 21], [0, 1, 2, 3, 4, 5, 6, 7, 8, 9, 10, 11, 12, 13, 19, 20, 21, 22], [0, 1, 2, 3, 4, 5, 6, 7, 8, 9, 10, 11, 12, 13, 19, 20, 21, 22, 23], [0, 1, 2, 3, 4, 5, 6, 7, 8, 9, 10, 11, 12, 13, 14, 15, 16, 17, 18, 19, 20, 21, 22, 23, 24], [0, 1, 2, 3, 4, 5, 6, 7, 8, 9, 10, 11, 12, 13], [0, 1, 2, 3, 4, 5, 6, 7, 8, 9, 10, 11, 12, 13, 26], [0, 1, 2, 3, 4, 5, 6, 7, 8, 9, 10, 11, 12, 13], [0, 1, 2, 3, 4, 5, 6, 7, 8, 9, 10, 11, 12, 13, 26, 27, 28], [0, 1, 2, 3, 4, 5, 6, 7, 8, 9, 10, 11, 12, 13, 26, 27, 28, 29], [0, 1, 2, 3, 4, 5, 6, 7, 8, 9, 10, 11, 12, 13, 26, 27, 28, 29, 30], [0, 1, 2, 3, 4, 5, 6, 7, 8, 9, 10, 11, 12, 13], [0, 1, 2, 3, 4, 5, 6, 7, 8, 9, 10, 11, 12, 13, 26, 27, 28, 29, 30, 31, 32], [0, 1, 2, 3, 4, 5, 6, 7, 8, 9, 10, 11, 12, 13, 26, 27, 28, 29, 30, 31, 32, 33], [0, 1, 2, 3, 4, 5, 6, 7, 8, 9, 10, 11, 12, 13], [0, 1, 2, 3, 4, 5, 6, 7, 8, 9, 10, 11, 12, 13, 35], [0, 1, 2, 3, 4, 5, 6, 7, 8, 9, 10, 11, 12, 13], [0, 1, 2, 3, 4, 5, 6, 7, 8, 9, 10, 11, 12, 13, 35, 36, 37], [0, 1, 2, 3, 4, 5, 6, 7, 8, 9, 10, 11, 12, 13, 35, 36, 37, 38], [0, 1, 2, 3, 4, 5, 6, 7, 8, 9, 10, 11, 12, 13, 35, 36, 37, 38, 39], [0, 1, 2, 3, 4, 5, 6, 7, 8, 9, 10, 11, 12, 13], [0, 1, 2, 3, 4, 5, 6, 7, 8, 9, 10, 11, 12, 13, 35, 36, 37, 38, 39, 40, 41], [0, 1, 2, 3, 4, 5, 6, 7, 8, 9, 10, 11, 12, 13, 35, 36, 37, 38, 39, 40, 41, 42], [0, 1, 2, 3, 4, 5, 6, 7, 8, 9, 10, 11, 12, 13, 35, 36, 37, 38, 39, 40, 41, 42, 43], [0, 1, 2, 3, 4, 5, 6, 7, 8, 9, 10, 11, 12, 13, 26, 27, 28, 29, 30, 31, 32, 33, 34, 35, 36, 37, 38, 39, 40, 41, 42, 43, 44], [0, 1, 2, 3, 4, 5, 6, 7, 8, 9, 10, 11, 12, 13, 14, 15, 16, 17, 18, 19, 20, 21, 22, 23, 24, 25, 26, 27, 28, 29, 30, 31, 32, 33, 34, 35, 36, 37, 38, 39, 40, 41, 42, 43, 44, 45], [0, 1, 2, 3, 4, 5, 6, 7, 8, 9, 10, 11, 12, 13, 14, 15, 16, 17, 18, 19, 20, 21, 22, 23, 24, 25, 26, 27, 28, 29, 30, 31, 32, 33, 34, 35, 36, 37, 38, 39, 40, 41, 42, 43, 44, 45, 46], [0, 1, 2, 3, 4, 5, 6, 7, 8, 9, 10, 11, 12, 13, 14, 15, 16, 17, 18, 19, 20, 21, 22, 23, 24, 25, 26, 27, 28, 29, 30, 31, 32, 33, 34, 35, 36, 37, 38, 39, 40, 41, 42, 43, 44, 45, 46, 47]], [.ref 0 0 0, vb x6.1, vb x6.1, .when x6.1 (.ref 0 0 1), .when x6.1 (.d (.sl (.int .i64)) x6.2), .when x6.1 (vi a2), .when x6.1 (.er [vi (gI x6.2 a2)]), .when x6.1 (vi (gI x6.2 a2)), .when x6.1 (vb ((gI x6.2 a2) != (0 : Int))), vb (x6.1 && ((gI x6.2 a2) != (0 : Int))), vb (x6.1 && ((gI x6.2 a2) != (0 : Int))), .when (x6.1 && ((gI x6.2 a2) != (0 : Int))) (vi x1), .when (x6.1 && ((gI x6.2 a2) != (0 : Int))) (vb (decide (x1 < (0 : Int)))), .when (x6.1 && ((gI x6.2 a2) != (0 : Int))) (vb (decide (x1 < (0 : Int)))), .when ((x6.1 && ((gI x6.2 a2) != (0 : Int))) && (!(decide (x1 < (0 : Int))))) (.ref 0 0 1), .when ((x6.1 && ((gI x6.2 a2) != (0 : Int))) && (!(decide (x1 < (0 : Int))))) (.d (.sl (.int .i64)) x6.2), .when ((x6.1 && ((gI x6.2 a2) != (0 : Int))) && (!(decide (x1 < (0 : Int))))) (vi a2), .when ((x6.1 && ((gI x6.2 a2) != (0 : Int))) && (!(decide (x1 < (0 : Int))))) (.er [vi (gI x6.2 a2)]), .when ((x6.1 && ((gI x6.2 a2) != (0 : Int))) && (!(decide (x1 < (0 : Int))))) (vi (gI x6.2 a2)), .when ((x6.1 && ((gI x6.2 a2) != (0 : Int))) && (!(decide (x1 < (0 : Int))))) (.ref 0 0 1), .when ((x6.1 && ((gI x6.2 a2) != (0 : Int))) && (!(decide (x1 < (0 : Int))))) (.d (.sl (.int .i64)) x6.2), .when ((x6.1 && ((gI x6.2 a2) != (0 : Int))) && (!(decide (x1 < (0 : Int))))) (vi a2), .when ((x6.1 && ((gI x6.2 a2) != (0 : Int))) && (!(decide (x1 < (0 : Int))))) (.er [vi (gI x6.2 a2)]), .when ((x6.1 && ((gI x6.2 a2) != (0 : Int))) && (!(decide (x1 < (0 : Int))))) (vi (gI x6.2 a2)), .when ((x6.1 && ((gI x6.2 a2) != (0 : Int))) && (!(decide (x1 < (0 : Int))))) (vi (-(gI x6.2 a2))), .when ((x6.1 && ((gI x6.2 a2) != (0 : Int))) && (!(decide (x1 < (0 : Int))))) (vi (if (-(gI x6.2 a2)) > (gI x6.2 a2) then (-(gI x6.2 a2)) else (gI x6.2 a2))), .when ((x6.1 && ((gI x6.2 a2) != (0 : Int))) && (!(decide (x1 < (0 : Int))))) (.er [.d (.sl t_farkas_row) a1.2]), .when ((x6.1 && ((gI x6.2 a2) != (0 : Int))) && (!(decide (x1 < (0 : Int))))) (.d (.sl t_farkas_row) a1.2), .when ((x6.1 && ((gI x6.2 a2) != (0 : Int))) && (!(decide (x1 < (0 : Int))))) (vi x1), .when ((x6.1 && ((gI x6.2 a2) != (0 : Int))) && (!(decide (x1 < (0 : Int))))) (.er [vb ((a1.2.getD (Int.toNat x1) d_farkas_row).1), .d (.sl (.int .i64)) ((a1.2.getD (Int.toNat x1) d_farkas_row).2)]), .when ((x6.1 && ((gI x6.2 a2) != (0 : Int))) && (!(decide (x1 < (0 : Int))))) (.er [.d (.sl (.int .i64)) ((a1.2.getD (Int.toNat x1) d_farkas_row).2)]), .when ((x6.1 && ((gI x6.2 a2) != (0 : Int))) && (!(decide (x1 < (0 : Int))))) (.d (.sl (.int .i64)) ((a1.2.getD (Int.toNat x1) d_farkas_row).2)), .when ((x6.1 && ((gI x6.2 a2) != (0 : Int))) && (!(decide (x1 < (0 : Int))))) (vi a2), .when ((x6.1 && ((gI x6.2 a2) != (0 : Int))) && (!(decide (x1 < (0 : Int))))) (.er [vi (gI ((a1.2.getD (Int.toNat x1) d_farkas_row).2) a2)]), .when ((x6.1 && ((gI x6.2 a2) != (0 : Int))) && (!(decide (x1 < (0 : Int))))) (vi (gI ((a1.2.getD (Int.toNat x1) d_farkas_row).2) a2)), .when ((x6.1 && ((gI x6.2 a2) != (0 : Int))) && (!(decide (x1 < (0 : Int))))) (.er [.d (.sl t_farkas_row) a1.2]), .when ((x6.1 && ((gI x6.2 a2) != (0 : Int))) && (!(decide (x1 < (0 : Int))))) (.d (.sl t_farkas_row) a1.2), .when ((x6.1 && ((gI x6.2 a2) != (0 : Int))) && (!(decide (x1 < (0 : Int))))) (vi x1), .when ((x6.1 && ((gI x6.2 a2) != (0 : Int))) && (!(decide (x1 < (0 : Int))))) (.er [vb ((a1.2.getD (Int.toNat x1) d_farkas_row).1), .d (.sl (.int .i64)) ((a1.2.getD (Int.toNat x1) d_farkas_row).2)]), .when ((x6.1 && ((gI x6.2 a2) != (0 : Int))) && (!(decide (x1 < (0 : Int))))) (.er [.d (.sl (.int .i64)) ((a1.2.getD (Int.toNat x1) d_farkas_row).2)]), .when ((x6.1 && ((gI x6.2 a2) != (0 : Int))) && (!(decide (x1 < (0 : Int))))) (.d (.sl (.int .i64)) ((a1.2.getD (Int.toNat x1) d_farkas_row).2)), .when ((x6.1 && ((gI x6.2 a2) != (0 : Int))) && (!(decide (x1 < (0 : Int))))) (vi a2), .when ((x6.1 && ((gI x6.2 a2) != (0 : Int))) && (!(decide (x1 < (0 : Int))))) (.er [vi (gI ((a1.2.getD (Int.toNat x1) d_farkas_row).2) a2)]), .when ((x6.1 && ((gI x6.2 a2) != (0 : Int))) && (!(decide (x1 < (0 : Int))))) (vi (gI ((a1.2.getD (Int.toNat x1) d_farkas_row).2) a2)), .when ((x6.1 && ((gI x6.2 a2) != (0 : Int))) && (!(decide (x1 < (0 : Int))))) (vi (-(gI ((a1.2.getD (Int.toNat x1) d_farkas_row).2) a2))), .when ((x6.1 && ((gI x6.2 a2) != (0 : Int))) && (!(decide (x1 < (0 : Int))))) (vi (if (-(gI ((a1.2.getD (Int.toNat x1) d_farkas_row).2) a2)) > (gI ((a1.2.getD (Int.toNat x1) d_farkas_row).2) a2) then (-(gI ((a1.2.getD (Int.toNat x1) d_farkas_row).2) a2)) else (gI ((a1.2.getD (Int.toNat x1) d_farkas_row).2) a2))), .when ((x6.1 && ((gI x6.2 a2) != (0 : Int))) && (!(decide (x1 < (0 : Int))))) (vb (decide ((if (-(gI x6.2 a2)) > (gI x6.2 a2) then (-(gI x6.2 a2)) else (gI x6.2 a2)) < (if (-(gI ((a1.2.getD (Int.toNat x1) d_farkas_row).2) a2)) > (gI ((a1.2.getD (Int.toNat x1) d_farkas_row).2) a2) then (-(gI ((a1.2.getD (Int.toNat x1) d_farkas_row).2) a2)) else (gI ((a1.2.getD (Int.toNat x1) d_farkas_row).2) a2))))), .when (x6.1 && ((gI x6.2 a2) != (0 : Int))) (vb ((decide (x1 < (0 : Int))) || (decide ((if (-(gI x6.2 a2)) > (gI x6.2 a2) then (-(gI x6.2 a2)) else (gI x6.2 a2)) < (if (-(gI ((a1.2.getD (Int.toNat x1) d_farkas_row).2) a2)) > (gI ((a1.2.getD (Int.toNat x1) d_farkas_row).2) a2) then (-(gI ((a1.2.getD (Int.toNat x1) d_farkas_row).2) a2)) else (gI ((a1.2.getD (Int.toNat x1) d_farkas_row).2) a2)))))), vb ((x6.1 && ((gI x6.2 a2) != (0 : Int))) && ((decide (x1 < (0 : Int))) || (decide ((if (-(gI x6.2 a2)) > (gI x6.2 a2) then (-(gI x6.2 a2)) else (gI x6.2 a2)) < (if (-(gI ((a1.2.getD (Int.toNat x1) d_farkas_row).2) a2)) > (gI ((a1.2.getD (Int.toNat x1) d_farkas_row).2) a2) then (-(gI ((a1.2.getD (Int.toNat x1) d_farkas_row).2) a2)) else (gI ((a1.2.getD (Int.toNat x1) d_farkas_row).2) a2))))))], [none, none, none, none, some (x6.1 = true → x6.1 = true ∧ True), none, some (x6.1 = true → x6.1 = true ∧ (x6.1 = true ∧ ((0 : Int) ≤ a2 ∧ a2 < (x6.2.length : Int)))), some (x6.1 = true → x6.1 = true ∧ True), some (x6.1 = true → x6.1 = true ∧ True), some (x6.1 = true → x6.1 = true), none, none, some ((x6.1 && ((gI x6.2 a2) != (0 : Int))) = true → (x6.1 && ((gI x6.2 a2) != (0 : Int))) = true ∧ True), some ((x6.1 && ((gI x6.2 a2) != (0 : Int))) = true → (x6.1 && ((gI x6.2 a2) != (0 : Int))) = true ∧ True), none, some (((x6.1 && ((gI x6.2 a2) != (0 : Int))) && (!(decide (x1 < (0 : Int))))) = true → ((x6.1 && ((gI x6.2 a2) != (0 : Int))) && (!(decide (x1 < (0 : Int))))) = true ∧ True), none, some (((x6.1 && ((gI x6.2 a2) != (0 : Int))) && (!(decide (x1 < (0 : Int))))) = true → ((x6.1 && ((gI x6.2 a2) != (0 : Int))) && (!(decide (x1 < (0 : Int))))) = true ∧ (((x6.1 && ((gI x6.2 a2) != (0 : Int))) && (!(decide (x1 < (0 : Int))))) = true ∧ ((0 : Int) ≤ a2 ∧ a2 < (x6.2.length : Int)))), some (((x6.1 && ((gI x6.2 a2) != (0 : Int))) && (!(decide (x1 < (0 : Int))))) = true → ((x6.1 && ((gI x6.2 a2) != (0 : Int))) && (!(decide (x1 < (0 : Int))))) = true ∧ True), none, some (((x6.1 && ((gI x6.2 a2) != (0 : Int))) && (!(decide (x1 < (0 : Int))))) = true → ((x6.1 && ((gI x6.2 a2) != (0 : Int))) && (!(decide (x1 < (0 : Int))))) = true ∧ True), none, some (((x6.1 && ((gI x6.2 a2) != (0 : Int))) && (!(decide (x1 < (0 : Int))))) = true → ((x6.1 && ((gI x6.2 a2) != (0 : Int))) && (!(decide (x1 < (0 : Int))))) = true ∧ (((x6.1 && ((gI x6.2 a2) != (0 : Int))) && (!(decide (x1 < (0 : Int))))) = true ∧ ((0 : Int) ≤ a2 ∧ a2 < (x6.2.length : Int)))), some (((x6.1 && ((gI x6.2 a2) != (0 : Int))) && (!(decide (x1 < (0 : Int))))) = true → ((x6.1 && ((gI x6.2 a2) != (0 : Int))) && (!(decide (x1 < (0 : Int))))) = true ∧ True), some (((x6.1 && ((gI x6.2 a2) != (0 : Int))) && (!(decide (x1 < (0 : Int))))) = true → ((x6.1 && ((gI x6.2 a2) != (0 : Int))) && (!(decide (x1 < (0 : Int))))) = true ∧ (-9223372036854775808 ≤ -(gI x6.2 a2) ∧ -(gI x6.2 a2) ≤ 9223372036854775807)), some (((x6.1 && ((gI x6.2 a2) != (0 : Int))) && (!(decide (x1 < (0 : Int))))) = true → ((x6.1 && ((gI x6.2 a2) != (0 : Int))) && (!(decide (x1 < (0 : Int))))) = true ∧ (((x6.1 && ((gI x6.2 a2) != (0 : Int))) && (!(decide (x1 < (0 : Int))))) = true ∧ True)), none, some (((x6.1 && ((gI x6.2 a2) != (0 : Int))) && (!(decide (x1 < (0 : Int))))) = true → ((x6.1 && ((gI x6.2 a2) != (0 : Int))) && (!(decide (x1 < (0 : Int))))) = true ∧ True), none, some (((x6.1 && ((gI x6.2 a2) != (0 : Int))) && (!(decide (x1 < (0 : Int))))) = true → ((x6.1 && ((gI x6.2 a2) != (0 : Int))) && (!(decide (x1 < (0 : Int))))) = true ∧ (((x6.1 && ((gI x6.2 a2) != (0 : Int))) && (!(decide (x1 < (0 : Int))))) = true ∧ ((0 : Int) ≤ x1 ∧ x1 < (a1.2.length : Int)))), some (((x6.1 && ((gI x6.2 a2) != (0 : Int))) && (!(decide (x1 < (0 : Int))))) = true → ((x6.1 && ((gI x6.2 a2) != (0 : Int))) && (!(decide (x1 < (0 : Int))))) = true ∧ True), some (((x6.1 && ((gI x6.2 a2) != (0 : Int))) && (!(decide (x1 < (0 : Int))))) = true → ((x6.1 && ((gI x6.2 a2) != (0 : Int))) && (!(decide (x1 < (0 : Int))))) = true ∧ True), none, some (((x6.1 && ((gI x6.2 a2) != (0 : Int))) && (!(decide (x1 < (0 : Int))))) = true → ((x6.1 && ((gI x6.2 a2) != (0 : Int))) && (!(decide (x1 < (0 : Int))))) = true ∧ (((x6.1 && ((gI x6.2 a2) != (0 : Int))) && (!(decide (x1 < (0 : Int))))) = true ∧ ((0 : Int) ≤ a2 ∧ a2 < (((a1.2.getD (Int.toNat x1) d_farkas_row).2).length : Int)))), some (((x6.1 && ((gI x6.2 a2) != (0 : Int))) && (!(decide (x1 < (0 : Int))))) = true → ((x6.1 && ((gI x6.2 a2) != (0 : Int))) && (!(decide (x1 < (0 : Int))))) = true ∧ True), none, some (((x6.1 && ((gI x6.2 a2) != (0 : Int))) && (!(decide (x1 < (0 : Int))))) = true → ((x6.1 && ((gI x6.2 a2) != (0 : Int))) && (!(decide (x1 < (0 : Int))))) = true ∧ True), none, some (((x6.1 && ((gI x6.2 a2) != (0 : Int))) && (!(decide (x1 < (0 : Int))))) = true → ((x6.1 && ((gI x6.2 a2) != (0 : Int))) && (!(decide (x1 < (0 : Int))))) = true ∧ (((x6.1 && ((gI x6.2 a2) != (0 : Int))) && (!(decide (x1 < (0 : Int))))) = true ∧ ((0 : Int) ≤ x1 ∧ x1 < (a1.2.length : Int)))), some (((x6.1 && ((gI x6.2 a2) != (0 : Int))) && (!(decide (x1 < (0 : Int))))) = true → ((x6.1 && ((gI x6.2 a2) != (0 : Int))) && (!(decide (x1 < (0 : Int))))) = true ∧ True), some (((x6.1 && ((gI x6.2 a2) != (0 : Int))) && (!(decide (x1 < (0 : Int))))) = true → ((x6.1 && ((gI x6.2 a2) != (0 : Int))) && (!(decide (x1 < (0 : Int))))) = true ∧ True), none, some (((x6.1 && ((gI x6.2 a2) != (0 : Int))) && (!(decide (x1 < (0 : Int))))) = true → ((x6.1 && ((gI x6.2 a2) != (0 : Int))) && (!(decide (x1 < (0 : Int))))) = true ∧ (((x6.1 && ((gI x6.2 a2) != (0 : Int))) && (!(decide (x1 < (0 : Int))))) = true ∧ ((0 : Int) ≤ a2 ∧ a2 < (((a1.2.getD (Int.toNat x1) d_farkas_row).2).length : Int)))), some (((x6.1 && ((gI x6.2 a2) != (0 : Int))) && (!(decide (x1 < (0 : Int))))) = true → ((x6.1 && ((gI x6.2 a2) != (0 : Int))) && (!(decide (x1 < (0 : Int))))) = true ∧ True), some (((x6.1 && ((gI x6.2 a2) != (0 : Int))) && (!(decide (x1 < (0 : Int))))) = true → ((x6.1 && ((gI x6.2 a2) != (0 : Int))) && (!(decide (x1 < (0 : Int))))) = true ∧ (-9223372036854775808 ≤ -(gI ((a1.2.getD (Int.toNat x1) d_farkas_row).2) a2) ∧ -(gI ((a1.2.getD (Int.toNat x1) d_farkas_row).2) a2) ≤ 9223372036854775807)), some (((x6.1 && ((gI x6.2 a2) != (0 : Int))) && (!(decide (x1 < (0 : Int))))) = true → ((x6.1 && ((gI x6.2 a2) != (0 : Int))) && (!(decide (x1 < (0 : Int))))) = true ∧ (((x6.1 && ((gI x6.2 a2) != (0 : Int))) && (!(decide (x1 < (0 : Int))))) = true ∧ True)), some (((x6.1 && ((gI x6.2 a2) != (0 : Int))) && (!(decide (x1 < (0 : Int))))) = true → ((x6.1 && ((gI x6.2 a2) != (0 : Int))) && (!(decide (x1 < (0 : Int))))) = true ∧ (((x6.1 && ((gI x6.2 a2) != (0 : Int))) && (!(decide (x1 < (0 : Int))))) = true ∧ True)), some ((x6.1 && ((gI x6.2 a2) != (0 : Int))) = true → (x6.1 && ((gI x6.2 a2) != (0 : Int))) = true ∧ ((decide (x1 < (0 : Int))) = false → ((x6.1 && ((gI x6.2 a2) != (0 : Int))) && (!(decide (x1 < (0 : Int))))) = true)), some ((x6.1 && ((gI x6.2 a2) != (0 : Int))) = true → (x6.1 && ((gI x6.2 a2) != (0 : Int))) = true)], [], [([], [.box [vb x6.1, .d (.sl (.int .i64)) x6.2]])]⟩ ⟨68, [(1, vi a2), (2, .er [vi a1.1, .d (.sl t_farkas_row) a1.2]), (5, vi x1), (6, vi x2), (9, .d (.sl t_farkas_row) a1.2), (10, vi (a1.2.length : Int)), (11, vi x2), (61, .when ((x6.1 && ((gI x6.2 a2) != (0 : Int))) && (!(decide (x1 < (0 : Int))))) (vi (if (-(gI ((a1.2.getD (Int.toNat x1) d_farkas_row).2) a2)) > (gI ((a1.2.getD (Int.toNat x1) d_farkas_row).2) a2) then (-(gI ((a1.2.getD (Int.toNat x1) d_farkas_row).2) a2)) else (gI ((a1.2.getD (Int.toNat x1) d_farkas_row).2) a2)))), (62, .when ((x6.1 && ((gI x6.2 a2) != (0 : Int))) && (!(decide (x1 < (0 : Int))))) (vb (decide ((if (-(gI x6.2 a2)) > (gI x6.2 a2) then (-(gI x6.2 a2)) else (gI x6.2 a2)) < (if (-(gI ((a1.2.getD (Int.toNat x1) d_farkas_row).2) a2)) > (gI ((a1.2.getD (Int.toNat x1) d_farkas_row).2) a2) then (-(gI ((a1.2.getD (Int.toNat x1) d_farkas_row).2) a2)) else (gI ((a1.2.getD (Int.toNat x1) d_farkas_row).2) a2)))))), (63, .when (x6.1 && ((gI x6.2 a2) != (0 : Int))) (vb ((decide (x1 < (0 : Int))) || (decide ((if (-(gI x6.2 a2)) > (gI x6.2 a2) then (-(gI x6.2 a2)) else (gI x6.2 a2)) < (if (-(gI ((a1.2.getD (Int.toNat x1) d_farkas_row).2) a2)) > (gI ((a1.2.getD (Int.toNat x1) d_farkas_row).2) a2) then (-(gI ((a1.2.getD (Int.toNat x1) d_farkas_row).2) a2)) else (gI ((a1.2.getD (Int.toNat x1) d_farkas_row).2) a2))))))), (64, vb ((x6.1 && ((gI x6.2 a2) != (0 : Int))) && ((decide (x1 < (0 : Int))) || (decide ((if (-(gI x6.2 a2)) > (gI x6.2 a2) then (-(gI x6.2 a2)) else (gI x6.2 a2)) < (if (-(gI ((a1.2.getD (Int.toNat x1) d_farkas_row).2) a2)) > (gI ((a1.2.getD (Int.toNat x1) d_farkas_row).2) a2) then (-(gI ((a1.2.getD (Int.toNat x1) d_farkas_row).2) a2)) else (gI ((a1.2.getD (Int.toNat x1) d_farkas_row).2) a2)))))))], [.box [vb x6.1, .d (.sl (.int .i64)) x6.2]]⟩ (by kernel_rfl) (AllO.n (AllO.n (AllO.n (AllO.n (AllO.s (fun hg => ⟨hg, trivial⟩) (AllO.n (AllO.s (fun hg => ⟨hg, hg, (o2 hg)⟩) (AllO.s (fun hg => ⟨hg, trivial⟩) (AllO.s (fun hg => ⟨hg, trivial⟩) (AllO.s (fun hc => hc) (AllO.n (AllO.n (AllO.s (fun hg => ⟨hg, trivial⟩) (AllO.s (fun hg => ⟨hg, trivial⟩) (AllO.n (AllO.s (fun hg => ⟨hg, trivial⟩) (AllO.n (AllO.s (fun hg => ⟨hg, hg, (o3 hg)⟩) (AllO.s (fun hg => ⟨hg, trivial⟩) (AllO.n (AllO.s (fun hg => ⟨hg, trivial⟩) (AllO.n (AllO.s (fun hg => ⟨hg, hg, (o4 hg)⟩) (AllO.s (fun hg => ⟨hg, trivial⟩) (AllO.s (fun hg => ⟨hg, (o5 hg)⟩) (AllO.s (fun hg => ⟨hg, hg, trivial⟩) (AllO.n (AllO.s (fun hg => ⟨hg, trivial⟩) (AllO.n (AllO.s (fun hg => ⟨hg, hg, (o6 hg)⟩) (AllO.s (fun hg => ⟨hg, trivial⟩) (AllO.s (fun hg => ⟨hg, trivial⟩) (AllO.n (AllO.s (fun hg => ⟨hg, hg, (o7 hg)⟩) (AllO.s (fun hg => ⟨hg, trivial⟩) (AllO.n (AllO.s (fun hg => ⟨hg, trivial⟩) (AllO.n (AllO.s (fun hg => ⟨hg, hg, (o8 hg)⟩) (AllO.s (fun hg => ⟨hg, trivial⟩) (AllO.s (fun hg => ⟨hg, trivial⟩) (AllO.n (AllO.s (fun hg => ⟨hg, hg, (o9 hg)⟩) (AllO.s (fun hg => ⟨hg, trivial⟩) (AllO.s (fun hg => ⟨hg, (o10 hg)⟩) (AllO.s (fun hg => ⟨hg, hg, trivial⟩) (AllO.s (fun hg => ⟨hg, hg, trivial⟩) (AllO.s (fun hg => ⟨hg, fun hc => and_f hg hc⟩) (AllO.s (fun hc => hc) (AllO.e)))))))))))))))))))))))))))))))))))))))))))))))))) ?_
    refine then_n (spine_c ?_)
    refine awp_abs (fun (x7 : Int) => ⟨68, [(1, vi a2), (2, .er [vi a1.1, .d (.sl t_farkas_row) a1.2]), (5, vi x1), (6, vi x2), (9, .d (.sl t_farkas_row) a1.2), (10, vi (a1.2.length : Int)), (11, vi x2), (61, .when ((x6.1 && ((gI x6.2 a2) != (0 : Int))) && (!(decide (x1 < (0 : Int))))) (vi x7)), (62, .when ((x6.1 && ((gI x6.2 a2) != (0 : Int))) && (!(decide (x1 < (0 : Int))))) (vb (decide ((if (-(gI x6.2 a2)) > (gI x6.2 a2) then (-(gI x6.2 a2)) else (gI x6.2 a2)) < x7)))), (63, .when (x6.1 && ((gI x6.2 a2) != (0 : Int))) (vb ((decide (x1 < (0 : Int))) || (decide ((if (-(gI x6.2 a2)) > (gI x6.2 a2) then (-(gI x6.2 a2)) else (gI x6.2 a2)) < x7))))), (64, vb ((x6.1 && ((gI x6.2 a2) != (0 : Int))) && ((decide (x1 < (0 : Int))) || (decide ((if (-(gI x6.2 a2)) > (gI x6.2 a2) then (-(gI x6.2 a2)) else (gI x6.2 a2)) < x7)))))], [.box [vb x6.1, .d (.sl (.int .i64)) x6.2]]⟩) (if (-(gI ((a1.2.getD (Int.toNat x1) d_farkas_row).2) a2)) > (gI ((a1.2.getD (Int.toNat x1) d_farkas_row).2) a2) then (-(gI ((a1.2.getD (Int.toNat x1) d_farkas_row).2) a2)) else (gI ((a1.2.getD (Int.toNat x1) d_farkas_row).2) a2)) ?_
    intro x7 hx7
    replace h := h x7 hx7
    refine awp_cond (b := (x6.1 && ((gI x6.2 a2) != (0 : Int))) && ((decide (x1 < (0 : Int))) || (decide ((if (-(gI x6.2 a2)) > (gI x6.2 a2) then (-(gI x6.2 a2)) else (gI x6.2 a2)) < x7)))) (by kernel_rfl) (fun hb => ?_) (fun hb => ?_)
    · replace h := h.1 (hb)
      refine awp_rc tab [1, 2, 5, 9, 10, 11, 61, 62, 63] [] [] [] [] ⟨68, [(1, vi a2), (2, .er [vi a1.1, .d (.sl t_farkas_row) a1.2]), (5, vi x2), (9, .d (.sl t_farkas_row) a1.2), (10, vi (a1.2.length : Int)), (11, vi x2), (61, .when ((x6.1 && ((gI x6.2 a2) != (0 : Int))) && (!(decide (x1 < (0 : Int))))) (vi x7)), (62, .when ((x6.1 && ((gI x6.2 a2) != (0 : Int))) && (!(decide (x1 < (0 : Int))))) (vb (decide ((if (-(gI x6.2 a2)) > (gI x6.2 a2) then (-(gI x6.2 a2)) else (gI x6.2 a2)) < x7)))), (63, .when (x6.1 && ((gI x6.2 a2) != (0 : Int))) (vb ((decide (x1 < (0 : Int))) || (decide ((if (-(gI x6.2 a2)) > (gI x6.2 a2) then (-(gI x6.2 a2)) else (gI x6.2 a2)) < x7)))))], [.box [vb x6.1, .d (.sl (.int .i64)) x6.2]]⟩ (by kernel_rfl) (trivial) ?_
      refine then_n (spine_e (then_n (spine_e (blk_n (then_n (spine_c ?_))))))
      obtain ⟨o11, h⟩ := h
      refine awp_rc tab [1, 2, 5, 9, 10, 11, 61, 62, 63] [] [] [] [-9223372036854775808 ≤ x2 + (1 : Int) ∧ x2 + (1 : Int) ≤ 9223372036854775807] ⟨68, [(1, vi a2), (2, .er [vi a1.1, .d (.sl t_farkas_row) a1.2]), (5, vi x2), (9, .d (.sl t_farkas_row) a1.2), (10, vi (a1.2.length : Int)), (11, vi (x2 + (1 : Int))), (61, .when ((x6.1 && ((gI x6.2 a2) != (0 : Int))) && (!(decide (x1 < (0 : Int))))) (vi x7)), (62, .when ((x6.1 && ((gI x6.2 a2) != (0 : Int))) && (!(decide (x1 < (0 : Int))))) (vb (decide ((if (-(gI x6.2 a2)) > (gI x6.2 a2) then (-(gI x6.2 a2)) else (gI x6.2 a2)) < x7)))), (63, .when (x6.1 && ((gI x6.2 a2) != (0 : Int))) (vb ((decide (x1 < (0 : Int))) || (decide ((if (-(gI x6.2 a2)) > (gI x6.2 a2) then (-(gI x6.2 a2)) else (gI x6.2 a2)) < x7)))))], [.box [vb x6.1, .d (.sl (.int .i64)) x6.2]]⟩ (by kernel_rfl) (AllP.of (o11) trivial) ?_
      refine then_n (spine_e (then_n (spine_e (then_n (spine_e (then_n (?_)))))))
      obtain ⟨m, hm, h⟩ := h
      exact ⟨m, hm, ⟨68, [(1, vi a2), (2, .er [vi a1.1, .d (.sl t_farkas_row) a1.2]), (5, vi x2), (9, .d (.sl t_farkas_row) a1.2), (10, vi (a1.2.length : Int)), (11, vi (x2 + (1 : Int)))], []⟩, wk_ghosts hk (l := [.keep [1, 2, 5, 9, 10, 11], .keep [1, 2, 5, 9, 10, 11], .cut 0, .keep [1, 2, 5, 9, 10, 11]]) (by kernel_rfl), x2, x2 + (1 : Int), h, rfl⟩
    · replace h := h.2 (hb)
      refine awp_skip (then_n (spine_e (then_n (spine_e (blk_n (then_n (spine_c ?_)))))))
      obtain ⟨o12, h⟩ := h
      refine awp_rc tab [1, 2, 5, 9, 10, 11, 61, 62, 63] [] [] [] [-9223372036854775808 ≤ x2 + (1 : Int) ∧ x2 + (1 : Int) ≤ 9223372036854775807] ⟨68, [(1, vi a2), (2, .er [vi a1.1, .d (.sl t_farkas_row) a1.2]), (5, vi x1), (9, .d (.sl t_farkas_row) a1.2), (10, vi (a1.2.length : Int)), (11, vi (x2 + (1 : Int))), (61, .when ((x6.1 && ((gI x6.2 a2) != (0 : Int))) && (!(decide (x1 < (0 : Int))))) (vi x7)), (62, .when ((x6.1 && ((gI x6.2 a2) != (0 : Int))) && (!(decide (x1 < (0 : Int))))) (vb (decide ((if (-(gI x6.2 a2)) > (gI x6.2 a2) then (-(gI x6.2 a2)) else (gI x6.2 a2)) < x7)))), (63, .when (x6.1 && ((gI x6.2 a2) != (0 : Int))) (vb ((decide (x1 < (0 : Int))) || (decide ((if (-(gI x6.2 a2)) > (gI x6.2 a2) then (-(gI x6.2 a2)) else (gI x6.2 a2)) < x7)))))], [.box [vb x6.1, .d (.sl (.int .i64)) x6.2]]⟩ (by kernel_rfl) (AllP.of (o12) trivial) ?_
      refine then_n (spine_e (then_n (spine_e (then_n (spine_e (then_n (?_)))))))
      obtain ⟨m, hm, h⟩ := h
      exact ⟨m, hm, ⟨68, [(1, vi a2), (2, .er [vi a1.1, .d (.sl t_farkas_row) a1.2]), (5, vi x1), (9, .d (.sl t_farkas_row) a1.2), (10, vi (a1.2.length : Int)), (11, vi (x2 + (1 : Int)))], []⟩, wk_ghosts hk (l := [.keep [1, 2, 5, 9, 10, 11], .keep [1, 2, 5, 9, 10, 11], .cut 0, .keep [1, 2, 5, 9, 10, 11]]) (by kernel_rfl), x1, x2 + (1 : Int), h, rfl⟩
  · replace h := h.2 (of_decide_eq_false hb)
    refine awp_exit (then_x (then_x (then_x (blk_h (then_n (spine_c ?_))))))
    refine awp_spine ?_
    refine awp_rc tab [4] [] [] [] [] ⟨68, [(4, vi x1)], []⟩ (by kernel_rfl) (trivial) ?_
    refine then_n (spine_c ?_)
    refine awp_ret (then_r (then_r (then_r (then_r (?_)))))
    exact ret_r (m := 0) (r := vi x1) (objs := []) hk [.keep [4]] ⟨68, [(4, vi x1)], []⟩ (by kernel_rfl) (by kernel_rfl) (Nat.le_refl 0) ⟨x1, rfl, rfl, h⟩
theorem ok_farkas_table_solver (a1 : farkas_table) (a2 : Int) (h : farkas_table_solver.pre a1 a2) : OkC prog 78 [.agg [vi a1.1, .d (.sl t_farkas_row) a1.2], vi a2] (vi (farkas_table_solver.fn a1 a2)) :=
  OkC.of call_farkas_table_solver ((walk_farkas_table_solver a1 a2 _ (farkas_table_solver.spec a1 a2 h)).mono fun r o ⟨x, hr, ho, hx⟩ => ⟨by rw [hr, hx], ho⟩) rfl rfl (fun _ => rfl)

end Go.Proofs.Ytlncingakpelbaa
