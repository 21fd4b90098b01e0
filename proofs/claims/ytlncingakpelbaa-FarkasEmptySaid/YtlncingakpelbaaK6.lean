/- Part of a proof that a law of the program holds for every input: printed by a program of this work. No conditions. -/
import Derived.Test.YtlncingakpelbaaK5
namespace Go.Proofs.Ytlncingakpelbaa
open Go
set_option linter.unusedVariables false
set_option maxHeartbeats 4000000

noncomputable abbrev Bfarkas_point_bound : Code := bodyOf Try.f60
theorem call_farkas_point_bound : CallOk prog 60 := ⟨_, Try.func60, by kernel_rfl, by kernel_rfl⟩
theorem walk_farkas_point_bound (a1 : farkas_point) (a2 : farkas_row) (a3 : Int) (Q : farkas_fraction → Prop) (h : farkas_point_bound.wp a1 a2 a3 Q) : VCalls prog 60 [.agg [.d (.sl (.int .i64)) a1.1, vi a1.2], .agg [vb a2.1, .d (.sl (.int .i64)) a2.2], vi a3] [] (fun r o => ∃ x, r = .agg [vi x.1, vi x.2] ∧ o = [] ∧ Q x) := by
  refine vcalls_body tab Try.func60 (c := (spine (subC [0] Bfarkas_point_bound) [(spine (subC [1, 0] Bfarkas_point_bound) [(spine (subC [1, 1, 0] Bfarkas_point_bound) [(spine (subC [1, 1, 1, 0, 0] Bfarkas_point_bound) [(.block 0 (.loop (spine (subC [1, 1, 1, 0, 1, 0, 0, 0] Bfarkas_point_bound) [(spine (.cond (.tmp 26) .skip (.exit 0)) [(spine (.block 1 (spine (subC [1, 1, 1, 0, 1, 0, 0, 1, 1, 0, 0, 0] Bfarkas_point_bound) [(subC [1, 1, 1, 0, 1, 0, 0, 1, 1, 0, 0, 1] Bfarkas_point_bound)])) [(subC [1, 1, 1, 0, 1, 0, 0, 1, 1, 1] Bfarkas_point_bound)])])]))), (spine (subC [1, 1, 1, 1, 0, 0] Bfarkas_point_bound) [(.cond (.tmp 45) (spine (subC [1, 1, 1, 1, 0, 1, 0, 0] Bfarkas_point_bound) [.ret]) .skip), (spine (subC [1, 1, 1, 1, 1, 0] Bfarkas_point_bound) [.ret])])])])])])) (by kernel_rfl) (Nat.le_of_ble_eq_true (by kernel_rfl)) fun cx hd hi hk => ?_
  show AWp prog cx _ _ ⟨62, [(0, .agg [.d (.sl (.int .i64)) a1.1, vi a1.2]), (1, .agg [vb a2.1, .d (.sl (.int .i64)) a2.2]), (2, vi a3)], []⟩
  replace hk : cx.E.len = 0 := hk
  unfold farkas_point_bound.wp at h
  refine awp_spine ?_
  refine awp_rc tab [2, 3, 4, 6] [] [] [0, 1] [] ⟨62, [(2, vi a3), (3, .er [.d (.sl (.int .i64)) a1.1, vi a1.2]), (4, .er [vb a2.1, .d (.sl (.int .i64)) a2.2]), (6, .ref 0 0 0)], [.box [vi (0 : Int), vi (0 : Int)]]⟩ (by kernel_rfl) (trivial) ?_
  refine then_n (spine_c ?_)
  refine awp_spine ?_
  refine awp_rc tab [2, 3, 4, 6, 7] [] [] [] [] ⟨62, [(2, vi a3), (3, .er [.d (.sl (.int .i64)) a1.1, vi a1.2]), (4, .er [vb a2.1, .d (.sl (.int .i64)) a2.2]), (6, .ref 0 0 0), (7, vi (a1.1.length : Int))], [.box [vi (0 : Int), vi (0 : Int)]]⟩ (by kernel_rfl) (trivial) ?_
  refine then_n (spine_c ?_)
  refine awp_len 3 [0] (T := (.int .i64)) (l := a1.1) (by kernel_rfl) fun hl => ?_
  replace h := h hl
  refine awp_spine ?_
  obtain ⟨o1, o2, h⟩ := h
  refine awp_dr tab mixed [3, 4, 6, 7, 8] [] [] [] ⟨[[], [0], [], [0, 1, 2], [0, 1, 2, 3], [], [5], [0, 1, 2, 3, 4, 5, 6], [0, 1, 2, 3, 4, 5, 6, 7]], [.er [.d (.sl (.int .i64)) a2.2], .d (.sl (.int .i64)) a2.2, vi a3, .er [vi (gI a2.2 a3)], vi (gI a2.2 a3), .er [vi a1.2], vi a1.2, vi ((gI a2.2 a3) * a1.2), vi ((gI a2.2 a3) * a1.2)], [none, none, none, some ((0 : Int) ≤ a3 ∧ a3 < (a2.2.length : Int)), none, none, none, some (-9223372036854775808 ≤ (gI a2.2 a3) * a1.2 ∧ (gI a2.2 a3) * a1.2 ≤ 9223372036854775807), none], [], [([], [.box [vi (0 : Int), vi (0 : Int)]])]⟩ ⟨62, [(3, .er [.d (.sl (.int .i64)) a1.1, vi a1.2]), (4, .er [vb a2.1, .d (.sl (.int .i64)) a2.2]), (6, .ref 0 0 0), (7, vi (a1.1.length : Int)), (8, vi ((gI a2.2 a3) * a1.2))], [.box [vi (0 : Int), vi (0 : Int)]]⟩ (by kernel_rfl) (AllO.n (AllO.n (AllO.n (AllO.s (o1) (AllO.n (AllO.n (AllO.n (AllO.s (o2) (AllO.n (AllO.e)))))))))) ?_
  refine then_n (spine_c ?_)
  refine awp_spine ?_
  refine awp_rc tab [4, 6, 7, 8, 23, 24, 25] [] [] [] [] ⟨62, [(4, .er [vb a2.1, .d (.sl (.int .i64)) a2.2]), (6, .ref 0 0 0), (7, vi (a1.1.length : Int)), (8, vi ((gI a2.2 a3) * a1.2)), (23, .d (.sl (.int .i64)) a1.1), (24, vi (a1.1.length : Int)), (25, vi (0 : Int))], [.box [vi (0 : Int), vi (0 : Int)]]⟩ (by kernel_rfl) (trivial) ?_
  refine then_n (spine_c ?_)
  refine awp_len 23 [] (T := (.int .i64)) (l := a1.1) (by kernel_rfl) fun hl => ?_
  replace h := h hl
  refine awp_block ?_
  obtain ⟨I7, ⟨n7a, hz7⟩, hI7⟩ := h
  refine awp_loopN (fun n s => ∃ (x3 : Int) (x4 : Int), I7 n x3 x4 ∧ s = ⟨62, [(4, .er [vb a2.1, .d (.sl (.int .i64)) a2.2]), (6, .ref 0 0 0), (7, vi (a1.1.length : Int)), (8, vi x3), (23, .d (.sl (.int .i64)) a1.1), (24, vi (a1.1.length : Int)), (25, vi x4)], [.box [vi (0 : Int), vi (0 : Int)]]⟩) (n := n7a) (s0 := ⟨62, [(4, .er [vb a2.1, .d (.sl (.int .i64)) a2.2]), (6, .ref 0 0 0), (7, vi (a1.1.length : Int)), (8, vi ((gI a2.2 a3) * a1.2)), (23, .d (.sl (.int .i64)) a1.1), (24, vi (a1.1.length : Int)), (25, vi (0 : Int))], [.box [vi (0 : Int), vi (0 : Int)]]⟩) (wk_ghosts hk (l := [.keep [4, 6, 7, 8, 23, 24, 25], .keep [4, 6, 7, 8, 23, 24, 25], .keep [4, 6, 7, 8, 23, 24, 25], .keep [4, 6, 7, 8, 23, 24, 25]]) (by kernel_rfl)) ⟨(gI a2.2 a3) * a1.2, 0, hz7, rfl⟩ ?_
  rintro n7 s ⟨x3, x4, hx7, rfl⟩
  have h := hI7 n7 x3 x4 hx7
  refine awp_spine ?_
  refine awp_rc tab [4, 6, 7, 8, 23, 24, 25, 26] [] [] [] [] ⟨62, [(4, .er [vb a2.1, .d (.sl (.int .i64)) a2.2]), (6, .ref 0 0 0), (7, vi (a1.1.length : Int)), (8, vi x3), (23, .d (.sl (.int .i64)) a1.1), (24, vi (a1.1.length : Int)), (25, vi x4), (26, vb (decide (x4 < (a1.1.length : Int))))], [.box [vi (0 : Int), vi (0 : Int)]]⟩ (by kernel_rfl) (trivial) ?_
  refine then_n (spine_c ?_)
  refine awp_spine ?_
  refine awp_cond (b := decide (x4 < (a1.1.length : Int))) (by kernel_rfl) (fun hb => ?_) (fun hb => ?_)
  · replace h := h.1 (of_decide_eq_true hb)
    refine awp_skip (then_n (spine_c ?_))
    refine awp_spine ?_
    refine awp_block ?_
    refine awp_spine ?_
    obtain ⟨o3, h⟩ := h
    refine awp_rc tab [4, 6, 7, 8, 9, 10, 23, 24, 25] [] [] [] [(0 : Int) ≤ x4 ∧ x4 < (a1.1.length : Int)] ⟨62, [(4, .er [vb a2.1, .d (.sl (.int .i64)) a2.2]), (6, .ref 0 0 0), (7, vi (a1.1.length : Int)), (8, vi x3), (9, vi x4), (10, vi (gI a1.1 x4)), (23, .d (.sl (.int .i64)) a1.1), (24, vi (a1.1.length : Int)), (25, vi x4)], [.box [vi (0 : Int), vi (0 : Int)]]⟩ (by kernel_rfl) (AllP.of (o3) trivial) ?_
    refine then_n (spine_c ?_)
    obtain ⟨o4, o5, o6, h⟩ := h
    refine awp_rc tab [4, 6, 7, 8, 23, 24, 25] [] [] [] [(0 : Int) ≤ x4 ∧ x4 < (a2.2.length : Int), -9223372036854775808 ≤ (gI a2.2 x4) * (gI a1.1 x4) ∧ (gI a2.2 x4) * (gI a1.1 x4) ≤ 9223372036854775807, -9223372036854775808 ≤ x3 + ((gI a2.2 x4) * (gI a1.1 x4)) ∧ x3 + ((gI a2.2 x4) * (gI a1.1 x4)) ≤ 9223372036854775807] ⟨62, [(4, .er [vb a2.1, .d (.sl (.int .i64)) a2.2]), (6, .ref 0 0 0), (7, vi (a1.1.length : Int)), (8, vi (x3 + ((gI a2.2 x4) * (gI a1.1 x4)))), (23, .d (.sl (.int .i64)) a1.1), (24, vi (a1.1.length : Int)), (25, vi x4)], [.box [vi (0 : Int), vi (0 : Int)]]⟩ (by kernel_rfl) (AllP.of (o4) (AllP.of (o5) (AllP.of (o6) trivial))) ?_
    refine then_n (spine_e (blk_n (then_n (spine_c ?_))))
    refine awp_abs (fun (x8 : Int) => ⟨62, [(4, .er [vb a2.1, .d (.sl (.int .i64)) a2.2]), (6, .ref 0 0 0), (7, vi (a1.1.length : Int)), (8, vi x8), (23, .d (.sl (.int .i64)) a1.1), (24, vi (a1.1.length : Int)), (25, vi x4)], [.box [vi (0 : Int), vi (0 : Int)]]⟩) (x3 + ((gI a2.2 x4) * (gI a1.1 x4))) ?_
    intro x8 hx8
    replace h := h x8 hx8
    obtain ⟨o7, h⟩ := h
    refine awp_rc tab [4, 6, 7, 8, 23, 24, 25] [] [] [] [-9223372036854775808 ≤ x4 + (1 : Int) ∧ x4 + (1 : Int) ≤ 9223372036854775807] ⟨62, [(4, .er [vb a2.1, .d (.sl (.int .i64)) a2.2]), (6, .ref 0 0 0), (7, vi (a1.1.length : Int)), (8, vi x8), (23, .d (.sl (.int .i64)) a1.1), (24, vi (a1.1.length : Int)), (25, vi (x4 + (1 : Int)))], [.box [vi (0 : Int), vi (0 : Int)]]⟩ (by kernel_rfl) (AllP.of (o7) trivial) ?_
    refine then_n (spine_e (then_n (spine_e (then_n (spine_e (then_n (?_)))))))
    obtain ⟨m, hm, h⟩ := h
    exact ⟨m, hm, ⟨62, [(4, .er [vb a2.1, .d (.sl (.int .i64)) a2.2]), (6, .ref 0 0 0), (7, vi (a1.1.length : Int)), (8, vi x8), (23, .d (.sl (.int .i64)) a1.1), (24, vi (a1.1.length : Int)), (25, vi (x4 + (1 : Int)))], [.box [vi (0 : Int), vi (0 : Int)]]⟩, wk_ghosts hk (l := [.keep [4, 6, 7, 8, 23, 24, 25], .keep [4, 6, 7, 8, 23, 24, 25], .keep [4, 6, 7, 8, 23, 24, 25]]) (by kernel_rfl), x8, x4 + (1 : Int), h, rfl⟩
  · replace h := h.2 (of_decide_eq_false hb)
    refine awp_exit (then_x (then_x (then_x (blk_h (then_n (spine_c ?_))))))
    refine awp_spine ?_
    obtain ⟨o8, h⟩ := h
    refine awp_rc tab [4, 6, 7, 8, 45] [] [] [] [(0 : Int) ≤ (a1.1.length : Int) ∧ (a1.1.length : Int) < (a2.2.length : Int)] ⟨62, [(4, .er [vb a2.1, .d (.sl (.int .i64)) a2.2]), (6, .ref 0 0 0), (7, vi (a1.1.length : Int)), (8, vi x3), (45, vb (decide ((gI a2.2 (a1.1.length : Int)) < (0 : Int))))], [.box [vi (0 : Int), vi (0 : Int)]]⟩ (by kernel_rfl) (AllP.of (o8) trivial) ?_
    refine then_n (spine_c ?_)
    refine awp_cond (b := decide ((gI a2.2 (a1.1.length : Int)) < (0 : Int))) (by kernel_rfl) (fun hb => ?_) (fun hb => ?_)
    · replace h := h.1 (of_decide_eq_true hb)
      refine awp_spine ?_
      obtain ⟨o9, o10, h⟩ := h
      refine awp_rc tab [6] [] [] [] [(0 : Int) ≤ (a1.1.length : Int) ∧ (a1.1.length : Int) < (a2.2.length : Int), -9223372036854775808 ≤ -(gI a2.2 (a1.1.length : Int)) ∧ -(gI a2.2 (a1.1.length : Int)) ≤ 9223372036854775807] ⟨62, [(6, .ref 0 0 0)], [.box [vi x3, vi (-(gI a2.2 (a1.1.length : Int)))]]⟩ (by kernel_rfl) (AllP.of (o9) (AllP.of (o10) trivial)) ?_
      refine then_n (spine_c ?_)
      refine awp_ret (then_r (then_r (then_r (then_r (then_r (then_r (?_)))))))
      exact ret_r (m := 0) (r := .agg [vi ((x3, -(gI a2.2 (a1.1.length : Int))).1), vi ((x3, -(gI a2.2 (a1.1.length : Int))).2)]) (objs := []) hk [.keep [6]] ⟨62, [(6, .ref 0 0 0)], [.box [vi x3, vi (-(gI a2.2 (a1.1.length : Int)))]]⟩ (by kernel_rfl) (by kernel_rfl) (Nat.le_refl 0) ⟨(x3, -(gI a2.2 (a1.1.length : Int))), rfl, rfl, h⟩
    · replace h := h.2 (of_decide_eq_false hb)
      refine awp_skip (then_n (spine_c ?_))
      refine awp_spine ?_
      obtain ⟨o11, o12, h⟩ := h
      refine awp_rc tab [6] [] [] [] [-9223372036854775808 ≤ -x3 ∧ -x3 ≤ 9223372036854775807, (0 : Int) ≤ (a1.1.length : Int) ∧ (a1.1.length : Int) < (a2.2.length : Int)] ⟨62, [(6, .ref 0 0 0)], [.box [vi (-x3), vi (gI a2.2 (a1.1.length : Int))]]⟩ (by kernel_rfl) (AllP.of (o11) (AllP.of (o12) trivial)) ?_
      refine then_n (spine_c ?_)
      refine awp_ret (then_r (then_r (then_r (then_r (then_r (then_r (?_)))))))
      exact ret_r (m := 0) (r := .agg [vi ((-x3, gI a2.2 (a1.1.length : Int)).1), vi ((-x3, gI a2.2 (a1.1.length : Int)).2)]) (objs := []) hk [.keep [6]] ⟨62, [(6, .ref 0 0 0)], [.box [vi (-x3), vi (gI a2.2 (a1.1.length : Int))]]⟩ (by kernel_rfl) (by kernel_rfl) (Nat.le_refl 0) ⟨(-x3, gI a2.2 (a1.1.length : Int)), rfl, rfl, h⟩
theorem ok_farkas_point_bound (a1 : farkas_point) (a2 : farkas_row) (a3 : Int) (h : farkas_point_bound.pre a1 a2 a3) : OkC prog 60 [.agg [.d (.sl (.int .i64)) a1.1, vi a1.2], .agg [vb a2.1, .d (.sl (.int .i64)) a2.2], vi a3] (.agg [vi ((farkas_point_bound.fn a1 a2 a3).1), vi ((farkas_point_bound.fn a1 a2 a3).2)]) :=
  OkC.of call_farkas_point_bound ((walk_farkas_point_bound a1 a2 a3 _ (farkas_point_bound.spec a1 a2 a3 h)).mono fun r o ⟨x, hr, ho, hx⟩ => ⟨by rw [hr, hx], ho⟩) rfl rfl (fun _ => rfl)

noncomputable abbrev Bfarkas_point_value : Code := bodyOf Try.f33
theorem call_farkas_point_value : CallOk prog 33 := ⟨_, Try.func33, by kernel_rfl, by kernel_rfl⟩
theorem walk_farkas_point_value (a1 : farkas_point) (a2 : farkas_table) (Q : farkas_fraction → Prop) (h : farkas_point_value.wp a1 a2 Q) : VCalls prog 33 [.agg [.d (.sl (.int .i64)) a1.1, vi a1.2], .agg [vi a2.1, .d (.sl t_farkas_row) a2.2]] [] (fun r o => ∃ x, r = .agg [vi x.1, vi x.2] ∧ o = [] ∧ Q x) := by
  refine vcalls_body tab Try.func33 (c := (spine (subC [0] Bfarkas_point_value) [(spine (subC [1, 0] Bfarkas_point_value) [(spine (subC [1, 1, 0] Bfarkas_point_value) [(spine (subC [1, 1, 1, 0, 0] Bfarkas_point_value) [(.block 0 (.loop (spine (subC [1, 1, 1, 0, 1, 0, 0, 0] Bfarkas_point_value) [(spine (.cond (.tmp 18) .skip (.exit 0)) [(spine (.block 1 (spine (subC [1, 1, 1, 0, 1, 0, 0, 1, 1, 0, 0, 0] Bfarkas_point_value) [(spine (subC [1, 1, 1, 0, 1, 0, 0, 1, 1, 0, 0, 1, 0, 0] Bfarkas_point_value) [(.cond (.tmp 26) (.exit 1) .skip), (spine (subC [1, 1, 1, 0, 1, 0, 0, 1, 1, 0, 0, 1, 1, 0] Bfarkas_point_value) [(.block 2 (spine (subC [1, 1, 1, 0, 1, 0, 0, 1, 1, 0, 0, 1, 1, 1, 0, 0] Bfarkas_point_value) [(.cond (.tmp 32) (spine (subC [1, 1, 1, 0, 1, 0, 0, 1, 1, 0, 0, 1, 1, 1, 0, 1, 0, 0] Bfarkas_point_value) [.ret]) (spine (subC [1, 1, 1, 0, 1, 0, 0, 1, 1, 0, 0, 1, 1, 1, 0, 1, 1, 0] Bfarkas_point_value) [(.cond (.tmp 36) (spine (subC [1, 1, 1, 0, 1, 0, 0, 1, 1, 0, 0, 1, 1, 1, 0, 1, 1, 1, 0, 0] Bfarkas_point_value) [(.cond (.tmp 51) (subC [1, 1, 1, 0, 1, 0, 0, 1, 1, 0, 0, 1, 1, 1, 0, 1, 1, 1, 0, 1, 0] Bfarkas_point_value) .skip)]) (spine (subC [1, 1, 1, 0, 1, 0, 0, 1, 1, 0, 0, 1, 1, 1, 0, 1, 1, 1, 1, 0] Bfarkas_point_value) [(.cond (.tmp 52) (subC [1, 1, 1, 0, 1, 0, 0, 1, 1, 0, 0, 1, 1, 1, 0, 1, 1, 1, 1, 1, 0] Bfarkas_point_value) .skip)]))]))]))])])])) [(subC [1, 1, 1, 0, 1, 0, 0, 1, 1, 1] Bfarkas_point_value)])])]))), (spine (subC [1, 1, 1, 1, 0, 0] Bfarkas_point_value) [(.cond (.tmp 64) (spine (subC [1, 1, 1, 1, 0, 1, 0, 0] Bfarkas_point_value) [.ret]) .skip), (spine (subC [1, 1, 1, 1, 1, 0, 0] Bfarkas_point_value) [(.cond (.tmp 69) (spine (subC [1, 1, 1, 1, 1, 0, 1, 0, 0] Bfarkas_point_value) [.ret]) .skip), (spine (subC [1, 1, 1, 1, 1, 1, 0] Bfarkas_point_value) [.ret])])])])])])])) (by kernel_rfl) (Nat.le_of_ble_eq_true (by kernel_rfl)) fun cx hd hi hk => ?_
  show AWp prog cx _ _ ⟨74, [(0, .agg [.d (.sl (.int .i64)) a1.1, vi a1.2]), (1, .agg [vi a2.1, .d (.sl t_farkas_row) a2.2])], []⟩
  replace hk : cx.E.len = 0 := hk
  unfold farkas_point_value.wp at h
  refine awp_spine ?_
  refine awp_rc tab [2, 3, 4] [] [] [0, 1] [] ⟨74, [(2, .er [.d (.sl (.int .i64)) a1.1, vi a1.2]), (3, .er [vi a2.1, .d (.sl t_farkas_row) a2.2]), (4, .ref 0 0 0)], [.box [vi (0 : Int), vi (0 : Int)]]⟩ (by kernel_rfl) (trivial) ?_
  refine then_n (spine_c ?_)
  refine awp_spine ?_
  refine awp_rc tab [2, 3, 4, 5] [] [] [] [] ⟨74, [(2, .er [.d (.sl (.int .i64)) a1.1, vi a1.2]), (3, .er [vi a2.1, .d (.sl t_farkas_row) a2.2]), (4, .ref 0 0 0), (5, vi (a1.1.length : Int))], [.box [vi (0 : Int), vi (0 : Int)]]⟩ (by kernel_rfl) (trivial) ?_
  refine then_n (spine_c ?_)
  refine awp_len 2 [0] (T := (.int .i64)) (l := a1.1) (by kernel_rfl) fun hl => ?_
  replace h := h hl
  refine awp_spine ?_
  refine awp_rc tab [2, 3, 4, 5, 6, 7] [] [] [] [] ⟨74, [(2, .er [.d (.sl (.int .i64)) a1.1, vi a1.2]), (3, .er [vi a2.1, .d (.sl t_farkas_row) a2.2]), (4, .ref 0 0 0), (5, vi (a1.1.length : Int)), (6, .nilp), (7, .nilp)], [.box [vi (0 : Int), vi (0 : Int)]]⟩ (by kernel_rfl) (trivial) ?_
  refine then_n (spine_c ?_)
  refine awp_spine ?_
  refine awp_rc tab [2, 3, 4, 5, 6, 7, 15, 16, 17] [] [] [] [] ⟨74, [(2, .er [.d (.sl (.int .i64)) a1.1, vi a1.2]), (3, .er [vi a2.1, .d (.sl t_farkas_row) a2.2]), (4, .ref 0 0 0), (5, vi (a1.1.length : Int)), (6, .nilp), (7, .nilp), (15, .d (.sl t_farkas_row) a2.2), (16, vi (a2.2.length : Int)), (17, vi (0 : Int))], [.box [vi (0 : Int), vi (0 : Int)]]⟩ (by kernel_rfl) (trivial) ?_
  refine then_n (spine_c ?_)
  refine awp_len 3 [1] (T := t_farkas_row) (l := a2.2) (by kernel_rfl) fun hl => ?_
  replace h := h hl
  refine awp_block ?_
  obtain ⟨I15, ⟨n15a, hz15⟩, hI15⟩ := h
  refine awp_loopN (fun n s => ∃ (x1 : Bool) (x2 : Int) (x3 : Int) (x4 : Bool) (x5 : Int) (x6 : Int) (x7 : Int), I15 n x1 x2 x3 x4 x5 x6 x7 ∧ s = ⟨74, [(2, .er [.d (.sl (.int .i64)) a1.1, vi a1.2]), (3, .er [vi a2.1, .d (.sl t_farkas_row) a2.2]), (4, .ref 0 0 0), (5, vi (a1.1.length : Int)), (6, .opt x1 (.er [vi x2, vi x3])), (7, .opt x4 (.er [vi x5, vi x6])), (15, .d (.sl t_farkas_row) a2.2), (16, vi (a2.2.length : Int)), (17, vi x7)], [.box [vi (0 : Int), vi (0 : Int)]]⟩) (n := n15a) (s0 := ⟨74, [(2, .er [.d (.sl (.int .i64)) a1.1, vi a1.2]), (3, .er [vi a2.1, .d (.sl t_farkas_row) a2.2]), (4, .ref 0 0 0), (5, vi (a1.1.length : Int)), (6, .opt false (.er [vi (0 : Int), vi (0 : Int)])), (7, .opt false (.er [vi (0 : Int), vi (0 : Int)])), (15, .d (.sl t_farkas_row) a2.2), (16, vi (a2.2.length : Int)), (17, vi (0 : Int))], [.box [vi (0 : Int), vi (0 : Int)]]⟩) (wk_ghosts hk (l := [.keep [2, 3, 4, 5, 6, 7, 15, 16, 17], .keep [2, 3, 4, 5, 6, 7, 15, 16, 17], .optN 6 (.er [vi (0 : Int), vi (0 : Int)]), .optN 7 (.er [vi (0 : Int), vi (0 : Int)]), .keep [2, 3, 4, 5, 6, 7, 15, 16, 17], .keep [2, 3, 4, 5, 6, 7, 15, 16, 17]]) (by kernel_rfl)) ⟨false, (0 : Int), (0 : Int), false, (0 : Int), (0 : Int), 0, hz15, rfl⟩ ?_
  rintro n15 s ⟨x1, x2, x3, x4, x5, x6, x7, hx15, rfl⟩
  have h := hI15 n15 x1 x2 x3 x4 x5 x6 x7 hx15
  refine awp_spine ?_
  refine awp_rc tab [2, 3, 4, 5, 6, 7, 15, 16, 17, 18] [] [] [] [] ⟨74, [(2, .er [.d (.sl (.int .i64)) a1.1, vi a1.2]), (3, .er [vi a2.1, .d (.sl t_farkas_row) a2.2]), (4, .ref 0 0 0), (5, vi (a1.1.length : Int)), (6, .opt x1 (.er [vi x2, vi x3])), (7, .opt x4 (.er [vi x5, vi x6])), (15, .d (.sl t_farkas_row) a2.2), (16, vi (a2.2.length : Int)), (17, vi x7), (18, vb (decide (x7 < (a2.2.length : Int))))], [.box [vi (0 : Int), vi (0 : Int)]]⟩ (by kernel_rfl) (trivial) ?_
  refine then_n (spine_c ?_)
  refine awp_spine ?_
  refine awp_cond (b := decide (x7 < (a2.2.length : Int))) (by kernel_rfl) (fun hb => ?_) (fun hb => ?_)
  · replace h := h.1 (of_decide_eq_true hb)
    refine awp_skip (then_n (spine_c ?_))
    refine awp_spine ?_
    refine awp_block ?_
    refine awp_spine ?_
    obtain ⟨o1, h⟩ := h
    refine awp_rc tab [2, 3, 4, 5, 6, 7, 9, 15, 16, 17] [] [] [] [(0 : Int) ≤ x7 ∧ x7 < (a2.2.length : Int)] ⟨74, [(2, .er [.d (.sl (.int .i64)) a1.1, vi a1.2]), (3, .er [vi a2.1, .d (.sl t_farkas_row) a2.2]), (4, .ref 0 0 0), (5, vi (a1.1.length : Int)), (6, .opt x1 (.er [vi x2, vi x3])), (7, .opt x4 (.er [vi x5, vi x6])), (9, .ref 1 0 0), (15, .d (.sl t_farkas_row) a2.2), (16, vi (a2.2.length : Int)), (17, vi x7)], [.box [vi (0 : Int), vi (0 : Int)], .box [vb ((a2.2.getD (Int.toNat x7) d_farkas_row).1), .d (.sl (.int .i64)) ((a2.2.getD (Int.toNat x7) d_farkas_row).2)]]⟩ (by kernel_rfl) (AllP.of (o1) trivial) ?_
    refine then_n (spine_c ?_)
    refine awp_abs (fun (x16 : farkas_row) => ⟨74, [(2, .er [.d (.sl (.int .i64)) a1.1, vi a1.2]), (3, .er [vi a2.1, .d (.sl t_farkas_row) a2.2]), (4, .ref 0 0 0), (5, vi (a1.1.length : Int)), (6, .opt x1 (.er [vi x2, vi x3])), (7, .opt x4 (.er [vi x5, vi x6])), (9, .ref 1 0 0), (15, .d (.sl t_farkas_row) a2.2), (16, vi (a2.2.length : Int)), (17, vi x7)], [.box [vi (0 : Int), vi (0 : Int)], .box [vb x16.1, .d (.sl (.int .i64)) x16.2]]⟩) (a2.2.getD (Int.toNat x7) d_farkas_row) ?_
    intro x16 hx16
    replace h := h x16 hx16
    refine awp_spine ?_
    obtain ⟨o2, h⟩ := h
    refine awp_rc tab [2, 3, 4, 5, 6, 7, 9, 15, 16, 17, 26] [] [] [] [(0 : Int) ≤ (a1.1.length : Int) ∧ (a1.1.length : Int) < (x16.2.length : Int)] ⟨74, [(2, .er [.d (.sl (.int .i64)) a1.1, vi a1.2]), (3, .er [vi a2.1, .d (.sl t_farkas_row) a2.2]), (4, .ref 0 0 0), (5, vi (a1.1.length : Int)), (6, .opt x1 (.er [vi x2, vi x3])), (7, .opt x4 (.er [vi x5, vi x6])), (9, .ref 1 0 0), (15, .d (.sl t_farkas_row) a2.2), (16, vi (a2.2.length : Int)), (17, vi x7), (26, vb ((gI x16.2 (a1.1.length : Int)) == (0 : Int)))], [.box [vi (0 : Int), vi (0 : Int)], .box [vb x16.1, .d (.sl (.int .i64)) x16.2]]⟩ (by kernel_rfl) (AllP.of (o2) trivial) ?_
    refine then_n (spine_c ?_)
    refine awp_cond (b := (gI x16.2 (a1.1.length : Int)) == (0 : Int)) (by kernel_rfl) (fun hb => ?_) (fun hb => ?_)
    · replace h := h.1 (eq_of_beq hb)
      refine awp_exit (then_x (then_x (blk_h (then_n (spine_c ?_)))))
      obtain ⟨o3, h⟩ := h
      refine awp_rc tab [2, 3, 4, 5, 6, 7, 15, 16, 17] [] [] [] [-9223372036854775808 ≤ x7 + (1 : Int) ∧ x7 + (1 : Int) ≤ 9223372036854775807] ⟨74, [(2, .er [.d (.sl (.int .i64)) a1.1, vi a1.2]), (3, .er [vi a2.1, .d (.sl t_farkas_row) a2.2]), (4, .ref 0 0 0), (5, vi (a1.1.length : Int)), (6, .opt x1 (.er [vi x2, vi x3])), (7, .opt x4 (.er [vi x5, vi x6])), (15, .d (.sl t_farkas_row) a2.2), (16, vi (a2.2.length : Int)), (17, vi (x7 + (1 : Int)))], [.box [vi (0 : Int), vi (0 : Int)], .box [vb x16.1, .d (.sl (.int .i64)) x16.2]]⟩ (by kernel_rfl) (AllP.of (o3) trivial) ?_
      refine then_n (spine_e (then_n (spine_e (then_n (spine_e (then_n (?_)))))))
      obtain ⟨m, hm, h⟩ := h
      exact ⟨m, hm, ⟨74, [(2, .er [.d (.sl (.int .i64)) a1.1, vi a1.2]), (3, .er [vi a2.1, .d (.sl t_farkas_row) a2.2]), (4, .ref 0 0 0), (5, vi (a1.1.length : Int)), (6, .opt x1 (.er [vi x2, vi x3])), (7, .opt x4 (.er [vi x5, vi x6])), (15, .d (.sl t_farkas_row) a2.2), (16, vi (a2.2.length : Int)), (17, vi (x7 + (1 : Int)))], [.box [vi (0 : Int), vi (0 : Int)]]⟩, wk_ghosts hk (l := [.keep [2, 3, 4, 5, 6, 7, 15, 16, 17], .keep [2, 3, 4, 5, 6, 7, 15, 16, 17], .cut 1, .keep [2, 3, 4, 5, 6, 7, 15, 16, 17]]) (by kernel_rfl), x1, x2, x3, x4, x5, x6, x7 + (1 : Int), h, rfl⟩
    · replace h := h.2 (ne_of_beq_false hb)
      refine awp_skip (then_n (spine_c ?_))
      refine awp_spine ?_
      obtain ⟨o4, h⟩ := h
      refine awp_rc tab [2, 3, 4, 5, 6, 7, 9, 10, 15, 16, 17] [] [(4, .dat (.agg [vi ((farkas_point_bound.fn a1 x16 a2.1).1), vi ((farkas_point_bound.fn a1 x16 a2.1).2)]))] [] [OkC prog 60 [.agg [.d (.sl (.int .i64)) a1.1, vi a1.2], .agg [vb x16.1, .d (.sl (.int .i64)) x16.2], vi a2.1] (.agg [vi ((farkas_point_bound.fn a1 x16 a2.1).1), vi ((farkas_point_bound.fn a1 x16 a2.1).2)])] ⟨74, [(2, .er [.d (.sl (.int .i64)) a1.1, vi a1.2]), (3, .er [vi a2.1, .d (.sl t_farkas_row) a2.2]), (4, .ref 0 0 0), (5, vi (a1.1.length : Int)), (6, .opt x1 (.er [vi x2, vi x3])), (7, .opt x4 (.er [vi x5, vi x6])), (9, .ref 1 0 0), (10, .ref 2 0 0), (15, .d (.sl t_farkas_row) a2.2), (16, vi (a2.2.length : Int)), (17, vi x7)], [.box [vi (0 : Int), vi (0 : Int)], .box [vb x16.1, .d (.sl (.int .i64)) x16.2], .box [vi ((farkas_point_bound.fn a1 x16 a2.1).1), vi ((farkas_point_bound.fn a1 x16 a2.1).2)]]⟩ (by kernel_rfl) (AllP.of (ok_farkas_point_bound a1 x16 a2.1 (o4)) trivial) ?_
      refine then_n (spine_c ?_)
      refine awp_abs (fun (x17 : farkas_fraction) => ⟨74, [(2, .er [.d (.sl (.int .i64)) a1.1, vi a1.2]), (3, .er [vi a2.1, .d (.sl t_farkas_row) a2.2]), (4, .ref 0 0 0), (5, vi (a1.1.length : Int)), (6, .opt x1 (.er [vi x2, vi x3])), (7, .opt x4 (.er [vi x5, vi x6])), (9, .ref 1 0 0), (10, .ref 2 0 0), (15, .d (.sl t_farkas_row) a2.2), (16, vi (a2.2.length : Int)), (17, vi x7)], [.box [vi (0 : Int), vi (0 : Int)], .box [vb x16.1, .d (.sl (.int .i64)) x16.2], .box [vi x17.1, vi x17.2]]⟩) (farkas_point_bound.fn a1 x16 a2.1) ?_
      intro x17 hx17
      replace h := h x17 hx17
      refine awp_abs (fun (x18 : Int) => ⟨74, [(2, .er [.d (.sl (.int .i64)) a1.1, vi a1.2]), (3, .er [vi a2.1, .d (.sl t_farkas_row) a2.2]), (4, .ref 0 0 0), (5, vi (a1.1.length : Int)), (6, .opt x1 (.er [vi x2, vi x3])), (7, .opt x4 (.er [vi x5, vi x6])), (9, .ref 1 0 0), (10, .ref 2 0 0), (15, .d (.sl t_farkas_row) a2.2), (16, vi (a2.2.length : Int)), (17, vi x7)], [.box [vi (0 : Int), vi (0 : Int)], .box [vb x16.1, .d (.sl (.int .i64)) x16.2], .box [vi x18, vi x17.2]]⟩) (x17.1) ?_
      intro x18 hx18
      replace h := h x18 hx18
      refine awp_abs (fun (x19 : Int) => ⟨74, [(2, .er [.d (.sl (.int .i64)) a1.1, vi a1.2]), (3, .er [vi a2.1, .d (.sl t_farkas_row) a2.2]), (4, .ref 0 0 0), (5, vi (a1.1.length : Int)), (6, .opt x1 (.er [vi x2, vi x3])), (7, .opt x4 (.er [vi x5, vi x6])), (9, .ref 1 0 0), (10, .ref 2 0 0), (15, .d (.sl t_farkas_row) a2.2), (16, vi (a2.2.length : Int)), (17, vi x7)], [.box [vi (0 : Int), vi (0 : Int)], .box [vb x16.1, .d (.sl (.int .i64)) x16.2], .box [vi x18, vi x19]]⟩) (x17.2) ?_
      intro x19 hx19
      replace h := h x19 hx19
      refine awp_block ?_
      refine awp_spine ?_
      refine awp_rc tab [2, 3, 4, 5, 6, 7, 9, 10, 15, 16, 17, 32] [] [] [] [] ⟨74, [(2, .er [.d (.sl (.int .i64)) a1.1, vi a1.2]), (3, .er [vi a2.1, .d (.sl t_farkas_row) a2.2]), (4, .ref 0 0 0), (5, vi (a1.1.length : Int)), (6, .opt x1 (.er [vi x2, vi x3])), (7, .opt x4 (.er [vi x5, vi x6])), (9, .ref 1 0 0), (10, .ref 2 0 0), (15, .d (.sl t_farkas_row) a2.2), (16, vi (a2.2.length : Int)), (17, vi x7), (32, vb x16.1)], [.box [vi (0 : Int), vi (0 : Int)], .box [vb x16.1, .d (.sl (.int .i64)) x16.2], .box [vi x18, vi x19]]⟩ (by kernel_rfl) (trivial) ?_
      refine then_n (spine_c ?_)
      refine awp_cond (b := x16.1) (by kernel_rfl) (fun hb => ?_) (fun hb => ?_)
      · replace h := h.1 (hb)
        refine awp_spine ?_
        refine awp_rc tab [4] [] [] [] [] ⟨74, [(4, .ref 0 0 0)], [.box [vi x18, vi x19], .box [vb x16.1, .d (.sl (.int .i64)) x16.2], .box [vi x18, vi x19]]⟩ (by kernel_rfl) (trivial) ?_
        refine then_n (spine_c ?_)
        refine awp_ret (then_r (then_r (blk_r (then_r (then_r (then_r (blk_r (then_r (then_r (then_r (then_r (blk_r (then_r (then_r (then_r (then_r (?_)))))))))))))))))
        exact ret_r (m := 0) (r := .agg [vi ((x18, x19).1), vi ((x18, x19).2)]) (objs := []) hk [.keep [4]] ⟨74, [(4, .ref 0 0 0)], [.box [vi x18, vi x19], .box [vb x16.1, .d (.sl (.int .i64)) x16.2], .box [vi x18, vi x19]]⟩ (by kernel_rfl) (by kernel_rfl) (Nat.le_refl 0) ⟨(x18, x19), rfl, rfl, h⟩
      · replace h := h.2 (hb)
        refine awp_spine ?_
        obtain ⟨o5, h⟩ := h
        refine awp_rc tab [2, 3, 4, 5, 6, 7, 10, 15, 16, 17, 36] [] [] [] [(0 : Int) ≤ (a1.1.length : Int) ∧ (a1.1.length : Int) < (x16.2.length : Int)] ⟨74, [(2, .er [.d (.sl (.int .i64)) a1.1, vi a1.2]), (3, .er [vi a2.1, .d (.sl t_farkas_row) a2.2]), (4, .ref 0 0 0), (5, vi (a1.1.length : Int)), (6, .opt x1 (.er [vi x2, vi x3])), (7, .opt x4 (.er [vi x5, vi x6])), (10, .ref 2 0 0), (15, .d (.sl t_farkas_row) a2.2), (16, vi (a2.2.length : Int)), (17, vi x7), (36, vb (decide ((gI x16.2 (a1.1.length : Int)) > (0 : Int))))], [.box [vi (0 : Int), vi (0 : Int)], .box [vb x16.1, .d (.sl (.int .i64)) x16.2], .box [vi x18, vi x19]]⟩ (by kernel_rfl) (AllP.of (o5) trivial) ?_
        refine then_n (spine_c ?_)
        refine awp_cond (b := decide ((gI x16.2 (a1.1.length : Int)) > (0 : Int))) (by kernel_rfl) (fun hb => ?_) (fun hb => ?_)
        · replace h := h.1 (of_decide_eq_true hb)
          refine awp_spine ?_
          obtain ⟨o6, h⟩ := h
          refine awp_dr tab mixed [2, 3, 4, 5, 6, 7, 10, 15, 16, 17, 51] [] [(7, .dat (vb (farkas_fraction_less.fn (x2, x3) (x18, x19))))] [] ⟨[[], [0], [0, 1], [0, 1, 2], [0, 1, 2, 3], [0, 1, 2, 3, 4], [0, 1, 2], [0, 1, 2, 3, 4, 5, 6], [0, 1, 2, 3, 4, 5, 6, 7]], [.opt x1 (.er [vi x2, vi x3]), vb (!x1), vb (!x1), .when (!(!x1)) (.opt x1 (.er [vi x2, vi x3])), .when (!(!x1)) (.er [vi x2, vi x3]), .when (!(!x1)) (.agg [vi x2, vi x3]), .when (!(!x1)) (.agg [vi x18, vi x19]), .when (!(!x1)) (vb (farkas_fraction_less.fn (x2, x3) (x18, x19))), vb ((!x1) || (farkas_fraction_less.fn (x2, x3) (x18, x19)))], [none, none, none, none, some ((!(!x1)) = true → (!(!x1)) = true ∧ (x1 = true)), some ((!(!x1)) = true → (!(!x1)) = true ∧ True), none, some ((!(!x1)) = true → (!(!x1)) = true ∧ ((!(!x1)) = true ∧ (OkC prog 61 [.agg [vi x2, vi x3], .agg [vi x18, vi x19]] (vb (farkas_fraction_less.fn (x2, x3) (x18, x19)))))), some ((!x1) = false → (!(!x1)) = true)], [], [([], [.box [vi (0 : Int), vi (0 : Int)], .box [vb x16.1, .d (.sl (.int .i64)) x16.2], .box [vi x18, vi x19]])]⟩ ⟨74, [(2, .er [.d (.sl (.int .i64)) a1.1, vi a1.2]), (3, .er [vi a2.1, .d (.sl t_farkas_row) a2.2]), (4, .ref 0 0 0), (5, vi (a1.1.length : Int)), (6, .opt x1 (.er [vi x2, vi x3])), (7, .opt x4 (.er [vi x5, vi x6])), (10, .ref 2 0 0), (15, .d (.sl t_farkas_row) a2.2), (16, vi (a2.2.length : Int)), (17, vi x7), (51, vb ((!x1) || (farkas_fraction_less.fn (x2, x3) (x18, x19))))], [.box [vi (0 : Int), vi (0 : Int)], .box [vb x16.1, .d (.sl (.int .i64)) x16.2], .box [vi x18, vi x19]]⟩ (by kernel_rfl) (AllO.n (AllO.n (AllO.n (AllO.n (AllO.s (fun hg => ⟨hg, nn hg⟩) (AllO.s (fun hg => ⟨hg, trivial⟩) (AllO.n (AllO.s (fun hg => ⟨hg, hg, ok_farkas_fraction_less (x2, x3) (x18, x19) ((o6 hg))⟩) (AllO.s (fun hc => not_f hc) (AllO.e)))))))))) ?_
          refine then_n (spine_c ?_)
          refine awp_cond (b := (!x1) || (farkas_fraction_less.fn (x2, x3) (x18, x19))) (by kernel_rfl) (fun hb => ?_) (fun hb => ?_)
          · replace h := h.1 (hb)
            refine awp_rc tab [2, 3, 4, 5, 6, 7, 15, 16, 17] [] [] [] [] ⟨74, [(2, .er [.d (.sl (.int .i64)) a1.1, vi a1.2]), (3, .er [vi a2.1, .d (.sl t_farkas_row) a2.2]), (4, .ref 0 0 0), (5, vi (a1.1.length : Int)), (6, .ref 2 0 0), (7, .opt x4 (.er [vi x5, vi x6])), (15, .d (.sl t_farkas_row) a2.2), (16, vi (a2.2.length : Int)), (17, vi x7)], [.box [vi (0 : Int), vi (0 : Int)], .box [vb x16.1, .d (.sl (.int .i64)) x16.2], .box [vi x18, vi x19]]⟩ (by kernel_rfl) (trivial) ?_
            refine then_n (spine_e (then_n (spine_e (then_n (spine_e (blk_n (then_n (spine_e (then_n (spine_e (then_n (spine_e (blk_n (then_n (spine_c ?_)))))))))))))))
            obtain ⟨o7, h⟩ := h
            refine awp_rc tab [2, 3, 4, 5, 6, 7, 15, 16, 17] [] [] [] [-9223372036854775808 ≤ x7 + (1 : Int) ∧ x7 + (1 : Int) ≤ 9223372036854775807] ⟨74, [(2, .er [.d (.sl (.int .i64)) a1.1, vi a1.2]), (3, .er [vi a2.1, .d (.sl t_farkas_row) a2.2]), (4, .ref 0 0 0), (5, vi (a1.1.length : Int)), (6, .ref 2 0 0), (7, .opt x4 (.er [vi x5, vi x6])), (15, .d (.sl t_farkas_row) a2.2), (16, vi (a2.2.length : Int)), (17, vi (x7 + (1 : Int)))], [.box [vi (0 : Int), vi (0 : Int)], .box [vb x16.1, .d (.sl (.int .i64)) x16.2], .box [vi x18, vi x19]]⟩ (by kernel_rfl) (AllP.of (o7) trivial) ?_
            refine then_n (spine_e (then_n (spine_e (then_n (spine_e (then_n (?_)))))))
            obtain ⟨m, hm, h⟩ := h
            exact ⟨m, hm, ⟨74, [(2, .er [.d (.sl (.int .i64)) a1.1, vi a1.2]), (3, .er [vi a2.1, .d (.sl t_farkas_row) a2.2]), (4, .ref 0 0 0), (5, vi (a1.1.length : Int)), (6, .opt true (.er [vi x18, vi x19])), (7, .opt x4 (.er [vi x5, vi x6])), (15, .d (.sl t_farkas_row) a2.2), (16, vi (a2.2.length : Int)), (17, vi (x7 + (1 : Int)))], [.box [vi (0 : Int), vi (0 : Int)]]⟩, wk_ghosts hk (l := [.keep [2, 3, 4, 5, 6, 7, 15, 16, 17], .freeze 2, .optS 6, .keep [2, 3, 4, 5, 6, 7, 15, 16, 17], .cut 1, .keep [2, 3, 4, 5, 6, 7, 15, 16, 17]]) (by kernel_rfl), true, x18, x19, x4, x5, x6, x7 + (1 : Int), h, rfl⟩
          · replace h := h.2 (hb)
            refine awp_skip (then_n (spine_e (then_n (spine_e (then_n (spine_e (blk_n (then_n (spine_e (then_n (spine_e (then_n (spine_e (blk_n (then_n (spine_c ?_))))))))))))))))
            obtain ⟨o8, h⟩ := h
            refine awp_rc tab [2, 3, 4, 5, 6, 7, 15, 16, 17] [] [] [] [-9223372036854775808 ≤ x7 + (1 : Int) ∧ x7 + (1 : Int) ≤ 9223372036854775807] ⟨74, [(2, .er [.d (.sl (.int .i64)) a1.1, vi a1.2]), (3, .er [vi a2.1, .d (.sl t_farkas_row) a2.2]), (4, .ref 0 0 0), (5, vi (a1.1.length : Int)), (6, .opt x1 (.er [vi x2, vi x3])), (7, .opt x4 (.er [vi x5, vi x6])), (15, .d (.sl t_farkas_row) a2.2), (16, vi (a2.2.length : Int)), (17, vi (x7 + (1 : Int)))], [.box [vi (0 : Int), vi (0 : Int)], .box [vb x16.1, .d (.sl (.int .i64)) x16.2], .box [vi x18, vi x19]]⟩ (by kernel_rfl) (AllP.of (o8) trivial) ?_
            refine then_n (spine_e (then_n (spine_e (then_n (spine_e (then_n (?_)))))))
            obtain ⟨m, hm, h⟩ := h
            exact ⟨m, hm, ⟨74, [(2, .er [.d (.sl (.int .i64)) a1.1, vi a1.2]), (3, .er [vi a2.1, .d (.sl t_farkas_row) a2.2]), (4, .ref 0 0 0), (5, vi (a1.1.length : Int)), (6, .opt x1 (.er [vi x2, vi x3])), (7, .opt x4 (.er [vi x5, vi x6])), (15, .d (.sl t_farkas_row) a2.2), (16, vi (a2.2.length : Int)), (17, vi (x7 + (1 : Int)))], [.box [vi (0 : Int), vi (0 : Int)]]⟩, wk_ghosts hk (l := [.keep [2, 3, 4, 5, 6, 7, 15, 16, 17], .keep [2, 3, 4, 5, 6, 7, 15, 16, 17], .cut 1, .keep [2, 3, 4, 5, 6, 7, 15, 16, 17]]) (by kernel_rfl), x1, x2, x3, x4, x5, x6, x7 + (1 : Int), h, rfl⟩
        · replace h := h.2 (of_decide_eq_false hb)
          refine awp_spine ?_
          obtain ⟨o9, h⟩ := h
          refine awp_dr tab mixed [2, 3, 4, 5, 6, 7, 10, 15, 16, 17, 52] [] [(7, .dat (vb (farkas_fraction_less.fn (x18, x19) (x5, x6))))] [] ⟨[[], [0], [0, 1], [0, 1, 2], [0, 1, 2], [0, 1, 2, 4], [0, 1, 2, 4, 5], [0, 1, 2, 3, 4, 5, 6], [0, 1, 2, 3, 4, 5, 6, 7], [0, 1, 2, 3, 4, 5, 6, 7, 8]], [.opt x4 (.er [vi x5, vi x6]), vb (!x4), vb (!x4), .when (!(!x4)) (.agg [vi x18, vi x19]), .when (!(!x4)) (.opt x4 (.er [vi x5, vi x6])), .when (!(!x4)) (.er [vi x5, vi x6]), .when (!(!x4)) (.agg [vi x5, vi x6]), .when (!(!x4)) (vb (farkas_fraction_less.fn (x18, x19) (x5, x6))), vb ((!x4) || (farkas_fraction_less.fn (x18, x19) (x5, x6))), vb ((!x4) || (farkas_fraction_less.fn (x18, x19) (x5, x6)))], [none, none, none, none, none, some ((!(!x4)) = true → (!(!x4)) = true ∧ (x4 = true)), some ((!(!x4)) = true → (!(!x4)) = true ∧ True), some ((!(!x4)) = true → (!(!x4)) = true ∧ ((!(!x4)) = true ∧ (OkC prog 61 [.agg [vi x18, vi x19], .agg [vi x5, vi x6]] (vb (farkas_fraction_less.fn (x18, x19) (x5, x6)))))), some ((!x4) = false → (!(!x4)) = true), none], [], [([], [.box [vi (0 : Int), vi (0 : Int)], .box [vb x16.1, .d (.sl (.int .i64)) x16.2], .box [vi x18, vi x19]])]⟩ ⟨74, [(2, .er [.d (.sl (.int .i64)) a1.1, vi a1.2]), (3, .er [vi a2.1, .d (.sl t_farkas_row) a2.2]), (4, .ref 0 0 0), (5, vi (a1.1.length : Int)), (6, .opt x1 (.er [vi x2, vi x3])), (7, .opt x4 (.er [vi x5, vi x6])), (10, .ref 2 0 0), (15, .d (.sl t_farkas_row) a2.2), (16, vi (a2.2.length : Int)), (17, vi x7), (52, vb ((!x4) || (farkas_fraction_less.fn (x18, x19) (x5, x6))))], [.box [vi (0 : Int), vi (0 : Int)], .box [vb x16.1, .d (.sl (.int .i64)) x16.2], .box [vi x18, vi x19]]⟩ (by kernel_rfl) (AllO.n (AllO.n (AllO.n (AllO.n (AllO.n (AllO.s (fun hg => ⟨hg, nn hg⟩) (AllO.s (fun hg => ⟨hg, trivial⟩) (AllO.s (fun hg => ⟨hg, hg, ok_farkas_fraction_less (x18, x19) (x5, x6) ((o9 hg))⟩) (AllO.s (fun hc => not_f hc) (AllO.n (AllO.e))))))))))) ?_
          refine then_n (spine_c ?_)
          refine awp_cond (b := (!x4) || (farkas_fraction_less.fn (x18, x19) (x5, x6))) (by kernel_rfl) (fun hb => ?_) (fun hb => ?_)
          · replace h := h.1 (hb)
            refine awp_rc tab [2, 3, 4, 5, 6, 7, 15, 16, 17] [] [] [] [] ⟨74, [(2, .er [.d (.sl (.int .i64)) a1.1, vi a1.2]), (3, .er [vi a2.1, .d (.sl t_farkas_row) a2.2]), (4, .ref 0 0 0), (5, vi (a1.1.length : Int)), (6, .opt x1 (.er [vi x2, vi x3])), (7, .ref 2 0 0), (15, .d (.sl t_farkas_row) a2.2), (16, vi (a2.2.length : Int)), (17, vi x7)], [.box [vi (0 : Int), vi (0 : Int)], .box [vb x16.1, .d (.sl (.int .i64)) x16.2], .box [vi x18, vi x19]]⟩ (by kernel_rfl) (trivial) ?_
            refine then_n (spine_e (then_n (spine_e (then_n (spine_e (blk_n (then_n (spine_e (then_n (spine_e (then_n (spine_e (blk_n (then_n (spine_c ?_)))))))))))))))
            obtain ⟨o10, h⟩ := h
            refine awp_rc tab [2, 3, 4, 5, 6, 7, 15, 16, 17] [] [] [] [-9223372036854775808 ≤ x7 + (1 : Int) ∧ x7 + (1 : Int) ≤ 9223372036854775807] ⟨74, [(2, .er [.d (.sl (.int .i64)) a1.1, vi a1.2]), (3, .er [vi a2.1, .d (.sl t_farkas_row) a2.2]), (4, .ref 0 0 0), (5, vi (a1.1.length : Int)), (6, .opt x1 (.er [vi x2, vi x3])), (7, .ref 2 0 0), (15, .d (.sl t_farkas_row) a2.2), (16, vi (a2.2.length : Int)), (17, vi (x7 + (1 : Int)))], [.box [vi (0 : Int), vi (0 : Int)], .box [vb x16.1, .d (.sl (.int .i64)) x16.2], .box [vi x18, vi x19]]⟩ (by kernel_rfl) (AllP.of (o10) trivial) ?_
            refine then_n (spine_e (then_n (spine_e (then_n (spine_e (then_n (?_)))))))
            obtain ⟨m, hm, h⟩ := h
            exact ⟨m, hm, ⟨74, [(2, .er [.d (.sl (.int .i64)) a1.1, vi a1.2]), (3, .er [vi a2.1, .d (.sl t_farkas_row) a2.2]), (4, .ref 0 0 0), (5, vi (a1.1.length : Int)), (6, .opt x1 (.er [vi x2, vi x3])), (7, .opt true (.er [vi x18, vi x19])), (15, .d (.sl t_farkas_row) a2.2), (16, vi (a2.2.length : Int)), (17, vi (x7 + (1 : Int)))], [.box [vi (0 : Int), vi (0 : Int)]]⟩, wk_ghosts hk (l := [.keep [2, 3, 4, 5, 6, 7, 15, 16, 17], .freeze 2, .optS 7, .keep [2, 3, 4, 5, 6, 7, 15, 16, 17], .cut 1, .keep [2, 3, 4, 5, 6, 7, 15, 16, 17]]) (by kernel_rfl), x1, x2, x3, true, x18, x19, x7 + (1 : Int), h, rfl⟩
          · replace h := h.2 (hb)
            refine awp_skip (then_n (spine_e (then_n (spine_e (then_n (spine_e (blk_n (then_n (spine_e (then_n (spine_e (then_n (spine_e (blk_n (then_n (spine_c ?_))))))))))))))))
            obtain ⟨o11, h⟩ := h
            refine awp_rc tab [2, 3, 4, 5, 6, 7, 15, 16, 17] [] [] [] [-9223372036854775808 ≤ x7 + (1 : Int) ∧ x7 + (1 : Int) ≤ 9223372036854775807] ⟨74, [(2, .er [.d (.sl (.int .i64)) a1.1, vi a1.2]), (3, .er [vi a2.1, .d (.sl t_farkas_row) a2.2]), (4, .ref 0 0 0), (5, vi (a1.1.length : Int)), (6, .opt x1 (.er [vi x2, vi x3])), (7, .opt x4 (.er [vi x5, vi x6])), (15, .d (.sl t_farkas_row) a2.2), (16, vi (a2.2.length : Int)), (17, vi (x7 + (1 : Int)))], [.box [vi (0 : Int), vi (0 : Int)], .box [vb x16.1, .d (.sl (.int .i64)) x16.2], .box [vi x18, vi x19]]⟩ (by kernel_rfl) (AllP.of (o11) trivial) ?_
            refine then_n (spine_e (then_n (spine_e (then_n (spine_e (then_n (?_)))))))
            obtain ⟨m, hm, h⟩ := h
            exact ⟨m, hm, ⟨74, [(2, .er [.d (.sl (.int .i64)) a1.1, vi a1.2]), (3, .er [vi a2.1, .d (.sl t_farkas_row) a2.2]), (4, .ref 0 0 0), (5, vi (a1.1.length : Int)), (6, .opt x1 (.er [vi x2, vi x3])), (7, .opt x4 (.er [vi x5, vi x6])), (15, .d (.sl t_farkas_row) a2.2), (16, vi (a2.2.length : Int)), (17, vi (x7 + (1 : Int)))], [.box [vi (0 : Int), vi (0 : Int)]]⟩, wk_ghosts hk (l := [.keep [2, 3, 4, 5, 6, 7, 15, 16, 17], .keep [2, 3, 4, 5, 6, 7, 15, 16, 17], .cut 1, .keep [2, 3, 4, 5, 6, 7, 15, 16, 17]]) (by kernel_rfl), x1, x2, x3, x4, x5, x6, x7 + (1 : Int), h, rfl⟩
  · replace h := h.2 (of_decide_eq_false hb)
    refine awp_exit (then_x (then_x (then_x (blk_h (then_n (spine_c ?_))))))
    refine awp_spine ?_
    refine awp_rc tab [4, 6, 7, 64] [] [] [] [] ⟨74, [(4, .ref 0 0 0), (6, .opt x1 (.er [vi x2, vi x3])), (7, .opt x4 (.er [vi x5, vi x6])), (64, vb (!(!x1)))], [.box [vi (0 : Int), vi (0 : Int)]]⟩ (by kernel_rfl) (trivial) ?_
    refine then_n (spine_c ?_)
    refine awp_cond (b := !(!x1)) (by kernel_rfl) (fun hb => ?_) (fun hb => ?_)
    · replace h := h.1 ((nf (nt hb)))
      refine awp_spine ?_
      obtain ⟨o12, h⟩ := h
      refine awp_rc tab [4] [] [] [] [x1 = true] ⟨74, [(4, .ref 0 0 0)], [.box [vi x2, vi x3]]⟩ (by kernel_rfl) (AllP.of (o12) trivial) ?_
      refine then_n (spine_c ?_)
      refine awp_ret (then_r (then_r (then_r (then_r (then_r (then_r (?_)))))))
      exact ret_r (m := 0) (r := .agg [vi ((x2, x3).1), vi ((x2, x3).2)]) (objs := []) hk [.keep [4]] ⟨74, [(4, .ref 0 0 0)], [.box [vi x2, vi x3]]⟩ (by kernel_rfl) (by kernel_rfl) (Nat.le_refl 0) ⟨(x2, x3), rfl, rfl, h⟩
    · replace h := h.2 ((nt (nf hb)))
      refine awp_skip (then_n (spine_c ?_))
      refine awp_spine ?_
      refine awp_rc tab [4, 7, 69] [] [] [] [] ⟨74, [(4, .ref 0 0 0), (7, .opt x4 (.er [vi x5, vi x6])), (69, vb (!(!x4)))], [.box [vi (0 : Int), vi (0 : Int)]]⟩ (by kernel_rfl) (trivial) ?_
      refine then_n (spine_c ?_)
      refine awp_cond (b := !(!x4)) (by kernel_rfl) (fun hb => ?_) (fun hb => ?_)
      · replace h := h.1 ((nf (nt hb)))
        refine awp_spine ?_
        obtain ⟨o13, h⟩ := h
        refine awp_rc tab [4] [] [] [] [x4 = true] ⟨74, [(4, .ref 0 0 0)], [.box [vi x5, vi x6]]⟩ (by kernel_rfl) (AllP.of (o13) trivial) ?_
        refine then_n (spine_c ?_)
        refine awp_ret (then_r (then_r (then_r (then_r (then_r (then_r (then_r (?_))))))))
        exact ret_r (m := 0) (r := .agg [vi ((x5, x6).1), vi ((x5, x6).2)]) (objs := []) hk [.keep [4]] ⟨74, [(4, .ref 0 0 0)], [.box [vi x5, vi x6]]⟩ (by kernel_rfl) (by kernel_rfl) (Nat.le_refl 0) ⟨(x5, x6), rfl, rfl, h⟩
      · replace h := h.2 ((nt (nf hb)))
        refine awp_skip (then_n (spine_c ?_))
        refine awp_spine ?_
        refine awp_rc tab [4] [] [] [] [] ⟨74, [(4, .ref 0 0 0)], [.box [vi (0 : Int), vi (1 : Int)]]⟩ (by kernel_rfl) (trivial) ?_
        refine then_n (spine_c ?_)
        refine awp_ret (then_r (then_r (then_r (then_r (then_r (then_r (then_r (?_))))))))
        exact ret_r (m := 0) (r := .agg [vi ((0, 1).1), vi ((0, 1).2)]) (objs := []) hk [.keep [4]] ⟨74, [(4, .ref 0 0 0)], [.box [vi (0 : Int), vi (1 : Int)]]⟩ (by kernel_rfl) (by kernel_rfl) (Nat.le_refl 0) ⟨(0, 1), rfl, rfl, h⟩
theorem ok_farkas_point_value (a1 : farkas_point) (a2 : farkas_table) (h : farkas_point_value.pre a1 a2) : OkC prog 33 [.agg [.d (.sl (.int .i64)) a1.1, vi a1.2], .agg [vi a2.1, .d (.sl t_farkas_row) a2.2]] (.agg [vi ((farkas_point_value.fn a1 a2).1), vi ((farkas_point_value.fn a1 a2).2)]) :=
  OkC.of call_farkas_point_value ((walk_farkas_point_value a1 a2 _ (farkas_point_value.spec a1 a2 h)).mono fun r o ⟨x, hr, ho, hx⟩ => ⟨by rw [hr, hx], ho⟩) rfl rfl (fun _ => rfl)

noncomputable abbrev Bfarkas_point_with : Code := bodyOf Try.f32
theorem call_farkas_point_with : CallOk prog 32 := ⟨_, Try.func32, by kernel_rfl, by kernel_rfl⟩
theorem walk_farkas_point_with (a1 : farkas_point) (a2 : farkas_fraction) (Q : farkas_point × Int → Prop) (h : farkas_point_with.wp a1 a2 Q) : VCalls prog 32 [.agg [.d (.sl (.int .i64)) a1.1, vi a1.2], .agg [vi a2.1, vi a2.2]] [] (fun r o => ∃ x, r = .tup [.agg [.d (.sl (.int .i64)) x.1.1, vi x.1.2], vi x.2] ∧ o = [] ∧ Q x) := by
  refine vcalls_body tab Try.func32 (c := (spine (subC [0] Bfarkas_point_with) [(spine (subC [1, 0] Bfarkas_point_with) [(spine (subC [1, 1, 0] Bfarkas_point_with) [(spine (subC [1, 1, 1, 0] Bfarkas_point_with) [(spine (subC [1, 1, 1, 1, 0] Bfarkas_point_with) [(spine (subC [1, 1, 1, 1, 1, 0, 0] Bfarkas_point_with) [(.cond (.tmp 60) (spine (subC [1, 1, 1, 1, 1, 0, 1, 0, 0] Bfarkas_point_with) [.ret]) .skip), (spine (subC [1, 1, 1, 1, 1, 1, 0] Bfarkas_point_with) [(spine (subC [1, 1, 1, 1, 1, 1, 1, 0] Bfarkas_point_with) [(spine (subC [1, 1, 1, 1, 1, 1, 1, 1, 0] Bfarkas_point_with) [(spine (subC [1, 1, 1, 1, 1, 1, 1, 1, 1, 0, 0] Bfarkas_point_with) [(.cond (.tmp 80) (spine (subC [1, 1, 1, 1, 1, 1, 1, 1, 1, 0, 1, 0, 0] Bfarkas_point_with) [.ret]) .skip), (spine (subC [1, 1, 1, 1, 1, 1, 1, 1, 1, 1, 0] Bfarkas_point_with) [(spine (subC [1, 1, 1, 1, 1, 1, 1, 1, 1, 1, 1, 0, 0] Bfarkas_point_with) [(.block 0 (.loop (spine (subC [1, 1, 1, 1, 1, 1, 1, 1, 1, 1, 1, 0, 1, 0, 0, 0] Bfarkas_point_with) [(spine (.cond (.tmp 88) .skip (.exit 0)) [(spine (.block 1 (spine (subC [1, 1, 1, 1, 1, 1, 1, 1, 1, 1, 1, 0, 1, 0, 0, 1, 1, 0, 0, 0] Bfarkas_point_with) [(subC [1, 1, 1, 1, 1, 1, 1, 1, 1, 1, 1, 0, 1, 0, 0, 1, 1, 0, 0, 1] Bfarkas_point_with)])) [(subC [1, 1, 1, 1, 1, 1, 1, 1, 1, 1, 1, 0, 1, 0, 0, 1, 1, 1] Bfarkas_point_with)])])]))), (spine (subC [1, 1, 1, 1, 1, 1, 1, 1, 1, 1, 1, 1, 0, 0] Bfarkas_point_with) [(.cond (.tmp 108) (spine (subC [1, 1, 1, 1, 1, 1, 1, 1, 1, 1, 1, 1, 0, 1, 0, 0] Bfarkas_point_with) [.ret]) .skip), (spine (subC [1, 1, 1, 1, 1, 1, 1, 1, 1, 1, 1, 1, 1, 0] Bfarkas_point_with) [(spine (subC [1, 1, 1, 1, 1, 1, 1, 1, 1, 1, 1, 1, 1, 1, 0, 0] Bfarkas_point_with) [(.block 2 (.loop (spine (subC [1, 1, 1, 1, 1, 1, 1, 1, 1, 1, 1, 1, 1, 1, 0, 1, 0, 0, 0] Bfarkas_point_with) [(spine (.cond (.tmp 124) .skip (.exit 2)) [(spine (.block 3 (spine (subC [1, 1, 1, 1, 1, 1, 1, 1, 1, 1, 1, 1, 1, 1, 0, 1, 0, 0, 1, 1, 0, 0, 0] Bfarkas_point_with) [(spine (subC [1, 1, 1, 1, 1, 1, 1, 1, 1, 1, 1, 1, 1, 1, 0, 1, 0, 0, 1, 1, 0, 0, 1, 0] Bfarkas_point_with) [(.cond (.tmp 132) (spine (subC [1, 1, 1, 1, 1, 1, 1, 1, 1, 1, 1, 1, 1, 1, 0, 1, 0, 0, 1, 1, 0, 0, 1, 1, 0, 0] Bfarkas_point_with) [.ret]) .skip)])])) [(subC [1, 1, 1, 1, 1, 1, 1, 1, 1, 1, 1, 1, 1, 1, 0, 1, 0, 0, 1, 1, 1] Bfarkas_point_with)])])]))), (spine (subC [1, 1, 1, 1, 1, 1, 1, 1, 1, 1, 1, 1, 1, 1, 1, 0] Bfarkas_point_with) [.ret])])])])])])])])])])])])])])])])) (by kernel_rfl) (Nat.le_of_ble_eq_true (by kernel_rfl)) fun cx hd hi hk => ?_
  show AWp prog cx _ _ ⟨136, [(0, .agg [.d (.sl (.int .i64)) a1.1, vi a1.2]), (1, .agg [vi a2.1, vi a2.2])], []⟩
  replace hk : cx.E.len = 0 := hk
  unfold farkas_point_with.wp at h
  refine awp_spine ?_
  refine awp_rc tab [2, 3, 4] [] [] [0, 1] [] ⟨136, [(2, .er [.d (.sl (.int .i64)) a1.1, vi a1.2]), (3, .er [vi a2.1, vi a2.2]), (4, .ref 0 0 0)], [.box [.nils, vi (0 : Int)]]⟩ (by kernel_rfl) (trivial) ?_
  refine then_n (spine_c ?_)
  refine awp_spine ?_
  obtain ⟨o1, h⟩ := h
  refine awp_rc tab [2, 3, 4, 6] [] [(5, .dat (.tup [vi ((num_Gcd.fn [a2.1, a2.2]).1), vi ((num_Gcd.fn [a2.1, a2.2]).2)]))] [4] [2 * 1 ≤ 16777216, OkC prog 59 [.d (.sl (.int .i64)) [a2.1, a2.2]] (.tup [vi ((num_Gcd.fn [a2.1, a2.2]).1), vi ((num_Gcd.fn [a2.1, a2.2]).2)])] ⟨136, [(2, .er [.d (.sl (.int .i64)) a1.1, vi a1.2]), (3, .er [vi a2.1, vi a2.2]), (4, .ref 0 0 0), (6, vi ((num_Gcd.fn [a2.1, a2.2]).1))], [.box [.nils, vi (0 : Int)]]⟩ (by kernel_rfl) (AllP.of (by decide) (AllP.of (ok_num_Gcd [a2.1, a2.2] (o1)) trivial)) ?_
  refine then_n (spine_c ?_)
  refine awp_abs (fun (x1 : Int × Int) => ⟨136, [(2, .er [.d (.sl (.int .i64)) a1.1, vi a1.2]), (3, .er [vi a2.1, vi a2.2]), (4, .ref 0 0 0), (6, vi x1.1)], [.box [.nils, vi (0 : Int)]]⟩) (num_Gcd.fn [a2.1, a2.2]) ?_
  intro x1 hx1
  replace h := h x1 hx1
  refine awp_spine ?_
  obtain ⟨o2, o3, h⟩ := h
  refine awp_dr tab mixed [2, 4, 8, 9] [] [] [] ⟨[[], [0], [], [0, 1, 2], [], [4], [], [4, 5, 6], [0, 1, 2, 3], [0, 1, 2, 3, 4, 5, 6, 7, 8]], [.er [vi a2.1, vi a2.2], vi a2.1, vi x1.1, vi (Int.tdiv a2.1 x1.1), .er [vi a2.2], vi a2.2, vi x1.1, vi (Int.tdiv a2.2 x1.1), vi (Int.tdiv a2.1 x1.1), vi (Int.tdiv a2.2 x1.1)], [none, none, none, some (x1.1 ≠ 0 ∧ -9223372036854775808 ≤ Int.tdiv a2.1 x1.1 ∧ Int.tdiv a2.1 x1.1 ≤ 9223372036854775807), none, none, none, some (x1.1 ≠ 0 ∧ -9223372036854775808 ≤ Int.tdiv a2.2 x1.1 ∧ Int.tdiv a2.2 x1.1 ≤ 9223372036854775807), none, none], [], [([], [.box [.nils, vi (0 : Int)]])]⟩ ⟨136, [(2, .er [.d (.sl (.int .i64)) a1.1, vi a1.2]), (4, .ref 0 0 0), (8, vi (Int.tdiv a2.1 x1.1)), (9, vi (Int.tdiv a2.2 x1.1))], [.box [.nils, vi (0 : Int)]]⟩ (by kernel_rfl) (AllO.n (AllO.n (AllO.n (AllO.s (o2) (AllO.n (AllO.n (AllO.n (AllO.s (o3) (AllO.n (AllO.n (AllO.e))))))))))) ?_
  refine then_n (spine_c ?_)
  refine awp_spine ?_
  obtain ⟨o4, h⟩ := h
  refine awp_rc tab [2, 4, 8, 9, 10] [] [(4, .dat (.tup [vi ((num_Gcd.fn [Int.tdiv a2.1 x1.1, a1.2]).1), vi ((num_Gcd.fn [Int.tdiv a2.1 x1.1, a1.2]).2)]))] [3] [2 * 1 ≤ 16777216, OkC prog 59 [.d (.sl (.int .i64)) [Int.tdiv a2.1 x1.1, a1.2]] (.tup [vi ((num_Gcd.fn [Int.tdiv a2.1 x1.1, a1.2]).1), vi ((num_Gcd.fn [Int.tdiv a2.1 x1.1, a1.2]).2)])] ⟨136, [(2, .er [.d (.sl (.int .i64)) a1.1, vi a1.2]), (4, .ref 0 0 0), (8, vi (Int.tdiv a2.1 x1.1)), (9, vi (Int.tdiv a2.2 x1.1)), (10, vi ((num_Gcd.fn [Int.tdiv a2.1 x1.1, a1.2]).1))], [.box [.nils, vi (0 : Int)]]⟩ (by kernel_rfl) (AllP.of (by decide) (AllP.of (ok_num_Gcd [Int.tdiv a2.1 x1.1, a1.2] (o4)) trivial)) ?_
  refine then_n (spine_c ?_)
  refine awp_abs (fun (x2 : Int × Int) => ⟨136, [(2, .er [.d (.sl (.int .i64)) a1.1, vi a1.2]), (4, .ref 0 0 0), (8, vi (Int.tdiv a2.1 x1.1)), (9, vi (Int.tdiv a2.2 x1.1)), (10, vi x2.1)], [.box [.nils, vi (0 : Int)]]⟩) (num_Gcd.fn [Int.tdiv a2.1 x1.1, a1.2]) ?_
  intro x2 hx2
  replace h := h x2 hx2
  refine awp_abs (fun (x3 : Int) => ⟨136, [(2, .er [.d (.sl (.int .i64)) a1.1, vi a1.2]), (4, .ref 0 0 0), (8, vi (Int.tdiv a2.1 x1.1)), (9, vi (Int.tdiv a2.2 x1.1)), (10, vi x3)], [.box [.nils, vi (0 : Int)]]⟩) (x2.1) ?_
  intro x3 hx3
  replace h := h x3 hx3
  refine awp_spine ?_
  obtain ⟨o5, o6, h⟩ := h
  refine awp_dr tab mixed [2, 4, 8, 9, 12] [] [] [] ⟨[[], [], [0, 1], [], [3], [], [3, 4, 5], [0, 1, 2], [0, 1, 2, 3, 4, 5, 6, 7]], [vi (Int.tdiv a2.1 x1.1), vi x3, vi (Int.tdiv (Int.tdiv a2.1 x1.1) x3), .er [vi a1.2], vi a1.2, vi x3, vi (Int.tdiv a1.2 x3), vi (Int.tdiv (Int.tdiv a2.1 x1.1) x3), vi (Int.tdiv a1.2 x3)], [none, none, some (x3 ≠ 0 ∧ -9223372036854775808 ≤ Int.tdiv (Int.tdiv a2.1 x1.1) x3 ∧ Int.tdiv (Int.tdiv a2.1 x1.1) x3 ≤ 9223372036854775807), none, none, none, some (x3 ≠ 0 ∧ -9223372036854775808 ≤ Int.tdiv a1.2 x3 ∧ Int.tdiv a1.2 x3 ≤ 9223372036854775807), none, none], [], [([], [.box [.nils, vi (0 : Int)]])]⟩ ⟨136, [(2, .er [.d (.sl (.int .i64)) a1.1, vi a1.2]), (4, .ref 0 0 0), (8, vi (Int.tdiv (Int.tdiv a2.1 x1.1) x3)), (9, vi (Int.tdiv a2.2 x1.1)), (12, vi (Int.tdiv a1.2 x3))], [.box [.nils, vi (0 : Int)]]⟩ (by kernel_rfl) (AllO.n (AllO.n (AllO.s (o5) (AllO.n (AllO.n (AllO.n (AllO.s (o6) (AllO.n (AllO.n (AllO.e)))))))))) ?_
  refine then_n (spine_c ?_)
  refine awp_abs (fun (x4 : Int) => ⟨136, [(2, .er [.d (.sl (.int .i64)) a1.1, vi a1.2]), (4, .ref 0 0 0), (8, vi x4), (9, vi (Int.tdiv a2.2 x1.1)), (12, vi (Int.tdiv a1.2 x3))], [.box [.nils, vi (0 : Int)]]⟩) (Int.tdiv (Int.tdiv a2.1 x1.1) x3) ?_
  intro x4 hx4
  replace h := h x4 hx4
  refine awp_spine ?_
  obtain ⟨o7, h⟩ := h
  refine awp_rc tab [2, 4, 8, 9, 12, 60] [] [] [] [(!(decide ((Int.tdiv a2.2 x1.1) > (268435456 : Int)))) = true → (!(decide ((Int.tdiv a2.2 x1.1) > (268435456 : Int)))) = true ∧ ((!(decide ((Int.tdiv a2.2 x1.1) > (268435456 : Int)))) = true ∧ (-9223372036854775808 ≤ (Int.tdiv a1.2 x3) * (Int.tdiv a2.2 x1.1) ∧ (Int.tdiv a1.2 x3) * (Int.tdiv a2.2 x1.1) ≤ 9223372036854775807)), (!(decide ((Int.tdiv a2.2 x1.1) > (268435456 : Int)))) = true → (!(decide ((Int.tdiv a2.2 x1.1) > (268435456 : Int)))) = true ∧ True, (decide ((Int.tdiv a2.2 x1.1) > (268435456 : Int))) = false → (!(decide ((Int.tdiv a2.2 x1.1) > (268435456 : Int)))) = true] ⟨136, [(2, .er [.d (.sl (.int .i64)) a1.1, vi a1.2]), (4, .ref 0 0 0), (8, vi x4), (9, vi (Int.tdiv a2.2 x1.1)), (12, vi (Int.tdiv a1.2 x3)), (60, vb ((decide ((Int.tdiv a2.2 x1.1) > (268435456 : Int))) || (decide (((Int.tdiv a1.2 x3) * (Int.tdiv a2.2 x1.1)) > (268435456 : Int)))))], [.box [.nils, vi (0 : Int)]]⟩ (by kernel_rfl) (AllP.of (fun hg => ⟨hg, hg, (o7 hg)⟩) (AllP.of (fun hg => ⟨hg, trivial⟩) (AllP.of (fun hc => not_f hc) trivial))) ?_
  refine then_n (spine_c ?_)
  refine awp_cond (b := (decide ((Int.tdiv a2.2 x1.1) > (268435456 : Int))) || (decide (((Int.tdiv a1.2 x3) * (Int.tdiv a2.2 x1.1)) > (268435456 : Int)))) (by kernel_rfl) (fun hb => ?_) (fun hb => ?_)
  · replace h := h.1 (hb)
    refine awp_spine ?_
    refine awp_rc tab [4, 5] [] [] [] [] ⟨136, [(4, .ref 0 0 0), (5, vi (3 : Int))], [.box [.nils, vi (0 : Int)]]⟩ (by kernel_rfl) (trivial) ?_
    refine then_n (spine_c ?_)
    refine awp_ret (then_r (then_r (then_r (then_r (then_r (then_r (then_r (?_))))))))
    exact ret_r (m := 0) (r := .tup [.agg [.d (.sl (.int .i64)) ((((([] : List Int), 0), 3).1).1), vi ((((([] : List Int), 0), 3).1).2)], vi (((([] : List Int), 0), 3).2)]) (objs := []) hk [.keep [4, 5], .nilBox 0 [0] (.int .i64), .keep [4, 5]] ⟨136, [(4, .ref 0 0 0), (5, vi (3 : Int))], [.box [.d (.sl (.int .i64)) ([] : List Int), vi (0 : Int)]]⟩ (by kernel_rfl) (by kernel_rfl) (Nat.le_refl 0) ⟨((([] : List Int), 0), 3), rfl, rfl, h⟩
  · replace h := h.2 (hb)
    refine awp_skip (then_n (spine_c ?_))
    refine awp_spine ?_
    obtain ⟨o8, h⟩ := h
    refine awp_rc tab [2, 4, 8, 12] [] [] [] [-9223372036854775808 ≤ (Int.tdiv a1.2 x3) * (Int.tdiv a2.2 x1.1) ∧ (Int.tdiv a1.2 x3) * (Int.tdiv a2.2 x1.1) ≤ 9223372036854775807] ⟨136, [(2, .er [.d (.sl (.int .i64)) a1.1, vi a1.2]), (4, .ref 0 0 0), (8, vi x4), (12, vi ((Int.tdiv a1.2 x3) * (Int.tdiv a2.2 x1.1)))], [.box [.nils, vi (0 : Int)]]⟩ (by kernel_rfl) (AllP.of (o8) trivial) ?_
    refine then_n (spine_c ?_)
    refine awp_abs (fun (x5 : Int) => ⟨136, [(2, .er [.d (.sl (.int .i64)) a1.1, vi a1.2]), (4, .ref 0 0 0), (8, vi x4), (12, vi x5)], [.box [.nils, vi (0 : Int)]]⟩) ((Int.tdiv a1.2 x3) * (Int.tdiv a2.2 x1.1)) ?_
    intro x5 hx5
    replace h := h x5 hx5
    refine awp_spine ?_
    obtain ⟨o9, h⟩ := h
    refine awp_rc tab [2, 4, 8, 12, 13] [] [(4, .dat (.tup [vi ((num_Gcd.fn [x5, a1.2]).1), vi ((num_Gcd.fn [x5, a1.2]).2)]))] [3] [2 * 1 ≤ 16777216, OkC prog 59 [.d (.sl (.int .i64)) [x5, a1.2]] (.tup [vi ((num_Gcd.fn [x5, a1.2]).1), vi ((num_Gcd.fn [x5, a1.2]).2)])] ⟨136, [(2, .er [.d (.sl (.int .i64)) a1.1, vi a1.2]), (4, .ref 0 0 0), (8, vi x4), (12, vi x5), (13, vi ((num_Gcd.fn [x5, a1.2]).1))], [.box [.nils, vi (0 : Int)]]⟩ (by kernel_rfl) (AllP.of (by decide) (AllP.of (ok_num_Gcd [x5, a1.2] (o9)) trivial)) ?_
    refine then_n (spine_c ?_)
    refine awp_abs (fun (x6 : Int × Int) => ⟨136, [(2, .er [.d (.sl (.int .i64)) a1.1, vi a1.2]), (4, .ref 0 0 0), (8, vi x4), (12, vi x5), (13, vi x6.1)], [.box [.nils, vi (0 : Int)]]⟩) (num_Gcd.fn [x5, a1.2]) ?_
    intro x6 hx6
    replace h := h x6 hx6
    refine awp_spine ?_
    obtain ⟨o10, o11, h⟩ := h
    refine awp_rc tab [2, 4, 8, 12, 15] [] [] [] [x6.1 ≠ 0 ∧ -9223372036854775808 ≤ Int.tdiv a1.2 x6.1 ∧ Int.tdiv a1.2 x6.1 ≤ 9223372036854775807, -9223372036854775808 ≤ (Int.tdiv a1.2 x6.1) * x5 ∧ (Int.tdiv a1.2 x6.1) * x5 ≤ 9223372036854775807] ⟨136, [(2, .er [.d (.sl (.int .i64)) a1.1, vi a1.2]), (4, .ref 0 0 0), (8, vi x4), (12, vi x5), (15, vi ((Int.tdiv a1.2 x6.1) * x5))], [.box [.nils, vi (0 : Int)]]⟩ (by kernel_rfl) (AllP.of (o10) (AllP.of (o11) trivial)) ?_
    refine then_n (spine_c ?_)
    refine awp_spine ?_
    refine awp_rc tab [2, 4, 8, 12, 15, 80] [] [] [] [] ⟨136, [(2, .er [.d (.sl (.int .i64)) a1.1, vi a1.2]), (4, .ref 0 0 0), (8, vi x4), (12, vi x5), (15, vi ((Int.tdiv a1.2 x6.1) * x5)), (80, vb (decide (((Int.tdiv a1.2 x6.1) * x5) > (268435456 : Int))))], [.box [.nils, vi (0 : Int)]]⟩ (by kernel_rfl) (trivial) ?_
    refine then_n (spine_c ?_)
    refine awp_cond (b := decide (((Int.tdiv a1.2 x6.1) * x5) > (268435456 : Int))) (by kernel_rfl) (fun hb => ?_) (fun hb => ?_)
    · replace h := h.1 (of_decide_eq_true hb)
      refine awp_spine ?_
      refine awp_rc tab [4, 5] [] [] [] [] ⟨136, [(4, .ref 0 0 0), (5, vi (3 : Int))], [.box [.nils, vi (0 : Int)]]⟩ (by kernel_rfl) (trivial) ?_
      refine then_n (spine_c ?_)
      refine awp_ret (then_r (then_r (then_r (then_r (then_r (then_r (then_r (then_r (then_r (then_r (then_r (?_))))))))))))
      exact ret_r (m := 0) (r := .tup [.agg [.d (.sl (.int .i64)) ((((([] : List Int), 0), 3).1).1), vi ((((([] : List Int), 0), 3).1).2)], vi (((([] : List Int), 0), 3).2)]) (objs := []) hk [.keep [4, 5], .nilBox 0 [0] (.int .i64), .keep [4, 5]] ⟨136, [(4, .ref 0 0 0), (5, vi (3 : Int))], [.box [.d (.sl (.int .i64)) ([] : List Int), vi (0 : Int)]]⟩ (by kernel_rfl) (by kernel_rfl) (Nat.le_refl 0) ⟨((([] : List Int), 0), 3), rfl, rfl, h⟩
    · replace h := h.2 (of_decide_eq_false hb)
      refine awp_skip (then_n (spine_c ?_))
      refine awp_spine ?_
      refine awp_rc tab [2, 4, 8, 12, 15, 16] [] [] [] [] ⟨136, [(2, .er [.d (.sl (.int .i64)) a1.1, vi a1.2]), (4, .ref 0 0 0), (8, vi x4), (12, vi x5), (15, vi ((Int.tdiv a1.2 x6.1) * x5)), (16, .ref 1 0 0)], [.box [.nils, vi (0 : Int)], .box [.nils, vi ((Int.tdiv a1.2 x6.1) * x5)]]⟩ (by kernel_rfl) (trivial) ?_
      refine then_n (spine_c ?_)
      refine awp_spine ?_
      refine awp_rc tab [2, 4, 8, 12, 15, 16, 85, 86, 87] [] [] [] [] ⟨136, [(2, .er [.d (.sl (.int .i64)) a1.1, vi a1.2]), (4, .ref 0 0 0), (8, vi x4), (12, vi x5), (15, vi ((Int.tdiv a1.2 x6.1) * x5)), (16, .ref 1 0 0), (85, .d (.sl (.int .i64)) a1.1), (86, vi (a1.1.length : Int)), (87, vi (0 : Int))], [.box [.nils, vi (0 : Int)], .box [.nils, vi ((Int.tdiv a1.2 x6.1) * x5)]]⟩ (by kernel_rfl) (trivial) ?_
      refine then_n (spine_c ?_)
      refine awp_len 2 [0] (T := (.int .i64)) (l := a1.1) (by kernel_rfl) fun hl => ?_
      replace h := h hl
      refine awp_block ?_
      obtain ⟨I13, ⟨n13a, hz13⟩, hI13⟩ := h
      refine awp_loopN (fun n s => ∃ (x9 : Int) (x10 : (List Int)), I13 n x9 x10 ∧ s = ⟨136, [(2, .er [.d (.sl (.int .i64)) a1.1, vi a1.2]), (4, .ref 0 0 0), (8, vi x4), (12, vi x5), (15, vi ((Int.tdiv a1.2 x6.1) * x5)), (16, .ref 1 0 0), (85, .d (.sl (.int .i64)) a1.1), (86, vi (a1.1.length : Int)), (87, vi x9)], [.box [.nils, vi (0 : Int)], .box [.osl 2 0, vi ((Int.tdiv a1.2 x6.1) * x5)], .row (.int .i64) x10 0]⟩) (n := n13a) (s0 := ⟨136, [(2, .er [.d (.sl (.int .i64)) a1.1, vi a1.2]), (4, .ref 0 0 0), (8, vi x4), (12, vi x5), (15, vi ((Int.tdiv a1.2 x6.1) * x5)), (16, .ref 1 0 0), (85, .d (.sl (.int .i64)) a1.1), (86, vi (a1.1.length : Int)), (87, vi (0 : Int))], [.box [.nils, vi (0 : Int)], .box [.osl 2 0, vi ((Int.tdiv a1.2 x6.1) * x5)], .row (.int .i64) ([] : List Int) 0]⟩) (wk_ghosts hk (l := [.keep [2, 4, 8, 12, 15, 16, 85, 86, 87], .adoptBox 1 0 (.int .i64), .keep [2, 4, 8, 12, 15, 16, 85, 86, 87], .keep [2, 4, 8, 12, 15, 16, 85, 86, 87], .keep [2, 4, 8, 12, 15, 16, 85, 86, 87]]) (by kernel_rfl)) ⟨0, ([] : List Int), hz13, rfl⟩ ?_
      rintro n13 s ⟨x9, x10, hx13, rfl⟩
      have h := hI13 n13 x9 x10 hx13
      refine awp_spine ?_
      refine awp_rc tab [2, 4, 8, 12, 15, 16, 85, 86, 87, 88] [] [] [] [] ⟨136, [(2, .er [.d (.sl (.int .i64)) a1.1, vi a1.2]), (4, .ref 0 0 0), (8, vi x4), (12, vi x5), (15, vi ((Int.tdiv a1.2 x6.1) * x5)), (16, .ref 1 0 0), (85, .d (.sl (.int .i64)) a1.1), (86, vi (a1.1.length : Int)), (87, vi x9), (88, vb (decide (x9 < (a1.1.length : Int))))], [.box [.nils, vi (0 : Int)], .box [.osl 2 0, vi ((Int.tdiv a1.2 x6.1) * x5)], .row (.int .i64) x10 0]⟩ (by kernel_rfl) (trivial) ?_
      refine then_n (spine_c ?_)
      refine awp_spine ?_
      refine awp_cond (b := decide (x9 < (a1.1.length : Int))) (by kernel_rfl) (fun hb => ?_) (fun hb => ?_)
      · replace h := h.1 (of_decide_eq_true hb)
        refine awp_skip (then_n (spine_c ?_))
        refine awp_spine ?_
        refine awp_block ?_
        refine awp_spine ?_
        obtain ⟨o12, h⟩ := h
        refine awp_rc tab [2, 4, 8, 12, 15, 16, 18, 85, 86, 87] [] [] [] [(0 : Int) ≤ x9 ∧ x9 < (a1.1.length : Int)] ⟨136, [(2, .er [.d (.sl (.int .i64)) a1.1, vi a1.2]), (4, .ref 0 0 0), (8, vi x4), (12, vi x5), (15, vi ((Int.tdiv a1.2 x6.1) * x5)), (16, .ref 1 0 0), (18, vi (gI a1.1 x9)), (85, .d (.sl (.int .i64)) a1.1), (86, vi (a1.1.length : Int)), (87, vi x9)], [.box [.nils, vi (0 : Int)], .box [.osl 2 0, vi ((Int.tdiv a1.2 x6.1) * x5)], .row (.int .i64) x10 0]⟩ (by kernel_rfl) (AllP.of (o12) trivial) ?_
        refine then_n (spine_c ?_)
        obtain ⟨o13, o14, o15, h⟩ := h
        refine awp_dr tab mixed [2, 4, 8, 12, 15, 16, 85, 86, 87] [] [] [8] ⟨[[], [0], [], [], [], [4], [3, 4, 5], [2, 3, 4, 5, 6], [2, 3, 4, 5, 6, 7], [0, 1, 2, 3, 4, 5, 6, 7, 8], [0, 1, 2, 3, 4, 5, 6, 7, 8, 9], [0, 1, 2, 3, 4, 5, 6, 7, 8, 9, 10]], [.ref 1 0 0, .osl 2 0, vi (gI a1.1 x9), vi ((Int.tdiv a1.2 x6.1) * x5), .er [vi a1.2], vi a1.2, vi (Int.tdiv ((Int.tdiv a1.2 x6.1) * x5) a1.2), vi ((gI a1.1 x9) * (Int.tdiv ((Int.tdiv a1.2 x6.1) * x5) a1.2)), .d (.sl (.int .i64)) [(gI a1.1 x9) * (Int.tdiv ((Int.tdiv a1.2 x6.1) * x5) a1.2)], .osl 2 1, .ref 1 0 0, .tup []], [none, none, none, none, none, none, some (a1.2 ≠ 0 ∧ -9223372036854775808 ≤ Int.tdiv ((Int.tdiv a1.2 x6.1) * x5) a1.2 ∧ Int.tdiv ((Int.tdiv a1.2 x6.1) * x5) a1.2 ≤ 9223372036854775807), some (-9223372036854775808 ≤ (gI a1.1 x9) * (Int.tdiv ((Int.tdiv a1.2 x6.1) * x5) a1.2) ∧ (gI a1.1 x9) * (Int.tdiv ((Int.tdiv a1.2 x6.1) * x5) a1.2) ≤ 9223372036854775807), some (1 * 1 ≤ 16777216), some ((x10.length + [(gI a1.1 x9) * (Int.tdiv ((Int.tdiv a1.2 x6.1) * x5) a1.2)].length) * 8 ≤ 140737488355328 ∧ x10.length + [(gI a1.1 x9) * (Int.tdiv ((Int.tdiv a1.2 x6.1) * x5) a1.2)].length ≤ 9223372036854775807), none, none], [9, 11], [([], [.box [.nils, vi (0 : Int)], .box [.osl 2 0, vi ((Int.tdiv a1.2 x6.1) * x5)], .row (.int .i64) x10 0]), ([9], [.box [.nils, vi (0 : Int)], .box [.osl 2 0, vi ((Int.tdiv a1.2 x6.1) * x5)], .row (.int .i64) (x10 ++ [(gI a1.1 x9) * (Int.tdiv ((Int.tdiv a1.2 x6.1) * x5) a1.2)]) 1]), ([9, 11], [.box [.nils, vi (0 : Int)], .box [.osl 2 1, vi ((Int.tdiv a1.2 x6.1) * x5)], .row (.int .i64) (x10 ++ [(gI a1.1 x9) * (Int.tdiv ((Int.tdiv a1.2 x6.1) * x5) a1.2)]) 1])]⟩ ⟨136, [(2, .er [.d (.sl (.int .i64)) a1.1, vi a1.2]), (4, .ref 0 0 0), (8, vi x4), (12, vi x5), (15, vi ((Int.tdiv a1.2 x6.1) * x5)), (16, .ref 1 0 0), (85, .d (.sl (.int .i64)) a1.1), (86, vi (a1.1.length : Int)), (87, vi x9)], [.box [.nils, vi (0 : Int)], .box [.osl 2 1, vi ((Int.tdiv a1.2 x6.1) * x5)], .row (.int .i64) (x10 ++ [(gI a1.1 x9) * (Int.tdiv ((Int.tdiv a1.2 x6.1) * x5) a1.2)]) 1]⟩ (by kernel_rfl) (AllO.n (AllO.n (AllO.n (AllO.n (AllO.n (AllO.n (AllO.s (o13) (AllO.s (o14) (AllO.s (by decide) (AllO.s (o15) (AllO.n (AllO.n (AllO.e))))))))))))) ?_
        refine then_n (spine_e (blk_n (then_n (spine_c ?_))))
        refine awp_abs (fun (x14 : (List Int)) => ⟨136, [(2, .er [.d (.sl (.int .i64)) a1.1, vi a1.2]), (4, .ref 0 0 0), (8, vi x4), (12, vi x5), (15, vi ((Int.tdiv a1.2 x6.1) * x5)), (16, .ref 1 0 0), (85, .d (.sl (.int .i64)) a1.1), (86, vi (a1.1.length : Int)), (87, vi x9)], [.box [.nils, vi (0 : Int)], .box [.osl 2 1, vi ((Int.tdiv a1.2 x6.1) * x5)], .row (.int .i64) x14 1]⟩) (x10 ++ [(gI a1.1 x9) * (Int.tdiv ((Int.tdiv a1.2 x6.1) * x5) a1.2)]) ?_
        intro x14 hx14
        replace h := h x14 hx14
        obtain ⟨o16, h⟩ := h
        refine awp_rc tab [2, 4, 8, 12, 15, 16, 85, 86, 87] [] [] [] [-9223372036854775808 ≤ x9 + (1 : Int) ∧ x9 + (1 : Int) ≤ 9223372036854775807] ⟨136, [(2, .er [.d (.sl (.int .i64)) a1.1, vi a1.2]), (4, .ref 0 0 0), (8, vi x4), (12, vi x5), (15, vi ((Int.tdiv a1.2 x6.1) * x5)), (16, .ref 1 0 0), (85, .d (.sl (.int .i64)) a1.1), (86, vi (a1.1.length : Int)), (87, vi (x9 + (1 : Int)))], [.box [.nils, vi (0 : Int)], .box [.osl 2 1, vi ((Int.tdiv a1.2 x6.1) * x5)], .row (.int .i64) x14 1]⟩ (by kernel_rfl) (AllP.of (o16) trivial) ?_
        refine then_n (spine_e (then_n (spine_e (then_n (spine_e (then_n (?_)))))))
        obtain ⟨m, hm, h⟩ := h
        exact ⟨m, hm, ⟨136, [(2, .er [.d (.sl (.int .i64)) a1.1, vi a1.2]), (4, .ref 0 0 0), (8, vi x4), (12, vi x5), (15, vi ((Int.tdiv a1.2 x6.1) * x5)), (16, .ref 1 0 0), (85, .d (.sl (.int .i64)) a1.1), (86, vi (a1.1.length : Int)), (87, vi (x9 + (1 : Int)))], [.box [.nils, vi (0 : Int)], .box [.osl 2 0, vi ((Int.tdiv a1.2 x6.1) * x5)], .row (.int .i64) x14 0]⟩, wk_ghosts hk (l := [.keep [2, 4, 8, 12, 15, 16, 85, 86, 87], .keep [2, 4, 8, 12, 15, 16, 85, 86, 87], .reset 2, .keep [2, 4, 8, 12, 15, 16, 85, 86, 87]]) (by kernel_rfl), x9 + (1 : Int), x14, h, rfl⟩
      · replace h := h.2 (of_decide_eq_false hb)
        refine awp_exit (then_x (then_x (then_x (blk_h (then_n (spine_c ?_))))))
        refine awp_spine ?_
        refine awp_rc tab [4, 8, 12, 15, 16, 108] [] [] [] [(!(decide (x4 > (268435456 : Int)))) = true → (!(decide (x4 > (268435456 : Int)))) = true ∧ True, (decide (x4 > (268435456 : Int))) = false → (!(decide (x4 > (268435456 : Int)))) = true] ⟨136, [(4, .ref 0 0 0), (8, vi x4), (12, vi x5), (15, vi ((Int.tdiv a1.2 x6.1) * x5)), (16, .ref 1 0 0), (108, vb ((decide (x4 > (268435456 : Int))) || (decide (x4 < (-268435456)))))], [.box [.nils, vi (0 : Int)], .box [.osl 2 0, vi ((Int.tdiv a1.2 x6.1) * x5)], .row (.int .i64) x10 0]⟩ (by kernel_rfl) (AllP.of (fun hg => ⟨hg, trivial⟩) (AllP.of (fun hc => not_f hc) trivial)) ?_
        refine then_n (spine_c ?_)
        refine awp_cond (b := (decide (x4 > (268435456 : Int))) || (decide (x4 < (-268435456)))) (by kernel_rfl) (fun hb => ?_) (fun hb => ?_)
        · replace h := h.1 (hb)
          refine awp_spine ?_
          refine awp_rc tab [4, 5] [] [] [] [] ⟨136, [(4, .ref 0 0 0), (5, vi (3 : Int))], [.box [.nils, vi (0 : Int)], .box [.osl 2 0, vi ((Int.tdiv a1.2 x6.1) * x5)], .row (.int .i64) x10 0]⟩ (by kernel_rfl) (trivial) ?_
          refine then_n (spine_c ?_)
          refine awp_ret (then_r (then_r (then_r (then_r (then_r (then_r (then_r (then_r (then_r (then_r (then_r (then_r (then_r (then_r (?_)))))))))))))))
          exact ret_r (m := 0) (r := .tup [.agg [.d (.sl (.int .i64)) ((((([] : List Int), 0), 3).1).1), vi ((((([] : List Int), 0), 3).1).2)], vi (((([] : List Int), 0), 3).2)]) (objs := []) hk [.keep [4, 5], .nilBox 0 [0] (.int .i64), .keep [4, 5]] ⟨136, [(4, .ref 0 0 0), (5, vi (3 : Int))], [.box [.d (.sl (.int .i64)) ([] : List Int), vi (0 : Int)], .box [.osl 2 0, vi ((Int.tdiv a1.2 x6.1) * x5)], .row (.int .i64) x10 0]⟩ (by kernel_rfl) (by kernel_rfl) (Nat.le_refl 0) ⟨((([] : List Int), 0), 3), rfl, rfl, h⟩
        · replace h := h.2 (hb)
          refine awp_skip (then_n (spine_c ?_))
          refine awp_spine ?_
          obtain ⟨o17, o18, o19, h⟩ := h
          refine awp_dr tab mixed [4, 16] [] [] [7] ⟨[[], [0], [], [], [], [3, 4], [2, 3, 4, 5], [2, 3, 4, 5, 6], [0, 1, 2, 3, 4, 5, 6, 7], [0, 1, 2, 3, 4, 5, 6, 7, 8], [0, 1, 2, 3, 4, 5, 6, 7, 8, 9]], [.ref 1 0 0, .osl 2 0, vi x4, vi ((Int.tdiv a1.2 x6.1) * x5), vi x5, vi (Int.tdiv ((Int.tdiv a1.2 x6.1) * x5) x5), vi (x4 * (Int.tdiv ((Int.tdiv a1.2 x6.1) * x5) x5)), .d (.sl (.int .i64)) [x4 * (Int.tdiv ((Int.tdiv a1.2 x6.1) * x5) x5)], .osl 2 1, .ref 1 0 0, .tup []], [none, none, none, none, none, some (x5 ≠ 0 ∧ -9223372036854775808 ≤ Int.tdiv ((Int.tdiv a1.2 x6.1) * x5) x5 ∧ Int.tdiv ((Int.tdiv a1.2 x6.1) * x5) x5 ≤ 9223372036854775807), some (-9223372036854775808 ≤ x4 * (Int.tdiv ((Int.tdiv a1.2 x6.1) * x5) x5) ∧ x4 * (Int.tdiv ((Int.tdiv a1.2 x6.1) * x5) x5) ≤ 9223372036854775807), some (1 * 1 ≤ 16777216), some ((x10.length + [x4 * (Int.tdiv ((Int.tdiv a1.2 x6.1) * x5) x5)].length) * 8 ≤ 140737488355328 ∧ x10.length + [x4 * (Int.tdiv ((Int.tdiv a1.2 x6.1) * x5) x5)].length ≤ 9223372036854775807), none, none], [8, 10], [([], [.box [.nils, vi (0 : Int)], .box [.osl 2 0, vi ((Int.tdiv a1.2 x6.1) * x5)], .row (.int .i64) x10 0]), ([8], [.box [.nils, vi (0 : Int)], .box [.osl 2 0, vi ((Int.tdiv a1.2 x6.1) * x5)], .row (.int .i64) (x10 ++ [x4 * (Int.tdiv ((Int.tdiv a1.2 x6.1) * x5) x5)]) 1]), ([8, 10], [.box [.nils, vi (0 : Int)], .box [.osl 2 1, vi ((Int.tdiv a1.2 x6.1) * x5)], .row (.int .i64) (x10 ++ [x4 * (Int.tdiv ((Int.tdiv a1.2 x6.1) * x5) x5)]) 1])]⟩ ⟨136, [(4, .ref 0 0 0), (16, .ref 1 0 0)], [.box [.nils, vi (0 : Int)], .box [.osl 2 1, vi ((Int.tdiv a1.2 x6.1) * x5)], .row (.int .i64) (x10 ++ [x4 * (Int.tdiv ((Int.tdiv a1.2 x6.1) * x5) x5)]) 1]⟩ (by kernel_rfl) (AllO.n (AllO.n (AllO.n (AllO.n (AllO.n (AllO.s (o17) (AllO.s (o18) (AllO.s (by decide) (AllO.s (o19) (AllO.n (AllO.n (AllO.e)))))))))))) ?_
          refine then_n (spine_c ?_)
          refine awp_abs (fun (x15 : (List Int)) => ⟨136, [(4, .ref 0 0 0), (16, .ref 1 0 0)], [.box [.nils, vi (0 : Int)], .box [.osl 2 1, vi ((Int.tdiv a1.2 x6.1) * x5)], .row (.int .i64) x15 1]⟩) (x10 ++ [x4 * (Int.tdiv ((Int.tdiv a1.2 x6.1) * x5) x5)]) ?_
          intro x15 hx15
          replace h := h x15 hx15
          refine awp_spine ?_
          refine awp_rc tab [4, 16, 121, 122, 123] [] [] [] [] ⟨136, [(4, .ref 0 0 0), (16, .ref 1 0 0), (121, .osl 2 1), (122, vi (x15.length : Int)), (123, vi (0 : Int))], [.box [.nils, vi (0 : Int)], .box [.osl 2 1, vi ((Int.tdiv a1.2 x6.1) * x5)], .row (.int .i64) x15 1]⟩ (by kernel_rfl) (trivial) ?_
          refine then_n (spine_c ?_)
          refine awp_block ?_
          obtain ⟨I19, ⟨n19a, hz19⟩, hI19⟩ := h
          refine awp_loopN (fun n s => ∃ (x17 : Int), I19 n x17 ∧ s = ⟨136, [(4, .ref 0 0 0), (16, .ref 1 0 0), (121, .osl 2 0), (122, vi (x15.length : Int)), (123, vi x17)], [.box [.nils, vi (0 : Int)], .box [.osl 2 0, vi ((Int.tdiv a1.2 x6.1) * x5)], .row (.int .i64) x15 0]⟩) (n := n19a) (s0 := ⟨136, [(4, .ref 0 0 0), (16, .ref 1 0 0), (121, .osl 2 0), (122, vi (x15.length : Int)), (123, vi (0 : Int))], [.box [.nils, vi (0 : Int)], .box [.osl 2 0, vi ((Int.tdiv a1.2 x6.1) * x5)], .row (.int .i64) x15 0]⟩) (wk_ghosts hk (l := [.keep [4, 16, 121, 122, 123], .keep [4, 16, 121, 122, 123], .keep [4, 16, 121, 122, 123], .reset 2, .keep [4, 16, 121, 122, 123]]) (by kernel_rfl)) ⟨0, hz19, rfl⟩ ?_
          rintro n19 s ⟨x17, hx19, rfl⟩
          have h := hI19 n19 x17 hx19
          refine awp_spine ?_
          refine awp_rc tab [4, 16, 121, 122, 123, 124] [] [] [] [] ⟨136, [(4, .ref 0 0 0), (16, .ref 1 0 0), (121, .osl 2 0), (122, vi (x15.length : Int)), (123, vi x17), (124, vb (decide (x17 < (x15.length : Int))))], [.box [.nils, vi (0 : Int)], .box [.osl 2 0, vi ((Int.tdiv a1.2 x6.1) * x5)], .row (.int .i64) x15 0]⟩ (by kernel_rfl) (trivial) ?_
          refine then_n (spine_c ?_)
          refine awp_spine ?_
          refine awp_cond (b := decide (x17 < (x15.length : Int))) (by kernel_rfl) (fun hb => ?_) (fun hb => ?_)
          · replace h := h.1 (of_decide_eq_true hb)
            refine awp_skip (then_n (spine_c ?_))
            refine awp_spine ?_
            refine awp_block ?_
            refine awp_spine ?_
            obtain ⟨o20, o21, h⟩ := h
            refine awp_rc tab [4, 16, 20, 121, 122, 123] [] [] [] [(0 : Int) ≤ x17 ∧ x17 < (x15.length : Int), Int.toNat x17 < x15.length] ⟨136, [(4, .ref 0 0 0), (16, .ref 1 0 0), (20, vi (x15.getD (Int.toNat x17) (0 : Int))), (121, .osl 2 0), (122, vi (x15.length : Int)), (123, vi x17)], [.box [.nils, vi (0 : Int)], .box [.osl 2 0, vi ((Int.tdiv a1.2 x6.1) * x5)], .row (.int .i64) x15 0]⟩ (by kernel_rfl) (AllP.of (o20) (AllP.of (o21) trivial)) ?_
            refine then_n (spine_c ?_)
            refine awp_abs (fun (x20 : Int) => ⟨136, [(4, .ref 0 0 0), (16, .ref 1 0 0), (20, vi x20), (121, .osl 2 0), (122, vi (x15.length : Int)), (123, vi x17)], [.box [.nils, vi (0 : Int)], .box [.osl 2 0, vi ((Int.tdiv a1.2 x6.1) * x5)], .row (.int .i64) x15 0]⟩) ((x15.getD (Int.toNat x17) (0 : Int))) ?_
            intro x20 hx20
            replace h := h x20 hx20
            refine awp_spine ?_
            refine awp_rc tab [4, 16, 121, 122, 123, 132] [] [] [] [(!(decide (x20 > (268435456 : Int)))) = true → (!(decide (x20 > (268435456 : Int)))) = true ∧ True, (decide (x20 > (268435456 : Int))) = false → (!(decide (x20 > (268435456 : Int)))) = true] ⟨136, [(4, .ref 0 0 0), (16, .ref 1 0 0), (121, .osl 2 0), (122, vi (x15.length : Int)), (123, vi x17), (132, vb ((decide (x20 > (268435456 : Int))) || (decide (x20 < (-268435456)))))], [.box [.nils, vi (0 : Int)], .box [.osl 2 0, vi ((Int.tdiv a1.2 x6.1) * x5)], .row (.int .i64) x15 0]⟩ (by kernel_rfl) (AllP.of (fun hg => ⟨hg, trivial⟩) (AllP.of (fun hc => not_f hc) trivial)) ?_
            refine then_n (spine_c ?_)
            refine awp_cond (b := (decide (x20 > (268435456 : Int))) || (decide (x20 < (-268435456)))) (by kernel_rfl) (fun hb => ?_) (fun hb => ?_)
            · replace h := h.1 (hb)
              refine awp_spine ?_
              refine awp_rc tab [4, 5] [] [] [] [] ⟨136, [(4, .ref 0 0 0), (5, vi (3 : Int))], [.box [.nils, vi (0 : Int)], .box [.osl 2 0, vi ((Int.tdiv a1.2 x6.1) * x5)], .row (.int .i64) x15 0]⟩ (by kernel_rfl) (trivial) ?_
              refine then_n (spine_c ?_)
              refine awp_ret (then_r (then_r (then_r (blk_r (then_r (then_r (then_r (then_r (blk_r (then_r (then_r (then_r (then_r (then_r (then_r (then_r (then_r (then_r (then_r (then_r (then_r (then_r (then_r (then_r (?_)))))))))))))))))))))))))
              exact ret_r (m := 0) (r := .tup [.agg [.d (.sl (.int .i64)) ((((([] : List Int), 0), 3).1).1), vi ((((([] : List Int), 0), 3).1).2)], vi (((([] : List Int), 0), 3).2)]) (objs := []) hk [.keep [4, 5], .nilBox 0 [0] (.int .i64), .keep [4, 5]] ⟨136, [(4, .ref 0 0 0), (5, vi (3 : Int))], [.box [.d (.sl (.int .i64)) ([] : List Int), vi (0 : Int)], .box [.osl 2 0, vi ((Int.tdiv a1.2 x6.1) * x5)], .row (.int .i64) x15 0]⟩ (by kernel_rfl) (by kernel_rfl) (Nat.le_refl 0) ⟨((([] : List Int), 0), 3), rfl, rfl, h⟩
            · replace h := h.2 (hb)
              refine awp_skip (then_n (spine_e (then_n (spine_e (blk_n (then_n (spine_c ?_)))))))
              obtain ⟨o22, h⟩ := h
              refine awp_rc tab [4, 16, 121, 122, 123] [] [] [] [-9223372036854775808 ≤ x17 + (1 : Int) ∧ x17 + (1 : Int) ≤ 9223372036854775807] ⟨136, [(4, .ref 0 0 0), (16, .ref 1 0 0), (121, .osl 2 0), (122, vi (x15.length : Int)), (123, vi (x17 + (1 : Int)))], [.box [.nils, vi (0 : Int)], .box [.osl 2 0, vi ((Int.tdiv a1.2 x6.1) * x5)], .row (.int .i64) x15 0]⟩ (by kernel_rfl) (AllP.of (o22) trivial) ?_
              refine then_n (spine_e (then_n (spine_e (then_n (spine_e (then_n (?_)))))))
              obtain ⟨m, hm, h⟩ := h
              exact ⟨m, hm, ⟨136, [(4, .ref 0 0 0), (16, .ref 1 0 0), (121, .osl 2 0), (122, vi (x15.length : Int)), (123, vi (x17 + (1 : Int)))], [.box [.nils, vi (0 : Int)], .box [.osl 2 0, vi ((Int.tdiv a1.2 x6.1) * x5)], .row (.int .i64) x15 0]⟩, wk_ghosts hk (l := [.keep [4, 16, 121, 122, 123], .keep [4, 16, 121, 122, 123], .keep [4, 16, 121, 122, 123]]) (by kernel_rfl), x17 + (1 : Int), h, rfl⟩
          · replace h := h.2 (of_decide_eq_false hb)
            refine awp_exit (then_x (then_x (then_x (blk_h (then_n (spine_c ?_))))))
            refine awp_spine ?_
            refine awp_rc tab [4, 5] [] [] [] [] ⟨136, [(4, .ref 0 0 0), (5, vi (0 : Int))], [.box [.osl 2 0, vi ((Int.tdiv a1.2 x6.1) * x5)], .box [.osl 2 0, vi ((Int.tdiv a1.2 x6.1) * x5)], .row (.int .i64) x15 0]⟩ (by kernel_rfl) (trivial) ?_
            refine then_n (spine_c ?_)
            refine awp_ret (then_r (then_r (then_r (then_r (then_r (then_r (then_r (then_r (then_r (then_r (then_r (then_r (then_r (then_r (then_r (then_r (?_)))))))))))))))))
            exact ret_r (m := 0) (r := .tup [.agg [.d (.sl (.int .i64)) ((((x15, (Int.tdiv a1.2 x6.1) * x5), 0).1).1), vi ((((x15, (Int.tdiv a1.2 x6.1) * x5), 0).1).2)], vi (((x15, (Int.tdiv a1.2 x6.1) * x5), 0).2)]) (objs := []) hk [.keep [4, 5], .freeze 2] ⟨136, [(4, .ref 0 0 0), (5, vi (0 : Int))], [.box [.d (.sl (.int .i64)) x15, vi ((Int.tdiv a1.2 x6.1) * x5)], .box [.d (.sl (.int .i64)) x15, vi ((Int.tdiv a1.2 x6.1) * x5)], .dead]⟩ (by kernel_rfl) (by kernel_rfl) (Nat.le_refl 0) ⟨((x15, (Int.tdiv a1.2 x6.1) * x5), 0), rfl, rfl, h⟩
theorem ok_farkas_point_with (a1 : farkas_point) (a2 : farkas_fraction) (h : farkas_point_with.pre a1 a2) : OkC prog 32 [.agg [.d (.sl (.int .i64)) a1.1, vi a1.2], .agg [vi a2.1, vi a2.2]] (.tup [.agg [.d (.sl (.int .i64)) (((farkas_point_with.fn a1 a2).1).1), vi (((farkas_point_with.fn a1 a2).1).2)], vi ((farkas_point_with.fn a1 a2).2)]) :=
  OkC.of call_farkas_point_with ((walk_farkas_point_with a1 a2 _ (farkas_point_with.spec a1 a2 h)).mono fun r o ⟨x, hr, ho, hx⟩ => ⟨by rw [hr, hx], ho⟩) rfl rfl (fun _ => rfl)

noncomputable abbrev Bfarkas_Inner_1 : Code := bodyOf Try.f31
theorem call_farkas_Inner_1 : CallOk prog 31 := ⟨_, Try.func31, by kernel_rfl, by kernel_rfl⟩
noncomputable abbrev Bfarkas_Inner : Code := bodyOf Try.f13
theorem call_farkas_Inner : CallOk prog 13 := ⟨_, Try.func13, by kernel_rfl, by kernel_rfl⟩
theorem walk_farkas_Inner (a1 : (List api_Cond)) (a2 : Int) (Q : (List Int) × Int × Int → Prop) (h : farkas_Inner.wp a1 a2 Q) : VCalls prog 13 [.d (.sl t_api_Cond) a1, vi a2] [] (fun r o => ∃ x, r = .tup [.d (.sl (.int .i64)) x.1, vi x.2.1, vi x.2.2] ∧ o = [] ∧ Q x) := by
  refine vcalls_bodyG Try.func13 (c := (.seq (subC [0] Bfarkas_Inner) (.seq (spine (subC [1, 0, 0] Bfarkas_Inner) [(spine (subC [1, 0, 1, 0] Bfarkas_Inner) [(.cond (.tmp 17) (spine (subC [1, 0, 1, 1, 0, 0] Bfarkas_Inner) [.ret]) .skip)])]) (.seq (subC [1, 1, 0] Bfarkas_Inner) (.seq (spine (subC [1, 1, 1, 0, 0] Bfarkas_Inner) [(.cond (.tmp 26) (spine (subC [1, 1, 1, 0, 1, 0, 0] Bfarkas_Inner) [.ret]) .skip)]) (.seq (spine (subC [1, 1, 1, 1, 0, 0] Bfarkas_Inner) [(spine (subC [1, 1, 1, 1, 0, 1, 0] Bfarkas_Inner) [(.cond (.tmp 35) (spine (subC [1, 1, 1, 1, 0, 1, 1, 0, 0] Bfarkas_Inner) [.ret]) .skip)])]) (.seq (subC [1, 1, 1, 1, 1, 0] Bfarkas_Inner) (.seq (subC [1, 1, 1, 1, 1, 1, 0] Bfarkas_Inner) (spine (subC [1, 1, 1, 1, 1, 1, 1, 0, 0] Bfarkas_Inner) [(.block 0 (.loop (spine (subC [1, 1, 1, 1, 1, 1, 1, 0, 1, 0, 0, 0] Bfarkas_Inner) [(spine (.cond (.tmp 40) .skip (.exit 0)) [(spine (.block 1 (spine (subC [1, 1, 1, 1, 1, 1, 1, 0, 1, 0, 0, 1, 1, 0, 0, 0] Bfarkas_Inner) [(spine (subC [1, 1, 1, 1, 1, 1, 1, 0, 1, 0, 0, 1, 1, 0, 0, 1, 0] Bfarkas_Inner) [(spine (subC [1, 1, 1, 1, 1, 1, 1, 0, 1, 0, 0, 1, 1, 0, 0, 1, 1, 0] Bfarkas_Inner) [(.cond (.tmp 55) (spine (subC [1, 1, 1, 1, 1, 1, 1, 0, 1, 0, 0, 1, 1, 0, 0, 1, 1, 1, 0, 0] Bfarkas_Inner) [.ret]) .skip)])])])) [(subC [1, 1, 1, 1, 1, 1, 1, 0, 1, 0, 0, 1, 1, 1] Bfarkas_Inner)])])]))), (spine (subC [1, 1, 1, 1, 1, 1, 1, 1, 0] Bfarkas_Inner) [.ret])]))))))))) (by kernel_rfl) (Nat.le_of_ble_eq_true (by kernel_rfl)) fun E0 hk => ?_
  show AWpG prog ⟨E0, [], []⟩ _ _ ⟨62, [(0, .d (.sl t_api_Cond) a1), (1, vi a2)], []⟩
  replace hk : E0.len = 0 := hk
  have hkE : E0.len = 0 := hk
  unfold farkas_Inner.wp at h
  refine awpG_seq ?_
  refine awp_rc tab [0, 1, 4, 5, 6] [] [] [] [] ⟨62, [(0, .d (.sl t_api_Cond) a1), (1, vi a2), (4, .ref 0 0 0), (5, .ref 1 0 0), (6, .ref 2 0 0)], [.box [.nils], .box [vi (0 : Int)], .box [vi (0 : Int)]]⟩ (by kernel_rfl) (trivial) ?_
  refine then_n (?_)
  refine awpG_seq ?_
  refine awp_spine ?_
  refine awp_rc tab [0, 1, 4, 5, 6, 7] [] [(2, .dat (vi (farkas_asked.fn a1 a2)))] [] [OkC prog 25 [.d (.sl t_api_Cond) a1, vi a2] (vi (farkas_asked.fn a1 a2))] ⟨62, [(0, .d (.sl t_api_Cond) a1), (1, vi a2), (4, .ref 0 0 0), (5, .ref 1 0 0), (6, .ref 2 0 0), (7, vi (farkas_asked.fn a1 a2))], [.box [.nils], .box [vi (0 : Int)], .box [vi (0 : Int)]]⟩ (by kernel_rfl) (AllP.of (ok_farkas_asked a1 a2) trivial) ?_
  refine then_n (spine_c ?_)
  refine awp_abs (fun (x1 : Int) => ⟨62, [(0, .d (.sl t_api_Cond) a1), (1, vi a2), (4, .ref 0 0 0), (5, .ref 1 0 0), (6, .ref 2 0 0), (7, vi x1)], [.box [.nils], .box [vi (0 : Int)], .box [vi (0 : Int)]]⟩) (farkas_asked.fn a1 a2) ?_
  intro x1 hx1
  replace h := h x1 hx1
  refine awp_spine ?_
  refine awp_rc tab [0, 1, 4, 5, 6, 7, 17] [] [] [] [] ⟨62, [(0, .d (.sl t_api_Cond) a1), (1, vi a2), (4, .ref 0 0 0), (5, .ref 1 0 0), (6, .ref 2 0 0), (7, vi x1), (17, vb (x1 != (0 : Int)))], [.box [.nils], .box [vi (0 : Int)], .box [vi (0 : Int)]]⟩ (by kernel_rfl) (trivial) ?_
  refine then_n (spine_c ?_)
  refine awp_cond (b := x1 != (0 : Int)) (by kernel_rfl) (fun hb => ?_) (fun hb => ?_)
  · replace h := h.1 (bne_iff_ne.mp hb)
    refine awp_spine ?_
    refine awp_rc tab [4, 5, 6] [] [] [] [] ⟨62, [(4, .ref 0 0 0), (5, .ref 1 0 0), (6, .ref 2 0 0)], [.box [.nils], .box [vi (0 : Int)], .box [vi x1]]⟩ (by kernel_rfl) (trivial) ?_
    refine then_n (spine_c ?_)
    refine awp_ret (then_r (then_r (then_r (then_r (retW_G tab hk rfl (?_))))))
    exact ret_r (m := 0) (r := .tup [.d (.sl (.int .i64)) ((([] : List Int), 0, x1).1), vi ((([] : List Int), 0, x1).2.1), vi ((([] : List Int), 0, x1).2.2)]) (objs := []) hk [.keep [4, 5, 6], .nilBox 0 [0] (.int .i64), .keep [4, 5, 6]] ⟨62, [(4, .ref 0 0 0), (5, .ref 1 0 0), (6, .ref 2 0 0)], [.box [.d (.sl (.int .i64)) ([] : List Int)], .box [vi (0 : Int)], .box [vi x1]]⟩ (by kernel_rfl) (by kernel_rfl) (Nat.le_refl 0) ⟨(([] : List Int), 0, x1), rfl, rfl, h⟩
  · replace h := h.2 (bne_f hb)
    refine awp_skip (then_n (spine_e (then_n (spine_e (then_n (?_))))))
    refine awpG_seq ?_
    obtain ⟨o1, h⟩ := h
    refine awp_rc tab [1, 4, 5, 6, 8] [] [(2, .dat (.tup [.d (.sl t_farkas_table) ((farkas_eliminated.fn a1 a2).1), vi ((farkas_eliminated.fn a1 a2).2)]))] [] [OkC prog 26 [.d (.sl t_api_Cond) a1, vi a2] (.tup [.d (.sl t_farkas_table) ((farkas_eliminated.fn a1 a2).1), vi ((farkas_eliminated.fn a1 a2).2)])] ⟨62, [(1, vi a2), (4, .ref 0 0 0), (5, .ref 1 0 0), (6, .ref 2 0 0), (8, .d (.sl t_farkas_table) ((farkas_eliminated.fn a1 a2).1))], [.box [.nils], .box [vi (0 : Int)], .box [vi ((farkas_eliminated.fn a1 a2).2)]]⟩ (by kernel_rfl) (AllP.of (ok_farkas_eliminated a1 a2 (o1)) trivial) ?_
    refine then_n (?_)
    refine awpG_abs (fun (x2 : (List farkas_table) × Int) => ⟨62, [(1, vi a2), (4, .ref 0 0 0), (5, .ref 1 0 0), (6, .ref 2 0 0), (8, .d (.sl t_farkas_table) x2.1)], [.box [.nils], .box [vi (0 : Int)], .box [vi x2.2]]⟩) (farkas_eliminated.fn a1 a2) ?_
    intro x2 hx2
    replace h := h x2 hx2
    refine awpG_seq ?_
    refine awp_spine ?_
    refine awp_rc tab [1, 4, 5, 6, 8, 26] [] [] [] [] ⟨62, [(1, vi a2), (4, .ref 0 0 0), (5, .ref 1 0 0), (6, .ref 2 0 0), (8, .d (.sl t_farkas_table) x2.1), (26, vb (x2.2 != (0 : Int)))], [.box [.nils], .box [vi (0 : Int)], .box [vi x2.2]]⟩ (by kernel_rfl) (trivial) ?_
    refine then_n (spine_c ?_)
    refine awp_cond (b := x2.2 != (0 : Int)) (by kernel_rfl) (fun hb => ?_) (fun hb => ?_)
    · replace h := h.1 (bne_iff_ne.mp hb)
      refine awp_spine ?_
      refine awp_dr tab mixed [4, 5, 6] [] [] [] ⟨[[], [], [1], [0, 1, 2]], [vi x2.2, .tup [], .tup [], .tup []], [none, none, none, none], [], [([], [.box [.nils], .box [vi (0 : Int)], .box [vi x2.2]])]⟩ ⟨62, [(4, .ref 0 0 0), (5, .ref 1 0 0), (6, .ref 2 0 0)], [.box [.nils], .box [vi (0 : Int)], .box [vi x2.2]]⟩ (by kernel_rfl) (AllO.n (AllO.n (AllO.n (AllO.n (AllO.e))))) ?_
      refine then_n (spine_c ?_)
      refine awp_ret (then_r (then_r (then_r (retW_G tab hk rfl (?_)))))
      exact ret_r (m := 0) (r := .tup [.d (.sl (.int .i64)) ((([] : List Int), 0, x2.2).1), vi ((([] : List Int), 0, x2.2).2.1), vi ((([] : List Int), 0, x2.2).2.2)]) (objs := []) hk [.keep [4, 5, 6], .nilBox 0 [0] (.int .i64), .keep [4, 5, 6]] ⟨62, [(4, .ref 0 0 0), (5, .ref 1 0 0), (6, .ref 2 0 0)], [.box [.d (.sl (.int .i64)) ([] : List Int)], .box [vi (0 : Int)], .box [vi x2.2]]⟩ (by kernel_rfl) (by kernel_rfl) (Nat.le_refl 0) ⟨(([] : List Int), 0, x2.2), rfl, rfl, h⟩
    · replace h := h.2 (bne_f hb)
      refine awp_skip (then_n (spine_e (then_n (?_))))
      refine awpG_seq ?_
      refine awp_spine ?_
      obtain ⟨o2, o3, h⟩ := h
      refine awp_rc tab [1, 4, 5, 6, 8, 10] [] [(3, .dat (.tup [.d (.sl (.int .i64)) ((farkas_table_refuted.fn (x2.1.getD (Int.toNat (0 : Int)) d_farkas_table)).1), vb ((farkas_table_refuted.fn (x2.1.getD (Int.toNat (0 : Int)) d_farkas_table)).2)]))] [] [(0 : Int) ≤ (0 : Int) ∧ (0 : Int) < (x2.1.length : Int), OkC prog 27 [.agg [vi ((x2.1.getD (Int.toNat (0 : Int)) d_farkas_table).1), .d (.sl t_farkas_row) ((x2.1.getD (Int.toNat (0 : Int)) d_farkas_table).2)]] (.tup [.d (.sl (.int .i64)) ((farkas_table_refuted.fn (x2.1.getD (Int.toNat (0 : Int)) d_farkas_table)).1), vb ((farkas_table_refuted.fn (x2.1.getD (Int.toNat (0 : Int)) d_farkas_table)).2)])] ⟨62, [(1, vi a2), (4, .ref 0 0 0), (5, .ref 1 0 0), (6, .ref 2 0 0), (8, .d (.sl t_farkas_table) x2.1), (10, vb ((farkas_table_refuted.fn (x2.1.getD (Int.toNat (0 : Int)) d_farkas_table)).2))], [.box [.nils], .box [vi (0 : Int)], .box [vi x2.2]]⟩ (by kernel_rfl) (AllP.of (o2) (AllP.of (ok_farkas_table_refuted (x2.1.getD (Int.toNat (0 : Int)) d_farkas_table) (o3)) trivial)) ?_
      refine then_n (spine_c ?_)
      refine awp_abs (fun (x3 : (List Int) × Bool) => ⟨62, [(1, vi a2), (4, .ref 0 0 0), (5, .ref 1 0 0), (6, .ref 2 0 0), (8, .d (.sl t_farkas_table) x2.1), (10, vb x3.2)], [.box [.nils], .box [vi (0 : Int)], .box [vi x2.2]]⟩) (farkas_table_refuted.fn (x2.1.getD (Int.toNat (0 : Int)) d_farkas_table)) ?_
      intro x3 hx3
      replace h := h x3 hx3
      refine awp_spine ?_
      refine awp_rc tab [1, 4, 5, 6, 8, 35] [] [] [] [] ⟨62, [(1, vi a2), (4, .ref 0 0 0), (5, .ref 1 0 0), (6, .ref 2 0 0), (8, .d (.sl t_farkas_table) x2.1), (35, vb x3.2)], [.box [.nils], .box [vi (0 : Int)], .box [vi x2.2]]⟩ (by kernel_rfl) (trivial) ?_
      refine then_n (spine_c ?_)
      refine awp_cond (b := x3.2) (by kernel_rfl) (fun hb => ?_) (fun hb => ?_)
      · replace h := h.1 (hb)
        refine awp_spine ?_
        refine awp_rc tab [4, 5, 6] [] [] [] [] ⟨62, [(4, .ref 0 0 0), (5, .ref 1 0 0), (6, .ref 2 0 0)], [.box [.nils], .box [vi (0 : Int)], .box [vi (5 : Int)]]⟩ (by kernel_rfl) (trivial) ?_
        refine then_n (spine_c ?_)
        refine awp_ret (then_r (then_r (then_r (then_r (retW_G tab hk rfl (?_))))))
        exact ret_r (m := 0) (r := .tup [.d (.sl (.int .i64)) ((([] : List Int), 0, 5).1), vi ((([] : List Int), 0, 5).2.1), vi ((([] : List Int), 0, 5).2.2)]) (objs := []) hk [.keep [4, 5, 6], .nilBox 0 [0] (.int .i64), .keep [4, 5, 6]] ⟨62, [(4, .ref 0 0 0), (5, .ref 1 0 0), (6, .ref 2 0 0)], [.box [.d (.sl (.int .i64)) ([] : List Int)], .box [vi (0 : Int)], .box [vi (5 : Int)]]⟩ (by kernel_rfl) (by kernel_rfl) (Nat.le_refl 0) ⟨(([] : List Int), 0, 5), rfl, rfl, h⟩
      · replace h := h.2 (hb)
        refine awp_skip (then_n (spine_e (then_n (spine_e (then_n (?_))))))
        refine awpG_seq ?_
        refine awp_rc tab [1, 4, 5, 6, 8, 11] [] [] [] [] ⟨62, [(1, vi a2), (4, .ref 0 0 0), (5, .ref 1 0 0), (6, .ref 2 0 0), (8, .d (.sl t_farkas_table) x2.1), (11, .ref 3 0 0)], [.box [.nils], .box [vi (0 : Int)], .box [vi x2.2], .box [.nils, vi (1 : Int)]]⟩ (by kernel_rfl) (trivial) ?_
        refine then_n (?_)
        refine awpG_defer tab rfl (g := 31) (cv := [.ref 2 0 0, .ref 0 0 0, .ref 1 0 0]) (s1 := ⟨62, [(37, .fn (.func 31) [] [.ref 2 0 0, .ref 0 0 0, .ref 1 0 0]), (1, vi a2), (4, .ref 0 0 0), (5, .ref 1 0 0), (6, .ref 2 0 0), (8, .d (.sl t_farkas_table) x2.1), (11, .ref 3 0 0)], [.box [.nils], .box [vi (0 : Int)], .box [vi x2.2], .box [.nils, vi (1 : Int)]]⟩) [0] 1 (by kernel_rfl) (by kernel_rfl) (by kernel_rfl) (by kernel_rfl) fun cx2 hD => ?_
        refine awpG_of ?_
        have hk : cx2.E.len = 4 := hD.len
        refine awp_gh hk [.keep [1, 4, 5, 6, 8, 11]] ⟨62, [(1, vi a2), (4, .ref 0 0 0), (5, .ref 1 0 0), (6, .ref 2 0 0), (8, .d (.sl t_farkas_table) x2.1), (11, .ref 3 0 0)], [.box [.nils], .box [vi (0 : Int)], .box [vi x2.2], .box [.nils, vi (1 : Int)]]⟩ (by kernel_rfl) ?_
        refine awp_spine ?_
        refine awp_rc tab [4, 5, 6, 8, 11, 38, 39] [] [] [] [] ⟨62, [(4, .ref 0 0 0), (5, .ref 1 0 0), (6, .ref 2 0 0), (8, .d (.sl t_farkas_table) x2.1), (11, .ref 3 0 0), (38, vi a2), (39, vi (0 : Int))], [.box [.nils], .box [vi (0 : Int)], .box [vi x2.2], .box [.nils, vi (1 : Int)]]⟩ (by kernel_rfl) (trivial) ?_
        refine then_n (spine_c ?_)
        refine awp_block ?_
        obtain ⟨I12, ⟨n12a, hz12⟩, hI12⟩ := h
        refine awp_loopN (fun n s => ∃ (x4 : Int) (x5 : Int) (x6 : (List Int)) (x7 : Int), I12 n x4 x5 x6 x7 ∧ s = ⟨62, [(4, .ref 0 0 0), (5, .ref 1 0 0), (6, .ref 2 0 0), (8, .d (.sl t_farkas_table) x2.1), (11, .ref 3 0 0), (38, vi a2), (39, vi x4)], [.box [.nils], .box [vi (0 : Int)], .box [vi x5], .box [.d (.sl (.int .i64)) x6, vi x7]]⟩) (n := n12a) (s0 := ⟨62, [(4, .ref 0 0 0), (5, .ref 1 0 0), (6, .ref 2 0 0), (8, .d (.sl t_farkas_table) x2.1), (11, .ref 3 0 0), (38, vi a2), (39, vi (0 : Int))], [.box [.nils], .box [vi (0 : Int)], .box [vi x2.2], .box [.d (.sl (.int .i64)) ([] : List Int), vi (1 : Int)]]⟩) (wk_ghosts hk (l := [.keep [4, 5, 6, 8, 11, 38, 39], .keep [4, 5, 6, 8, 11, 38, 39], .nilBox 3 [0] (.int .i64), .keep [4, 5, 6, 8, 11, 38, 39], .keep [4, 5, 6, 8, 11, 38, 39]]) (by kernel_rfl)) ⟨0, x2.2, ([] : List Int), 1, hz12, rfl⟩ ?_
        rintro n12 s ⟨x4, x5, x6, x7, hx12, rfl⟩
        have h := hI12 n12 x4 x5 x6 x7 hx12
        refine awp_spine ?_
        refine awp_rc tab [4, 5, 6, 8, 11, 38, 39, 40] [] [] [] [] ⟨62, [(4, .ref 0 0 0), (5, .ref 1 0 0), (6, .ref 2 0 0), (8, .d (.sl t_farkas_table) x2.1), (11, .ref 3 0 0), (38, vi a2), (39, vi x4), (40, vb (decide (x4 < a2)))], [.box [.nils], .box [vi (0 : Int)], .box [vi x5], .box [.d (.sl (.int .i64)) x6, vi x7]]⟩ (by kernel_rfl) (trivial) ?_
        refine then_n (spine_c ?_)
        refine awp_spine ?_
        refine awp_cond (b := decide (x4 < a2)) (by kernel_rfl) (fun hb => ?_) (fun hb => ?_)
        · replace h := h.1 (of_decide_eq_true hb)
          refine awp_skip (then_n (spine_c ?_))
          refine awp_spine ?_
          refine awp_block ?_
          refine awp_spine ?_
          refine awp_rc tab [4, 5, 6, 8, 11, 12, 38, 39] [] [] [] [] ⟨62, [(4, .ref 0 0 0), (5, .ref 1 0 0), (6, .ref 2 0 0), (8, .d (.sl t_farkas_table) x2.1), (11, .ref 3 0 0), (12, vi x4), (38, vi a2), (39, vi x4)], [.box [.nils], .box [vi (0 : Int)], .box [vi x5], .box [.d (.sl (.int .i64)) x6, vi x7]]⟩ (by kernel_rfl) (trivial) ?_
          refine then_n (spine_c ?_)
          refine awp_spine ?_
          obtain ⟨o4, o5, o6, o7, h⟩ := h
          refine awp_dr tab mixed [4, 5, 6, 8, 11, 38, 39] [] [(7, .dat (.agg [vi ((farkas_point_value.fn (x6, x7) (x2.1.getD (Int.toNat (x4 + (1 : Int))) d_farkas_table)).1), vi ((farkas_point_value.fn (x6, x7) (x2.1.getD (Int.toNat (x4 + (1 : Int))) d_farkas_table)).2)])), (8, .dat (.tup [.agg [.d (.sl (.int .i64)) (((farkas_point_with.fn (x6, x7) (farkas_point_value.fn (x6, x7) (x2.1.getD (Int.toNat (x4 + (1 : Int))) d_farkas_table))).1).1), vi (((farkas_point_with.fn (x6, x7) (farkas_point_value.fn (x6, x7) (x2.1.getD (Int.toNat (x4 + (1 : Int))) d_farkas_table))).1).2)], vi ((farkas_point_with.fn (x6, x7) (farkas_point_value.fn (x6, x7) (x2.1.getD (Int.toNat (x4 + (1 : Int))) d_farkas_table))).2)]))] [] ⟨[[], [], [], [], [3], [2, 3, 4], [2, 3, 4, 5], [1, 2, 3, 4, 5, 6], [0, 1, 2, 3, 4, 5, 6, 7], [0, 1, 2, 3, 4, 5, 6, 7, 8], [0, 1, 2, 3, 4, 5, 6, 7, 8, 9], [0, 1, 2, 3, 4, 5, 6, 7, 8, 9], [0, 1, 2, 3, 4, 5, 6, 7, 8, 9, 10], [0, 1, 2, 3, 4, 5, 6, 7, 8, 9, 10, 11, 12]], [.agg [.d (.sl (.int .i64)) x6, vi x7], .agg [.d (.sl (.int .i64)) x6, vi x7], .d (.sl t_farkas_table) x2.1, vi x4, vi (x4 + (1 : Int)), .er [vi ((x2.1.getD (Int.toNat (x4 + (1 : Int))) d_farkas_table).1), .d (.sl t_farkas_row) ((x2.1.getD (Int.toNat (x4 + (1 : Int))) d_farkas_table).2)], .agg [vi ((x2.1.getD (Int.toNat (x4 + (1 : Int))) d_farkas_table).1), .d (.sl t_farkas_row) ((x2.1.getD (Int.toNat (x4 + (1 : Int))) d_farkas_table).2)], .agg [vi ((farkas_point_value.fn (x6, x7) (x2.1.getD (Int.toNat (x4 + (1 : Int))) d_farkas_table)).1), vi ((farkas_point_value.fn (x6, x7) (x2.1.getD (Int.toNat (x4 + (1 : Int))) d_farkas_table)).2)], .tup [.agg [.d (.sl (.int .i64)) (((farkas_point_with.fn (x6, x7) (farkas_point_value.fn (x6, x7) (x2.1.getD (Int.toNat (x4 + (1 : Int))) d_farkas_table))).1).1), vi (((farkas_point_with.fn (x6, x7) (farkas_point_value.fn (x6, x7) (x2.1.getD (Int.toNat (x4 + (1 : Int))) d_farkas_table))).1).2)], vi ((farkas_point_with.fn (x6, x7) (farkas_point_value.fn (x6, x7) (x2.1.getD (Int.toNat (x4 + (1 : Int))) d_farkas_table))).2)], .tup [.agg [.d (.sl (.int .i64)) (((farkas_point_with.fn (x6, x7) (farkas_point_value.fn (x6, x7) (x2.1.getD (Int.toNat (x4 + (1 : Int))) d_farkas_table))).1).1), vi (((farkas_point_with.fn (x6, x7) (farkas_point_value.fn (x6, x7) (x2.1.getD (Int.toNat (x4 + (1 : Int))) d_farkas_table))).1).2)], vi ((farkas_point_with.fn (x6, x7) (farkas_point_value.fn (x6, x7) (x2.1.getD (Int.toNat (x4 + (1 : Int))) d_farkas_table))).2)], .agg [.d (.sl (.int .i64)) (((farkas_point_with.fn (x6, x7) (farkas_point_value.fn (x6, x7) (x2.1.getD (Int.toNat (x4 + (1 : Int))) d_farkas_table))).1).1), vi (((farkas_point_with.fn (x6, x7) (farkas_point_value.fn (x6, x7) (x2.1.getD (Int.toNat (x4 + (1 : Int))) d_farkas_table))).1).2)], vi ((farkas_point_with.fn (x6, x7) (farkas_point_value.fn (x6, x7) (x2.1.getD (Int.toNat (x4 + (1 : Int))) d_farkas_table))).2), .tup [], .tup []], [none, none, none, none, some (-9223372036854775808 ≤ x4 + (1 : Int) ∧ x4 + (1 : Int) ≤ 9223372036854775807), some ((0 : Int) ≤ (x4 + (1 : Int)) ∧ (x4 + (1 : Int)) < (x2.1.length : Int)), none, some (OkC prog 33 [.agg [.d (.sl (.int .i64)) x6, vi x7], .agg [vi ((x2.1.getD (Int.toNat (x4 + (1 : Int))) d_farkas_table).1), .d (.sl t_farkas_row) ((x2.1.getD (Int.toNat (x4 + (1 : Int))) d_farkas_table).2)]] (.agg [vi ((farkas_point_value.fn (x6, x7) (x2.1.getD (Int.toNat (x4 + (1 : Int))) d_farkas_table)).1), vi ((farkas_point_value.fn (x6, x7) (x2.1.getD (Int.toNat (x4 + (1 : Int))) d_farkas_table)).2)])), some (OkC prog 32 [.agg [.d (.sl (.int .i64)) x6, vi x7], .agg [vi ((farkas_point_value.fn (x6, x7) (x2.1.getD (Int.toNat (x4 + (1 : Int))) d_farkas_table)).1), vi ((farkas_point_value.fn (x6, x7) (x2.1.getD (Int.toNat (x4 + (1 : Int))) d_farkas_table)).2)]] (.tup [.agg [.d (.sl (.int .i64)) (((farkas_point_with.fn (x6, x7) (farkas_point_value.fn (x6, x7) (x2.1.getD (Int.toNat (x4 + (1 : Int))) d_farkas_table))).1).1), vi (((farkas_point_with.fn (x6, x7) (farkas_point_value.fn (x6, x7) (x2.1.getD (Int.toNat (x4 + (1 : Int))) d_farkas_table))).1).2)], vi ((farkas_point_with.fn (x6, x7) (farkas_point_value.fn (x6, x7) (x2.1.getD (Int.toNat (x4 + (1 : Int))) d_farkas_table))).2)])), none, none, none, none, none], [12, 13], [([], [.box [.nils], .box [vi (0 : Int)], .box [vi x5], .box [.d (.sl (.int .i64)) x6, vi x7]]), ([12], [.box [.nils], .box [vi (0 : Int)], .box [vi x5], .box [.d (.sl (.int .i64)) (((farkas_point_with.fn (x6, x7) (farkas_point_value.fn (x6, x7) (x2.1.getD (Int.toNat (x4 + (1 : Int))) d_farkas_table))).1).1), vi (((farkas_point_with.fn (x6, x7) (farkas_point_value.fn (x6, x7) (x2.1.getD (Int.toNat (x4 + (1 : Int))) d_farkas_table))).1).2)]]), ([12, 13], [.box [.nils], .box [vi (0 : Int)], .box [vi ((farkas_point_with.fn (x6, x7) (farkas_point_value.fn (x6, x7) (x2.1.getD (Int.toNat (x4 + (1 : Int))) d_farkas_table))).2)], .box [.d (.sl (.int .i64)) (((farkas_point_with.fn (x6, x7) (farkas_point_value.fn (x6, x7) (x2.1.getD (Int.toNat (x4 + (1 : Int))) d_farkas_table))).1).1), vi (((farkas_point_with.fn (x6, x7) (farkas_point_value.fn (x6, x7) (x2.1.getD (Int.toNat (x4 + (1 : Int))) d_farkas_table))).1).2)]])]⟩ ⟨62, [(4, .ref 0 0 0), (5, .ref 1 0 0), (6, .ref 2 0 0), (8, .d (.sl t_farkas_table) x2.1), (11, .ref 3 0 0), (38, vi a2), (39, vi x4)], [.box [.nils], .box [vi (0 : Int)], .box [vi ((farkas_point_with.fn (x6, x7) (farkas_point_value.fn (x6, x7) (x2.1.getD (Int.toNat (x4 + (1 : Int))) d_farkas_table))).2)], .box [.d (.sl (.int .i64)) (((farkas_point_with.fn (x6, x7) (farkas_point_value.fn (x6, x7) (x2.1.getD (Int.toNat (x4 + (1 : Int))) d_farkas_table))).1).1), vi (((farkas_point_with.fn (x6, x7) (farkas_point_value.fn (x6, x7) (x2.1.getD (Int.toNat (x4 + (1 : Int))) d_farkas_table))).1).2)]]⟩ (by kernel_rfl) (AllO.n (AllO.n (AllO.n (AllO.n (AllO.s (o4) (AllO.s (o5) (AllO.n (AllO.s (ok_farkas_point_value (x6, x7) (x2.1.getD (Int.toNat (x4 + (1 : Int))) d_farkas_table) (o6)) (AllO.s (ok_farkas_point_with (x6, x7) (farkas_point_value.fn (x6, x7) (x2.1.getD (Int.toNat (x4 + (1 : Int))) d_farkas_table)) (o7)) (AllO.n (AllO.n (AllO.n (AllO.n (AllO.n (AllO.e))))))))))))))) ?_
          refine then_n (spine_c ?_)
          refine awp_abs (fun (x13 : farkas_fraction) => ⟨62, [(4, .ref 0 0 0), (5, .ref 1 0 0), (6, .ref 2 0 0), (8, .d (.sl t_farkas_table) x2.1), (11, .ref 3 0 0), (38, vi a2), (39, vi x4)], [.box [.nils], .box [vi (0 : Int)], .box [vi ((farkas_point_with.fn (x6, x7) x13).2)], .box [.d (.sl (.int .i64)) (((farkas_point_with.fn (x6, x7) x13).1).1), vi (((farkas_point_with.fn (x6, x7) x13).1).2)]]⟩) (farkas_point_value.fn (x6, x7) (x2.1.getD (Int.toNat (x4 + (1 : Int))) d_farkas_table)) ?_
          intro x13 hx13
          replace h := h x13 hx13
          refine awp_abs (fun (x14 : farkas_point × Int) => ⟨62, [(4, .ref 0 0 0), (5, .ref 1 0 0), (6, .ref 2 0 0), (8, .d (.sl t_farkas_table) x2.1), (11, .ref 3 0 0), (38, vi a2), (39, vi x4)], [.box [.nils], .box [vi (0 : Int)], .box [vi x14.2], .box [.d (.sl (.int .i64)) x14.1.1, vi x14.1.2]]⟩) (farkas_point_with.fn (x6, x7) x13) ?_
          intro x14 hx14
          replace h := h x14 hx14
          refine awp_abs (fun (x15 : Int) => ⟨62, [(4, .ref 0 0 0), (5, .ref 1 0 0), (6, .ref 2 0 0), (8, .d (.sl t_farkas_table) x2.1), (11, .ref 3 0 0), (38, vi a2), (39, vi x4)], [.box [.nils], .box [vi (0 : Int)], .box [vi x15], .box [.d (.sl (.int .i64)) x14.1.1, vi x14.1.2]]⟩) (x14.2) ?_
          intro x15 hx15
          replace h := h x15 hx15
          refine awp_abs (fun (x16 : (List Int)) => ⟨62, [(4, .ref 0 0 0), (5, .ref 1 0 0), (6, .ref 2 0 0), (8, .d (.sl t_farkas_table) x2.1), (11, .ref 3 0 0), (38, vi a2), (39, vi x4)], [.box [.nils], .box [vi (0 : Int)], .box [vi x15], .box [.d (.sl (.int .i64)) x16, vi x14.1.2]]⟩) (x14.1.1) ?_
          intro x16 hx16
          replace h := h x16 hx16
          refine awp_abs (fun (x17 : Int) => ⟨62, [(4, .ref 0 0 0), (5, .ref 1 0 0), (6, .ref 2 0 0), (8, .d (.sl t_farkas_table) x2.1), (11, .ref 3 0 0), (38, vi a2), (39, vi x4)], [.box [.nils], .box [vi (0 : Int)], .box [vi x15], .box [.d (.sl (.int .i64)) x16, vi x17]]⟩) (x14.1.2) ?_
          intro x17 hx17
          replace h := h x17 hx17
          refine awp_spine ?_
          refine awp_rc tab [4, 5, 6, 8, 11, 38, 39, 55] [] [] [] [] ⟨62, [(4, .ref 0 0 0), (5, .ref 1 0 0), (6, .ref 2 0 0), (8, .d (.sl t_farkas_table) x2.1), (11, .ref 3 0 0), (38, vi a2), (39, vi x4), (55, vb (x15 != (0 : Int)))], [.box [.nils], .box [vi (0 : Int)], .box [vi x15], .box [.d (.sl (.int .i64)) x16, vi x17]]⟩ (by kernel_rfl) (trivial) ?_
          refine then_n (spine_c ?_)
          refine awp_cond (b := x15 != (0 : Int)) (by kernel_rfl) (fun hb => ?_) (fun hb => ?_)
          · replace h := h.1 (bne_iff_ne.mp hb)
            refine awp_spine ?_
            refine awp_dr tab mixed [4, 5, 6] [] [] [] ⟨[[], [], [1], [0, 1, 2]], [vi x15, .tup [], .tup [], .tup []], [none, none, none, none], [], [([], [.box [.nils], .box [vi (0 : Int)], .box [vi x15], .box [.d (.sl (.int .i64)) x16, vi x17]])]⟩ ⟨62, [(4, .ref 0 0 0), (5, .ref 1 0 0), (6, .ref 2 0 0)], [.box [.nils], .box [vi (0 : Int)], .box [vi x15], .box [.d (.sl (.int .i64)) x16, vi x17]]⟩ (by kernel_rfl) (AllO.n (AllO.n (AllO.n (AllO.n (AllO.e))))) ?_
            refine then_n (spine_c ?_)
            refine awp_ret (then_r (then_r (then_r (then_r (blk_r (then_r (then_r (then_r (then_r (blk_r (then_r (?_))))))))))))
            refine retD tab hkE rfl hD (.inr rfl) Try.func31 (cg := (spine (subC [0] Bfarkas_Inner_1) [(.cond (.tmp 4) (subC [1, 0] Bfarkas_Inner_1) .skip)])) (by kernel_rfl) call_farkas_Inner_1 (by kernel_rfl) (by kernel_rfl) (s' := ⟨62, [(4, .ref 0 0 0), (5, .ref 1 0 0), (6, .ref 2 0 0)], [.box [.d (.sl (.int .i64)) ([] : List Int)], .box [vi (0 : Int)], .box [vi x15], .dead]⟩) (wk_ghosts hk (l := [.keep [4, 5, 6], .freeze 3, .nilBox 0 [0] (.int .i64)]) (by kernel_rfl)) fun cxg hgd hgi hk => ?_
            show AWp prog cxg _ _ ⟨5, [(0, .ref 2 0 0), (1, .ref 0 0 0), (2, .ref 1 0 0)], [.box [.d (.sl (.int .i64)) ([] : List Int)], .box [vi (0 : Int)], .box [vi x15], .dead]⟩
            replace hk : cxg.E.len = 4 := hk
            refine awp_spine ?_
            refine awp_rc tab [1, 2, 4] [] [] [] [] ⟨5, [(1, .ref 0 0 0), (2, .ref 1 0 0), (4, vb (x15 != (0 : Int)))], [.box [.d (.sl (.int .i64)) ([] : List Int)], .box [vi (0 : Int)], .box [vi x15], .dead]⟩ (by kernel_rfl) (trivial) ?_
            refine then_n (spine_c ?_)
            refine awp_cond (b := x15 != (0 : Int)) (by kernel_rfl) (fun hb => ?_) (fun hb => ?_)
            · replace h := h.1 (bne_iff_ne.mp hb)
              refine awp_rc tab [] [] [] [] [] ⟨5, [], [.box [.nils], .box [vi (0 : Int)], .box [vi x15], .dead]⟩ (by kernel_rfl) (trivial) ?_
              refine then_n (spine_e ?_)
              exact endG (m := 0) (he := .inl rfl) (r := .tup [.d (.sl (.int .i64)) ((([] : List Int), 0, x15).1), vi ((([] : List Int), 0, x15).2.1), vi ((([] : List Int), 0, x15).2.2)]) (objs := []) (hE := hkE) (hk0 := rfl) [.keep [4, 5, 6], .nilBox 0 [0] (.int .i64), .keep [4, 5, 6]] ⟨62, [(4, .ref 0 0 0), (5, .ref 1 0 0), (6, .ref 2 0 0)], [.box [.d (.sl (.int .i64)) ([] : List Int)], .box [vi (0 : Int)], .box [vi x15], .dead]⟩ (by kernel_rfl) (by kernel_rfl) (Nat.le_refl 0) ⟨(([] : List Int), 0, x15), rfl, rfl, h⟩
            · replace h := h.2 (bne_f hb)
              refine awp_skip (then_n (spine_e ?_))
              exact endG (m := 0) (he := .inl rfl) (r := .tup [.d (.sl (.int .i64)) ((([] : List Int), 0, x15).1), vi ((([] : List Int), 0, x15).2.1), vi ((([] : List Int), 0, x15).2.2)]) (objs := []) (hE := hkE) (hk0 := rfl) [.keep [4, 5, 6]] ⟨62, [(4, .ref 0 0 0), (5, .ref 1 0 0), (6, .ref 2 0 0)], [.box [.d (.sl (.int .i64)) ([] : List Int)], .box [vi (0 : Int)], .box [vi x15], .dead]⟩ (by kernel_rfl) (by kernel_rfl) (Nat.le_refl 0) ⟨(([] : List Int), 0, x15), rfl, rfl, h⟩
          · replace h := h.2 (bne_f hb)
            refine awp_skip (then_n (spine_e (then_n (spine_e (then_n (spine_e (blk_n (then_n (spine_c ?_)))))))))
            obtain ⟨o108, h⟩ := h
            refine awp_rc tab [4, 5, 6, 8, 11, 38, 39] [] [] [] [-9223372036854775808 ≤ x4 + (1 : Int) ∧ x4 + (1 : Int) ≤ 9223372036854775807] ⟨62, [(4, .ref 0 0 0), (5, .ref 1 0 0), (6, .ref 2 0 0), (8, .d (.sl t_farkas_table) x2.1), (11, .ref 3 0 0), (38, vi a2), (39, vi (x4 + (1 : Int)))], [.box [.nils], .box [vi (0 : Int)], .box [vi x15], .box [.d (.sl (.int .i64)) x16, vi x17]]⟩ (by kernel_rfl) (AllP.of (o108) trivial) ?_
            refine then_n (spine_e (then_n (spine_e (then_n (spine_e (then_n (?_)))))))
            obtain ⟨m, hm, h⟩ := h
            exact ⟨m, hm, ⟨62, [(4, .ref 0 0 0), (5, .ref 1 0 0), (6, .ref 2 0 0), (8, .d (.sl t_farkas_table) x2.1), (11, .ref 3 0 0), (38, vi a2), (39, vi (x4 + (1 : Int)))], [.box [.nils], .box [vi (0 : Int)], .box [vi x15], .box [.d (.sl (.int .i64)) x16, vi x17]]⟩, wk_ghosts hk (l := [.keep [4, 5, 6, 8, 11, 38, 39], .keep [4, 5, 6, 8, 11, 38, 39], .keep [4, 5, 6, 8, 11, 38, 39]]) (by kernel_rfl), x4 + (1 : Int), x15, x16, x17, h, rfl⟩
        · replace h := h.2 (of_decide_eq_false hb)
          refine awp_exit (then_x (then_x (then_x (blk_h (then_n (spine_c ?_))))))
          refine awp_spine ?_
          refine awp_dr tab mixed [4, 5, 6] [] [] [] ⟨[[], [0], [], [2], [0, 1], [0, 1, 2, 3, 4], [0, 1, 2, 3, 4, 5]], [.ref 3 0 0, .d (.sl (.int .i64)) x6, .ref 3 0 1, vi x7, .tup [], .tup [], .tup []], [none, none, none, none, none, none, none], [4, 5, 6], [([], [.box [.nils], .box [vi (0 : Int)], .box [vi x5], .box [.d (.sl (.int .i64)) x6, vi x7]]), ([4], [.box [.d (.sl (.int .i64)) x6], .box [vi (0 : Int)], .box [vi x5], .box [.d (.sl (.int .i64)) x6, vi x7]]), ([4, 5], [.box [.d (.sl (.int .i64)) x6], .box [vi x7], .box [vi x5], .box [.d (.sl (.int .i64)) x6, vi x7]]), ([4, 5, 6], [.box [.d (.sl (.int .i64)) x6], .box [vi x7], .box [vi (0 : Int)], .box [.d (.sl (.int .i64)) x6, vi x7]])]⟩ ⟨62, [(4, .ref 0 0 0), (5, .ref 1 0 0), (6, .ref 2 0 0)], [.box [.d (.sl (.int .i64)) x6], .box [vi x7], .box [vi (0 : Int)], .box [.d (.sl (.int .i64)) x6, vi x7]]⟩ (by kernel_rfl) (AllO.n (AllO.n (AllO.n (AllO.n (AllO.n (AllO.n (AllO.n (AllO.e)))))))) ?_
          refine then_n (spine_c ?_)
          refine awp_ret (then_r (then_r (?_)))
          refine retD tab hkE rfl hD (.inr rfl) Try.func31 (cg := (spine (subC [0] Bfarkas_Inner_1) [(.cond (.tmp 4) (subC [1, 0] Bfarkas_Inner_1) .skip)])) (by kernel_rfl) call_farkas_Inner_1 (by kernel_rfl) (by kernel_rfl) (s' := ⟨62, [(4, .ref 0 0 0), (5, .ref 1 0 0), (6, .ref 2 0 0)], [.box [.d (.sl (.int .i64)) x6], .box [vi x7], .box [vi (0 : Int)], .dead]⟩) (wk_ghosts hk (l := [.keep [4, 5, 6], .freeze 3]) (by kernel_rfl)) fun cxg hgd hgi hk => ?_
          show AWp prog cxg _ _ ⟨5, [(0, .ref 2 0 0), (1, .ref 0 0 0), (2, .ref 1 0 0)], [.box [.d (.sl (.int .i64)) x6], .box [vi x7], .box [vi (0 : Int)], .dead]⟩
          replace hk : cxg.E.len = 4 := hk
          refine awp_spine ?_
          refine awp_rc tab [1, 2, 4] [] [] [] [] ⟨5, [(1, .ref 0 0 0), (2, .ref 1 0 0), (4, vb ((0 : Int) != (0 : Int)))], [.box [.d (.sl (.int .i64)) x6], .box [vi x7], .box [vi (0 : Int)], .dead]⟩ (by kernel_rfl) (trivial) ?_
          refine then_n (spine_c ?_)
          refine awp_cond (b := (0 : Int) != (0 : Int)) (by kernel_rfl) (fun hb => ?_) (fun hb => ?_)
          · replace h := h.1 (bne_iff_ne.mp hb)
            refine awp_rc tab [] [] [] [] [] ⟨5, [], [.box [.nils], .box [vi (0 : Int)], .box [vi (0 : Int)], .dead]⟩ (by kernel_rfl) (trivial) ?_
            refine then_n (spine_e ?_)
            exact endG (m := 0) (he := .inl rfl) (r := .tup [.d (.sl (.int .i64)) ((([] : List Int), 0, 0).1), vi ((([] : List Int), 0, 0).2.1), vi ((([] : List Int), 0, 0).2.2)]) (objs := []) (hE := hkE) (hk0 := rfl) [.keep [4, 5, 6], .nilBox 0 [0] (.int .i64), .keep [4, 5, 6]] ⟨62, [(4, .ref 0 0 0), (5, .ref 1 0 0), (6, .ref 2 0 0)], [.box [.d (.sl (.int .i64)) ([] : List Int)], .box [vi (0 : Int)], .box [vi (0 : Int)], .dead]⟩ (by kernel_rfl) (by kernel_rfl) (Nat.le_refl 0) ⟨(([] : List Int), 0, 0), rfl, rfl, h⟩
          · replace h := h.2 (bne_f hb)
            refine awp_skip (then_n (spine_e ?_))
            exact endG (m := 0) (he := .inl rfl) (r := .tup [.d (.sl (.int .i64)) ((x6, x7, 0).1), vi ((x6, x7, 0).2.1), vi ((x6, x7, 0).2.2)]) (objs := []) (hE := hkE) (hk0 := rfl) [.keep [4, 5, 6]] ⟨62, [(4, .ref 0 0 0), (5, .ref 1 0 0), (6, .ref 2 0 0)], [.box [.d (.sl (.int .i64)) x6], .box [vi x7], .box [vi (0 : Int)], .dead]⟩ (by kernel_rfl) (by kernel_rfl) (Nat.le_refl 0) ⟨(x6, x7, 0), rfl, rfl, h⟩
theorem ok_farkas_Inner (a1 : (List api_Cond)) (a2 : Int) : OkC prog 13 [.d (.sl t_api_Cond) a1, vi a2] (.tup [.d (.sl (.int .i64)) ((farkas_Inner.fn a1 a2).1), vi ((farkas_Inner.fn a1 a2).2.1), vi ((farkas_Inner.fn a1 a2).2.2)]) :=
  OkC.of call_farkas_Inner ((walk_farkas_Inner a1 a2 _ (farkas_Inner.spec a1 a2)).mono fun r o ⟨x, hr, ho, hx⟩ => ⟨by rw [hr, hx], ho⟩) rfl rfl (fun _ => rfl)

noncomputable abbrev Blaw09_ge : Code := bodyOf Try.f24
theorem call_law09_ge : CallOk prog 24 := ⟨_, Try.func24, by kernel_rfl, by kernel_rfl⟩
theorem walk_law09_ge (a1 : Int) (a2 : (List Int)) (Q : api_Cond → Prop) (h : law09_ge.wp a1 a2 Q) : VCalls prog 24 [vi a1, .d (.sl (.int .i64)) a2] [] (fun r o => ∃ x, r = .agg [vi x.1, vi x.2.1, .d (.sl (.int .i64)) x.2.2.1, vi x.2.2.2] ∧ o = [] ∧ Q x) := by
  refine vcalls_body tab Try.func24 (c := (spine (subC [0] Blaw09_ge) [(spine (subC [1, 0] Blaw09_ge) [.ret])])) (by kernel_rfl) (Nat.le_of_ble_eq_true (by kernel_rfl)) fun cx hd hi hk => ?_
  show AWp prog cx _ _ ⟨9, [(0, vi a1), (1, .d (.sl (.int .i64)) a2)], []⟩
  replace hk : cx.E.len = 0 := hk
  unfold law09_ge.wp at h
  refine awp_spine ?_
  refine awp_rc tab [0, 1, 4] [] [] [] [] ⟨9, [(0, vi a1), (1, .d (.sl (.int .i64)) a2), (4, .ref 0 0 0)], [.box [vi (0 : Int), vi (0 : Int), .nils, vi (0 : Int)]]⟩ (by kernel_rfl) (trivial) ?_
  refine then_n (spine_c ?_)
  refine awp_spine ?_
  refine awp_rc tab [4] [] [] [] [] ⟨9, [(4, .ref 0 0 0)], [.box [vi (0 : Int), vi (0 : Int), .d (.sl (.int .i64)) a2, vi a1]]⟩ (by kernel_rfl) (trivial) ?_
  refine then_n (spine_c ?_)
  refine awp_ret (then_r (then_r (?_)))
  exact ret_r (m := 0) (r := .agg [vi ((0, 0, (a2, a1)).1), vi ((0, 0, (a2, a1)).2.1), .d (.sl (.int .i64)) (((0, 0, (a2, a1)).2.2).1), vi (((0, 0, (a2, a1)).2.2).2)]) (objs := []) hk [.keep [4]] ⟨9, [(4, .ref 0 0 0)], [.box [vi (0 : Int), vi (0 : Int), .d (.sl (.int .i64)) a2, vi a1]]⟩ (by kernel_rfl) (by kernel_rfl) (Nat.le_refl 0) ⟨(0, 0, (a2, a1)), rfl, rfl, h⟩
theorem ok_law09_ge (a1 : Int) (a2 : (List Int)) (h : law09_ge.pre a1 a2) : OkC prog 24 [vi a1, .d (.sl (.int .i64)) a2] (.agg [vi ((law09_ge.fn a1 a2).1), vi ((law09_ge.fn a1 a2).2.1), .d (.sl (.int .i64)) (((law09_ge.fn a1 a2).2.2).1), vi (((law09_ge.fn a1 a2).2.2).2)]) :=
  OkC.of call_law09_ge ((walk_law09_ge a1 a2 _ (law09_ge.spec a1 a2 h)).mono fun r o ⟨x, hr, ho, hx⟩ => ⟨by rw [hr, hx], ho⟩) rfl rfl (fun _ => rfl)

noncomputable abbrev Bref02_Order : Code := bodyOf Try.f40
theorem call_ref02_Order : CallOk prog 40 := ⟨_, Try.func40, by kernel_rfl, by kernel_rfl⟩
theorem walk_ref02_Order (a1 : (List Int)) (a2 : (List Int)) (Q : Int → Prop) (h : ref02_Order.wp a1 a2 Q) : VCalls prog 40 [.d (.sl (.int .i64)) a1, .d (.sl (.int .i64)) a2] [] (fun r o => ∃ x, r = vi x ∧ o = [] ∧ Q x) := by
  refine vcalls_body tab Try.func40 (c := (spine (subC [0] Bref02_Order) [(spine (subC [1, 0, 0] Bref02_Order) [(.block 0 (.loop (spine (subC [1, 0, 1, 0, 0, 0] Bref02_Order) [(spine (.cond (.tmp 9) .skip (.exit 0)) [(spine (.block 1 (spine (subC [1, 0, 1, 0, 0, 1, 1, 0, 0, 0] Bref02_Order) [(.block 2 (spine (subC [1, 0, 1, 0, 0, 1, 1, 0, 0, 1, 0, 0] Bref02_Order) [(.cond (.tmp 11) (spine (subC [1, 0, 1, 0, 0, 1, 1, 0, 0, 1, 0, 1, 0, 0] Bref02_Order) [.ret]) (spine (subC [1, 0, 1, 0, 0, 1, 1, 0, 0, 1, 0, 1, 1, 0] Bref02_Order) [(.cond (.tmp 21) (spine (subC [1, 0, 1, 0, 0, 1, 1, 0, 0, 1, 0, 1, 1, 1, 0, 0] Bref02_Order) [.ret]) .skip)]))]))])) [(subC [1, 0, 1, 0, 0, 1, 1, 1] Bref02_Order)])])]))), (spine (subC [1, 1, 0] Bref02_Order) [.ret])])])) (by kernel_rfl) (Nat.le_of_ble_eq_true (by kernel_rfl)) fun cx hd hi hk => ?_
  show AWp prog cx _ _ ⟨32, [(0, .d (.sl (.int .i64)) a1), (1, .d (.sl (.int .i64)) a2)], []⟩
  replace hk : cx.E.len = 0 := hk
  unfold ref02_Order.wp at h
  refine awp_spine ?_
  refine awp_rc tab [0, 1] [] [] [] [] ⟨32, [(0, .d (.sl (.int .i64)) a1), (1, .d (.sl (.int .i64)) a2)], []⟩ (by kernel_rfl) (trivial) ?_
  refine then_n (spine_c ?_)
  refine awp_spine ?_
  refine awp_rc tab [0, 1, 7, 8] [] [] [] [] ⟨32, [(0, .d (.sl (.int .i64)) a1), (1, .d (.sl (.int .i64)) a2), (7, vi (a1.length : Int)), (8, vi (0 : Int))], []⟩ (by kernel_rfl) (trivial) ?_
  refine then_n (spine_c ?_)
  refine awp_len 0 [] (T := (.int .i64)) (l := a1) (by kernel_rfl) fun hl => ?_
  replace h := h hl
  refine awp_block ?_
  obtain ⟨I4, ⟨n4a, hz4⟩, hI4⟩ := h
  refine awp_loopN (fun n s => ∃ (x2 : Int), I4 n x2 ∧ s = ⟨32, [(0, .d (.sl (.int .i64)) a1), (1, .d (.sl (.int .i64)) a2), (7, vi (a1.length : Int)), (8, vi x2)], []⟩) (n := n4a) (s0 := ⟨32, [(0, .d (.sl (.int .i64)) a1), (1, .d (.sl (.int .i64)) a2), (7, vi (a1.length : Int)), (8, vi (0 : Int))], []⟩) (wk_ghosts hk (l := [.keep [0, 1, 7, 8], .keep [0, 1, 7, 8], .keep [0, 1, 7, 8], .keep [0, 1, 7, 8]]) (by kernel_rfl)) ⟨0, hz4, rfl⟩ ?_
  rintro n4 s ⟨x2, hx4, rfl⟩
  have h := hI4 n4 x2 hx4
  refine awp_spine ?_
  refine awp_rc tab [0, 1, 7, 8, 9] [] [] [] [] ⟨32, [(0, .d (.sl (.int .i64)) a1), (1, .d (.sl (.int .i64)) a2), (7, vi (a1.length : Int)), (8, vi x2), (9, vb (decide (x2 < (a1.length : Int))))], []⟩ (by kernel_rfl) (trivial) ?_
  refine then_n (spine_c ?_)
  refine awp_spine ?_
  refine awp_cond (b := decide (x2 < (a1.length : Int))) (by kernel_rfl) (fun hb => ?_) (fun hb => ?_)
  · replace h := h.1 (of_decide_eq_true hb)
    refine awp_skip (then_n (spine_c ?_))
    refine awp_spine ?_
    refine awp_block ?_
    refine awp_spine ?_
    refine awp_rc tab [0, 1, 5, 7, 8] [] [] [] [] ⟨32, [(0, .d (.sl (.int .i64)) a1), (1, .d (.sl (.int .i64)) a2), (5, vi x2), (7, vi (a1.length : Int)), (8, vi x2)], []⟩ (by kernel_rfl) (trivial) ?_
    refine then_n (spine_c ?_)
    refine awp_block ?_
    refine awp_spine ?_
    obtain ⟨o1, o2, h⟩ := h
    refine awp_dr tab mixed [0, 1, 5, 7, 8, 11] [] [] [] ⟨[[], [], [0, 1], [0, 1, 2], [], [], [4, 5], [4, 5, 6], [0, 1, 2, 3, 4, 5, 6, 7], [0, 1, 2, 3, 4, 5, 6, 7, 8]], [.d (.sl (.int .i64)) a1, vi x2, .er [vi (gI a1 x2)], vi (gI a1 x2), .d (.sl (.int .i64)) a2, vi x2, .er [vi (gI a2 x2)], vi (gI a2 x2), vb (decide ((gI a1 x2) < (gI a2 x2))), vb (decide ((gI a1 x2) < (gI a2 x2)))], [none, none, some ((0 : Int) ≤ x2 ∧ x2 < (a1.length : Int)), none, none, none, some ((0 : Int) ≤ x2 ∧ x2 < (a2.length : Int)), none, none, none], [], [([], [])]⟩ ⟨32, [(0, .d (.sl (.int .i64)) a1), (1, .d (.sl (.int .i64)) a2), (5, vi x2), (7, vi (a1.length : Int)), (8, vi x2), (11, vb (decide ((gI a1 x2) < (gI a2 x2))))], []⟩ (by kernel_rfl) (AllO.n (AllO.n (AllO.s (o1) (AllO.n (AllO.n (AllO.n (AllO.s (o2) (AllO.n (AllO.n (AllO.n (AllO.e))))))))))) ?_
    refine then_n (spine_c ?_)
    refine awp_cond (b := decide ((gI a1 x2) < (gI a2 x2))) (by kernel_rfl) (fun hb => ?_) (fun hb => ?_)
    · replace h := h.1 (of_decide_eq_true hb)
      refine awp_spine ?_
      refine awp_rc tab [4] [] [] [] [] ⟨32, [(4, vi (-1))], []⟩ (by kernel_rfl) (trivial) ?_
      refine then_n (spine_c ?_)
      refine awp_ret (then_r (then_r (blk_r (then_r (blk_r (then_r (then_r (then_r (then_r (blk_r (then_r (then_r (?_)))))))))))))
      exact ret_r (m := 0) (r := vi (-1)) (objs := []) hk [.keep [4]] ⟨32, [(4, vi (-1))], []⟩ (by kernel_rfl) (by kernel_rfl) (Nat.le_refl 0) ⟨(-1), rfl, rfl, h⟩
    · replace h := h.2 (of_decide_eq_false hb)
      refine awp_spine ?_
      obtain ⟨o3, o4, h⟩ := h
      refine awp_dr tab mixed [0, 1, 7, 8, 21] [] [] [] ⟨[[], [], [0, 1], [0, 1, 2], [], [], [4, 5], [4, 5, 6], [0, 1, 2, 3, 4, 5, 6, 7], [0, 1, 2, 3, 4, 5, 6, 7, 8]], [.d (.sl (.int .i64)) a1, vi x2, .er [vi (gI a1 x2)], vi (gI a1 x2), .d (.sl (.int .i64)) a2, vi x2, .er [vi (gI a2 x2)], vi (gI a2 x2), vb (decide ((gI a1 x2) > (gI a2 x2))), vb (decide ((gI a1 x2) > (gI a2 x2)))], [none, none, some ((0 : Int) ≤ x2 ∧ x2 < (a1.length : Int)), none, none, none, some ((0 : Int) ≤ x2 ∧ x2 < (a2.length : Int)), none, none, none], [], [([], [])]⟩ ⟨32, [(0, .d (.sl (.int .i64)) a1), (1, .d (.sl (.int .i64)) a2), (7, vi (a1.length : Int)), (8, vi x2), (21, vb (decide ((gI a1 x2) > (gI a2 x2))))], []⟩ (by kernel_rfl) (AllO.n (AllO.n (AllO.s (o3) (AllO.n (AllO.n (AllO.n (AllO.s (o4) (AllO.n (AllO.n (AllO.n (AllO.e))))))))))) ?_
      refine then_n (spine_c ?_)
      refine awp_cond (b := decide ((gI a1 x2) > (gI a2 x2))) (by kernel_rfl) (fun hb => ?_) (fun hb => ?_)
      · replace h := h.1 (of_decide_eq_true hb)
        refine awp_spine ?_
        refine awp_rc tab [4] [] [] [] [] ⟨32, [(4, vi (1 : Int))], []⟩ (by kernel_rfl) (trivial) ?_
        refine then_n (spine_c ?_)
        refine awp_ret (then_r (then_r (then_r (blk_r (then_r (blk_r (then_r (then_r (then_r (then_r (blk_r (then_r (then_r (?_))))))))))))))
        exact ret_r (m := 0) (r := vi (1 : Int)) (objs := []) hk [.keep [4]] ⟨32, [(4, vi (1 : Int))], []⟩ (by kernel_rfl) (by kernel_rfl) (Nat.le_refl 0) ⟨1, rfl, rfl, h⟩
      · replace h := h.2 (of_decide_eq_false hb)
        refine awp_skip (then_n (spine_e (then_n (spine_e (blk_n (then_n (spine_e (blk_n (then_n (spine_c ?_))))))))))
        obtain ⟨o5, h⟩ := h
        refine awp_rc tab [0, 1, 7, 8] [] [] [] [-9223372036854775808 ≤ x2 + (1 : Int) ∧ x2 + (1 : Int) ≤ 9223372036854775807] ⟨32, [(0, .d (.sl (.int .i64)) a1), (1, .d (.sl (.int .i64)) a2), (7, vi (a1.length : Int)), (8, vi (x2 + (1 : Int)))], []⟩ (by kernel_rfl) (AllP.of (o5) trivial) ?_
        refine then_n (spine_e (then_n (spine_e (then_n (spine_e (then_n (?_)))))))
        obtain ⟨m, hm, h⟩ := h
        exact ⟨m, hm, ⟨32, [(0, .d (.sl (.int .i64)) a1), (1, .d (.sl (.int .i64)) a2), (7, vi (a1.length : Int)), (8, vi (x2 + (1 : Int)))], []⟩, wk_ghosts hk (l := [.keep [0, 1, 7, 8], .keep [0, 1, 7, 8], .keep [0, 1, 7, 8]]) (by kernel_rfl), x2 + (1 : Int), h, rfl⟩
  · replace h := h.2 (of_decide_eq_false hb)
    refine awp_exit (then_x (then_x (then_x (blk_h (then_n (spine_c ?_))))))
    refine awp_spine ?_
    refine awp_rc tab [4] [] [] [] [] ⟨32, [(4, vi (0 : Int))], []⟩ (by kernel_rfl) (trivial) ?_
    refine then_n (spine_c ?_)
    refine awp_ret (then_r (then_r (then_r (?_))))
    exact ret_r (m := 0) (r := vi (0 : Int)) (objs := []) hk [.keep [4]] ⟨32, [(4, vi (0 : Int))], []⟩ (by kernel_rfl) (by kernel_rfl) (Nat.le_refl 0) ⟨0, rfl, rfl, h⟩
theorem ok_ref02_Order (a1 : (List Int)) (a2 : (List Int)) (h : ref02_Order.pre a1 a2) : OkC prog 40 [.d (.sl (.int .i64)) a1, .d (.sl (.int .i64)) a2] (vi (ref02_Order.fn a1 a2)) :=
  OkC.of call_ref02_Order ((walk_ref02_Order a1 a2 _ (ref02_Order.spec a1 a2 h)).mono fun r o ⟨x, hr, ho, hx⟩ => ⟨by rw [hr, hx], ho⟩) rfl rfl (fun _ => rfl)

noncomputable abbrev Blaw09_list : Code := bodyOf Try.f15
theorem call_law09_list : CallOk prog 15 := ⟨_, Try.func15, by kernel_rfl, by kernel_rfl⟩
theorem walk_law09_list (a1 : (List Int)) (a2 : (List Int)) (Q : Bool → Prop) (h : law09_list.wp a1 a2 Q) : VCalls prog 15 [.d (.sl (.int .i64)) a1, .d (.sl (.int .i64)) a2] [] (fun r o => ∃ x, r = vb x ∧ o = [] ∧ Q x) := by
  refine vcalls_body tab Try.func15 (c := (spine (subC [0] Blaw09_list) [(spine (subC [1, 0] Blaw09_list) [.ret])])) (by kernel_rfl) (Nat.le_of_ble_eq_true (by kernel_rfl)) fun cx hd hi hk => ?_
  show AWp prog cx _ _ ⟨16, [(0, .d (.sl (.int .i64)) a1), (1, .d (.sl (.int .i64)) a2)], []⟩
  replace hk : cx.E.len = 0 := hk
  unfold law09_list.wp at h
  refine awp_spine ?_
  refine awp_rc tab [0, 1] [] [] [] [] ⟨16, [(0, .d (.sl (.int .i64)) a1), (1, .d (.sl (.int .i64)) a2)], []⟩ (by kernel_rfl) (trivial) ?_
  refine then_n (spine_c ?_)
  refine awp_spine ?_
  obtain ⟨o1, h⟩ := h
  refine awp_rc tab [4] [] [(8, .dat (vi (ref02_Order.fn a1 a2)))] [] [((a1.length : Int) == (a2.length : Int)) = true → ((a1.length : Int) == (a2.length : Int)) = true ∧ (((a1.length : Int) == (a2.length : Int)) = true ∧ (OkC prog 40 [.d (.sl (.int .i64)) a1, .d (.sl (.int .i64)) a2] (vi (ref02_Order.fn a1 a2)))), ((a1.length : Int) == (a2.length : Int)) = true → ((a1.length : Int) == (a2.length : Int)) = true ∧ True, ((a1.length : Int) == (a2.length : Int)) = true → ((a1.length : Int) == (a2.length : Int)) = true] ⟨16, [(4, vb (((a1.length : Int) == (a2.length : Int)) && ((ref02_Order.fn a1 a2) == (0 : Int))))], []⟩ (by kernel_rfl) (AllP.of (fun hg => ⟨hg, hg, ok_ref02_Order a1 a2 ((o1 hg))⟩) (AllP.of (fun hg => ⟨hg, trivial⟩) (AllP.of (fun hc => hc) trivial))) ?_
  refine then_n (spine_c ?_)
  refine awp_abs (fun (x1 : Int) => ⟨16, [(4, vb (((a1.length : Int) == (a2.length : Int)) && (x1 == (0 : Int))))], []⟩) (ref02_Order.fn a1 a2) ?_
  intro x1 hx1
  replace h := h x1 hx1
  refine awp_ret (then_r (then_r (?_)))
  exact ret_r (m := 0) (r := vb (((a1.length : Int) == (a2.length : Int)) && (x1 == (0 : Int)))) (objs := []) hk [.keep [4]] ⟨16, [(4, vb (((a1.length : Int) == (a2.length : Int)) && (x1 == (0 : Int))))], []⟩ (by kernel_rfl) (by kernel_rfl) (Nat.le_refl 0) ⟨((a1.length : Int) == (a2.length : Int)) && (x1 == (0 : Int)), rfl, rfl, h⟩
theorem ok_law09_list (a1 : (List Int)) (a2 : (List Int)) : OkC prog 15 [.d (.sl (.int .i64)) a1, .d (.sl (.int .i64)) a2] (vb (law09_list.fn a1 a2)) :=
  OkC.of call_law09_list ((walk_law09_list a1 a2 _ (law09_list.spec a1 a2)).mono fun r o ⟨x, hr, ho, hx⟩ => ⟨by rw [hr, hx], ho⟩) rfl rfl (fun _ => rfl)

noncomputable abbrev Blaw09_awake : Code := bodyOf Try.f10
theorem call_law09_awake : CallOk prog 10 := ⟨_, Try.func10, by kernel_rfl, by kernel_rfl⟩
theorem walk_law09_awake (Q : Bool → Prop) (h : law09_awake.wp Q) : VCalls prog 10 [] [] (fun r o => ∃ x, r = vb x ∧ o = [] ∧ Q x) := by
  refine vcalls_body tab Try.func10 (c := (spine (subC [0] Blaw09_awake) [(spine (subC [1, 0] Blaw09_awake) [(spine (subC [1, 1, 0] Blaw09_awake) [(spine (subC [1, 1, 1, 0] Blaw09_awake) [(spine (subC [1, 1, 1, 1, 0] Blaw09_awake) [(spine (subC [1, 1, 1, 1, 1, 0] Blaw09_awake) [(spine (subC [1, 1, 1, 1, 1, 1, 0] Blaw09_awake) [.ret])])])])])])])) (by kernel_rfl) (Nat.le_of_ble_eq_true (by kernel_rfl)) fun cx hd hi hk => ?_
  show AWp prog cx _ _ ⟨77, [], []⟩
  replace hk : cx.E.len = 0 := hk
  unfold law09_awake.wp at h
  refine awp_spine ?_
  refine awp_rc tab [] [] [] [] [] ⟨77, [], []⟩ (by kernel_rfl) (trivial) ?_
  refine then_n (spine_c ?_)
  refine awp_spine ?_
  obtain ⟨o1, o2, h⟩ := h
  refine awp_rc tab [1, 2] [] [(1, .dat (.agg [vi ((law09_ge.fn (-3) [1]).1), vi ((law09_ge.fn (-3) [1]).2.1), .d (.sl (.int .i64)) (((law09_ge.fn (-3) [1]).2.2).1), vi (((law09_ge.fn (-3) [1]).2.2).2)])), (3, .dat (.agg [vi ((law09_ge.fn (2 : Int) [(-1)]).1), vi ((law09_ge.fn (2 : Int) [(-1)]).2.1), .d (.sl (.int .i64)) (((law09_ge.fn (2 : Int) [(-1)]).2.2).1), vi (((law09_ge.fn (2 : Int) [(-1)]).2.2).2)])), (5, .dat (.tup [.d (.sl (.int .i64)) ((farkas_Prove.fn [law09_ge.fn (-3) [1], law09_ge.fn (2 : Int) [(-1)]] (1 : Int)).1), vi ((farkas_Prove.fn [law09_ge.fn (-3) [1], law09_ge.fn (2 : Int) [(-1)]] (1 : Int)).2)]))] [0, 2, 4] [1 * 1 ≤ 16777216, OkC prog 24 [vi (-3), .d (.sl (.int .i64)) [1]] (.agg [vi ((law09_ge.fn (-3) [1]).1), vi ((law09_ge.fn (-3) [1]).2.1), .d (.sl (.int .i64)) (((law09_ge.fn (-3) [1]).2.2).1), vi (((law09_ge.fn (-3) [1]).2.2).2)]), 1 * 1 ≤ 16777216, OkC prog 24 [vi (2 : Int), .d (.sl (.int .i64)) [(-1)]] (.agg [vi ((law09_ge.fn (2 : Int) [(-1)]).1), vi ((law09_ge.fn (2 : Int) [(-1)]).2.1), .d (.sl (.int .i64)) (((law09_ge.fn (2 : Int) [(-1)]).2.2).1), vi (((law09_ge.fn (2 : Int) [(-1)]).2.2).2)]), 2 * 4 ≤ 16777216, OkC prog 11 [.d (.sl t_api_Cond) [law09_ge.fn (-3) [1], law09_ge.fn (2 : Int) [(-1)]], vi (1 : Int)] (.tup [.d (.sl (.int .i64)) ((farkas_Prove.fn [law09_ge.fn (-3) [1], law09_ge.fn (2 : Int) [(-1)]] (1 : Int)).1), vi ((farkas_Prove.fn [law09_ge.fn (-3) [1], law09_ge.fn (2 : Int) [(-1)]] (1 : Int)).2)])] ⟨77, [(1, .d (.sl (.int .i64)) ((farkas_Prove.fn [law09_ge.fn (-3) [1], law09_ge.fn (2 : Int) [(-1)]] (1 : Int)).1)), (2, vi ((farkas_Prove.fn [law09_ge.fn (-3) [1], law09_ge.fn (2 : Int) [(-1)]] (1 : Int)).2))], []⟩ (by kernel_rfl) (AllP.of (by decide) (AllP.of (ok_law09_ge (-3) [1] (o1)) (AllP.of (by decide) (AllP.of (ok_law09_ge (2 : Int) [(-1)] (o2)) (AllP.of (by decide) (AllP.of (ok_farkas_Prove [law09_ge.fn (-3) [1], law09_ge.fn (2 : Int) [(-1)]] (1 : Int)) trivial)))))) ?_
  refine then_n (spine_c ?_)
  refine awp_abs (fun (x1 : (List Int) × Int) => ⟨77, [(1, .d (.sl (.int .i64)) x1.1), (2, vi x1.2)], []⟩) (farkas_Prove.fn [law09_ge.fn (-3) [1], law09_ge.fn (2 : Int) [(-1)]] (1 : Int)) ?_
  intro x1 hx1
  replace h := h x1 hx1
  refine awp_abs (fun (x2 : (List Int)) => ⟨77, [(1, .d (.sl (.int .i64)) x2), (2, vi x1.2)], []⟩) (x1.1) ?_
  intro x2 hx2
  replace h := h x2 hx2
  refine awp_abs (fun (x3 : Int) => ⟨77, [(1, .d (.sl (.int .i64)) x2), (2, vi x3)], []⟩) (x1.2) ?_
  intro x3 hx3
  replace h := h x3 hx3
  refine awp_spine ?_
  refine awp_rc tab [1, 2, 3] [] [] [0] [1 * 1 ≤ 16777216, 1 * 4 ≤ 16777216] ⟨77, [(1, .d (.sl (.int .i64)) x2), (2, vi x3), (3, .osl 0 0)], [.row t_api_Cond [(1, 0, ([2], (-1)))] 0]⟩ (by kernel_rfl) (AllP.of (by decide) (AllP.of (by decide) trivial)) ?_
  refine then_n (spine_c ?_)
  refine awp_spine ?_
  refine awp_gh hk [.freeze 0, .keep [1, 2, 3]] ⟨77, [(1, .d (.sl (.int .i64)) x2), (2, vi x3), (3, .d (.sl t_api_Cond) [(1, 0, ([2], (-1)))])], [.dead]⟩ (by kernel_rfl) ?_
  refine awp_rc tab [1, 2, 3, 5] [] [(1, .dat (.tup [.d (.sl (.int .i64)) ((farkas_Prove.fn [(1, 0, ([2], (-1)))] (1 : Int)).1), vi ((farkas_Prove.fn [(1, 0, ([2], (-1)))] (1 : Int)).2)]))] [] [OkC prog 11 [.d (.sl t_api_Cond) [(1, 0, ([2], (-1)))], vi (1 : Int)] (.tup [.d (.sl (.int .i64)) ((farkas_Prove.fn [(1, 0, ([2], (-1)))] (1 : Int)).1), vi ((farkas_Prove.fn [(1, 0, ([2], (-1)))] (1 : Int)).2)])] ⟨77, [(1, .d (.sl (.int .i64)) x2), (2, vi x3), (3, .d (.sl t_api_Cond) [(1, 0, ([2], (-1)))]), (5, vi ((farkas_Prove.fn [(1, 0, ([2], (-1)))] (1 : Int)).2))], [.dead]⟩ (by kernel_rfl) (AllP.of (ok_farkas_Prove [(1, 0, ([2], (-1)))] (1 : Int)) trivial) ?_
  refine then_n (spine_c ?_)
  refine awp_abs (fun (x4 : (List Int) × Int) => ⟨77, [(1, .d (.sl (.int .i64)) x2), (2, vi x3), (3, .d (.sl t_api_Cond) [(1, 0, ([2], (-1)))]), (5, vi x4.2)], [.dead]⟩) (farkas_Prove.fn [(1, 0, ([2], (-1)))] (1 : Int)) ?_
  intro x4 hx4
  replace h := h x4 hx4
  refine awp_abs (fun (x5 : Int) => ⟨77, [(1, .d (.sl (.int .i64)) x2), (2, vi x3), (3, .d (.sl t_api_Cond) [(1, 0, ([2], (-1)))]), (5, vi x5)], [.dead]⟩) (x4.2) ?_
  intro x5 hx5
  replace h := h x5 hx5
  refine awp_spine ?_
  refine awp_rc tab [1, 2, 5, 6, 7, 8] [] [(1, .dat (.tup [.d (.sl (.int .i64)) ((farkas_Inner.fn [(1, 0, ([2], (-1)))] (1 : Int)).1), vi ((farkas_Inner.fn [(1, 0, ([2], (-1)))] (1 : Int)).2.1), vi ((farkas_Inner.fn [(1, 0, ([2], (-1)))] (1 : Int)).2.2)]))] [] [OkC prog 13 [.d (.sl t_api_Cond) [(1, 0, ([2], (-1)))], vi (1 : Int)] (.tup [.d (.sl (.int .i64)) ((farkas_Inner.fn [(1, 0, ([2], (-1)))] (1 : Int)).1), vi ((farkas_Inner.fn [(1, 0, ([2], (-1)))] (1 : Int)).2.1), vi ((farkas_Inner.fn [(1, 0, ([2], (-1)))] (1 : Int)).2.2)])] ⟨77, [(1, .d (.sl (.int .i64)) x2), (2, vi x3), (5, vi x5), (6, .d (.sl (.int .i64)) ((farkas_Inner.fn [(1, 0, ([2], (-1)))] (1 : Int)).1)), (7, vi ((farkas_Inner.fn [(1, 0, ([2], (-1)))] (1 : Int)).2.1)), (8, vi ((farkas_Inner.fn [(1, 0, ([2], (-1)))] (1 : Int)).2.2))], [.dead]⟩ (by kernel_rfl) (AllP.of (ok_farkas_Inner [(1, 0, ([2], (-1)))] (1 : Int)) trivial) ?_
  refine then_n (spine_c ?_)
  refine awp_abs (fun (x6 : (List Int) × Int × Int) => ⟨77, [(1, .d (.sl (.int .i64)) x2), (2, vi x3), (5, vi x5), (6, .d (.sl (.int .i64)) x6.1), (7, vi x6.2.1), (8, vi x6.2.2)], [.dead]⟩) (farkas_Inner.fn [(1, 0, ([2], (-1)))] (1 : Int)) ?_
  intro x6 hx6
  replace h := h x6 hx6
  refine awp_abs (fun (x7 : (List Int)) => ⟨77, [(1, .d (.sl (.int .i64)) x2), (2, vi x3), (5, vi x5), (6, .d (.sl (.int .i64)) x7), (7, vi x6.2.1), (8, vi x6.2.2)], [.dead]⟩) (x6.1) ?_
  intro x7 hx7
  replace h := h x7 hx7
  refine awp_abs (fun (x8 : Int) => ⟨77, [(1, .d (.sl (.int .i64)) x2), (2, vi x3), (5, vi x5), (6, .d (.sl (.int .i64)) x7), (7, vi x8), (8, vi x6.2.2)], [.dead]⟩) (x6.2.1) ?_
  intro x8 hx8
  replace h := h x8 hx8
  refine awp_abs (fun (x9 : Int) => ⟨77, [(1, .d (.sl (.int .i64)) x2), (2, vi x3), (5, vi x5), (6, .d (.sl (.int .i64)) x7), (7, vi x8), (8, vi x9)], [.dead]⟩) (x6.2.2) ?_
  intro x9 hx9
  replace h := h x9 hx9
  refine awp_spine ?_
  obtain ⟨o3, o4, h⟩ := h
  refine awp_rc tab [1, 2, 5, 6, 7, 8, 9, 10] [] [(1, .dat (.agg [vi ((law09_ge.fn (0 : Int) [1, (-1)]).1), vi ((law09_ge.fn (0 : Int) [1, (-1)]).2.1), .d (.sl (.int .i64)) (((law09_ge.fn (0 : Int) [1, (-1)]).2.2).1), vi (((law09_ge.fn (0 : Int) [1, (-1)]).2.2).2)])), (3, .dat (.agg [vi ((law09_ge.fn (-1) [(-1), 1]).1), vi ((law09_ge.fn (-1) [(-1), 1]).2.1), .d (.sl (.int .i64)) (((law09_ge.fn (-1) [(-1), 1]).2.2).1), vi (((law09_ge.fn (-1) [(-1), 1]).2.2).2)])), (5, .dat (.tup [.d (.sl (.int .i64)) ((farkas_Prove.fn [law09_ge.fn (0 : Int) [1, (-1)], law09_ge.fn (-1) [(-1), 1]] (2 : Int)).1), vi ((farkas_Prove.fn [law09_ge.fn (0 : Int) [1, (-1)], law09_ge.fn (-1) [(-1), 1]] (2 : Int)).2)]))] [0, 2, 4] [2 * 1 ≤ 16777216, OkC prog 24 [vi (0 : Int), .d (.sl (.int .i64)) [1, (-1)]] (.agg [vi ((law09_ge.fn (0 : Int) [1, (-1)]).1), vi ((law09_ge.fn (0 : Int) [1, (-1)]).2.1), .d (.sl (.int .i64)) (((law09_ge.fn (0 : Int) [1, (-1)]).2.2).1), vi (((law09_ge.fn (0 : Int) [1, (-1)]).2.2).2)]), 2 * 1 ≤ 16777216, OkC prog 24 [vi (-1), .d (.sl (.int .i64)) [(-1), 1]] (.agg [vi ((law09_ge.fn (-1) [(-1), 1]).1), vi ((law09_ge.fn (-1) [(-1), 1]).2.1), .d (.sl (.int .i64)) (((law09_ge.fn (-1) [(-1), 1]).2.2).1), vi (((law09_ge.fn (-1) [(-1), 1]).2.2).2)]), 2 * 4 ≤ 16777216, OkC prog 11 [.d (.sl t_api_Cond) [law09_ge.fn (0 : Int) [1, (-1)], law09_ge.fn (-1) [(-1), 1]], vi (2 : Int)] (.tup [.d (.sl (.int .i64)) ((farkas_Prove.fn [law09_ge.fn (0 : Int) [1, (-1)], law09_ge.fn (-1) [(-1), 1]] (2 : Int)).1), vi ((farkas_Prove.fn [law09_ge.fn (0 : Int) [1, (-1)], law09_ge.fn (-1) [(-1), 1]] (2 : Int)).2)])] ⟨77, [(1, .d (.sl (.int .i64)) x2), (2, vi x3), (5, vi x5), (6, .d (.sl (.int .i64)) x7), (7, vi x8), (8, vi x9), (9, .d (.sl (.int .i64)) ((farkas_Prove.fn [law09_ge.fn (0 : Int) [1, (-1)], law09_ge.fn (-1) [(-1), 1]] (2 : Int)).1)), (10, vi ((farkas_Prove.fn [law09_ge.fn (0 : Int) [1, (-1)], law09_ge.fn (-1) [(-1), 1]] (2 : Int)).2))], [.dead]⟩ (by kernel_rfl) (AllP.of (by decide) (AllP.of (ok_law09_ge (0 : Int) [1, (-1)] (o3)) (AllP.of (by decide) (AllP.of (ok_law09_ge (-1) [(-1), 1] (o4)) (AllP.of (by decide) (AllP.of (ok_farkas_Prove [law09_ge.fn (0 : Int) [1, (-1)], law09_ge.fn (-1) [(-1), 1]] (2 : Int)) trivial)))))) ?_
  refine then_n (spine_c ?_)
  refine awp_abs (fun (x10 : (List Int) × Int) => ⟨77, [(1, .d (.sl (.int .i64)) x2), (2, vi x3), (5, vi x5), (6, .d (.sl (.int .i64)) x7), (7, vi x8), (8, vi x9), (9, .d (.sl (.int .i64)) x10.1), (10, vi x10.2)], [.dead]⟩) (farkas_Prove.fn [law09_ge.fn (0 : Int) [1, (-1)], law09_ge.fn (-1) [(-1), 1]] (2 : Int)) ?_
  intro x10 hx10
  replace h := h x10 hx10
  refine awp_abs (fun (x11 : (List Int)) => ⟨77, [(1, .d (.sl (.int .i64)) x2), (2, vi x3), (5, vi x5), (6, .d (.sl (.int .i64)) x7), (7, vi x8), (8, vi x9), (9, .d (.sl (.int .i64)) x11), (10, vi x10.2)], [.dead]⟩) (x10.1) ?_
  intro x11 hx11
  replace h := h x11 hx11
  refine awp_abs (fun (x12 : Int) => ⟨77, [(1, .d (.sl (.int .i64)) x2), (2, vi x3), (5, vi x5), (6, .d (.sl (.int .i64)) x7), (7, vi x8), (8, vi x9), (9, .d (.sl (.int .i64)) x11), (10, vi x12)], [.dead]⟩) (x10.2) ?_
  intro x12 hx12
  replace h := h x12 hx12
  refine awp_spine ?_
  refine awp_rc tab [0] [] [(5, .dat (vb (law09_list.fn x2 [1, 1]))), (18, .dat (vb (law09_list.fn x7 [1]))), (31, .dat (vb (law09_list.fn x11 [1, 1])))] [] [(x3 == (0 : Int)) = true → 2 * 1 ≤ 16777216, (x3 == (0 : Int)) = true → (x3 == (0 : Int)) = true ∧ ((x3 == (0 : Int)) = true ∧ (OkC prog 15 [.d (.sl (.int .i64)) x2, .d (.sl (.int .i64)) [1, 1]] (vb (law09_list.fn x2 [1, 1])))), (x3 == (0 : Int)) = true → (x3 == (0 : Int)) = true, ((x3 == (0 : Int)) && (law09_list.fn x2 [1, 1])) = true → ((x3 == (0 : Int)) && (law09_list.fn x2 [1, 1])) = true ∧ True, ((x3 == (0 : Int)) && (law09_list.fn x2 [1, 1])) = true → ((x3 == (0 : Int)) && (law09_list.fn x2 [1, 1])) = true, (((x3 == (0 : Int)) && (law09_list.fn x2 [1, 1])) && (x5 == (5 : Int))) = true → (((x3 == (0 : Int)) && (law09_list.fn x2 [1, 1])) && (x5 == (5 : Int))) = true ∧ True, (((x3 == (0 : Int)) && (law09_list.fn x2 [1, 1])) && (x5 == (5 : Int))) = true → (((x3 == (0 : Int)) && (law09_list.fn x2 [1, 1])) && (x5 == (5 : Int))) = true, ((((x3 == (0 : Int)) && (law09_list.fn x2 [1, 1])) && (x5 == (5 : Int))) && (x9 == (0 : Int))) = true → 1 * 1 ≤ 16777216, ((((x3 == (0 : Int)) && (law09_list.fn x2 [1, 1])) && (x5 == (5 : Int))) && (x9 == (0 : Int))) = true → ((((x3 == (0 : Int)) && (law09_list.fn x2 [1, 1])) && (x5 == (5 : Int))) && (x9 == (0 : Int))) = true ∧ (((((x3 == (0 : Int)) && (law09_list.fn x2 [1, 1])) && (x5 == (5 : Int))) && (x9 == (0 : Int))) = true ∧ (OkC prog 15 [.d (.sl (.int .i64)) x7, .d (.sl (.int .i64)) [1]] (vb (law09_list.fn x7 [1])))), ((((x3 == (0 : Int)) && (law09_list.fn x2 [1, 1])) && (x5 == (5 : Int))) && (x9 == (0 : Int))) = true → ((((x3 == (0 : Int)) && (law09_list.fn x2 [1, 1])) && (x5 == (5 : Int))) && (x9 == (0 : Int))) = true, (((((x3 == (0 : Int)) && (law09_list.fn x2 [1, 1])) && (x5 == (5 : Int))) && (x9 == (0 : Int))) && (law09_list.fn x7 [1])) = true → (((((x3 == (0 : Int)) && (law09_list.fn x2 [1, 1])) && (x5 == (5 : Int))) && (x9 == (0 : Int))) && (law09_list.fn x7 [1])) = true ∧ True, (((((x3 == (0 : Int)) && (law09_list.fn x2 [1, 1])) && (x5 == (5 : Int))) && (x9 == (0 : Int))) && (law09_list.fn x7 [1])) = true → (((((x3 == (0 : Int)) && (law09_list.fn x2 [1, 1])) && (x5 == (5 : Int))) && (x9 == (0 : Int))) && (law09_list.fn x7 [1])) = true, ((((((x3 == (0 : Int)) && (law09_list.fn x2 [1, 1])) && (x5 == (5 : Int))) && (x9 == (0 : Int))) && (law09_list.fn x7 [1])) && (x8 == (2 : Int))) = true → ((((((x3 == (0 : Int)) && (law09_list.fn x2 [1, 1])) && (x5 == (5 : Int))) && (x9 == (0 : Int))) && (law09_list.fn x7 [1])) && (x8 == (2 : Int))) = true ∧ True, ((((((x3 == (0 : Int)) && (law09_list.fn x2 [1, 1])) && (x5 == (5 : Int))) && (x9 == (0 : Int))) && (law09_list.fn x7 [1])) && (x8 == (2 : Int))) = true → ((((((x3 == (0 : Int)) && (law09_list.fn x2 [1, 1])) && (x5 == (5 : Int))) && (x9 == (0 : Int))) && (law09_list.fn x7 [1])) && (x8 == (2 : Int))) = true, (((((((x3 == (0 : Int)) && (law09_list.fn x2 [1, 1])) && (x5 == (5 : Int))) && (x9 == (0 : Int))) && (law09_list.fn x7 [1])) && (x8 == (2 : Int))) && (x12 == (0 : Int))) = true → 2 * 1 ≤ 16777216, (((((((x3 == (0 : Int)) && (law09_list.fn x2 [1, 1])) && (x5 == (5 : Int))) && (x9 == (0 : Int))) && (law09_list.fn x7 [1])) && (x8 == (2 : Int))) && (x12 == (0 : Int))) = true → (((((((x3 == (0 : Int)) && (law09_list.fn x2 [1, 1])) && (x5 == (5 : Int))) && (x9 == (0 : Int))) && (law09_list.fn x7 [1])) && (x8 == (2 : Int))) && (x12 == (0 : Int))) = true ∧ ((((((((x3 == (0 : Int)) && (law09_list.fn x2 [1, 1])) && (x5 == (5 : Int))) && (x9 == (0 : Int))) && (law09_list.fn x7 [1])) && (x8 == (2 : Int))) && (x12 == (0 : Int))) = true ∧ (OkC prog 15 [.d (.sl (.int .i64)) x11, .d (.sl (.int .i64)) [1, 1]] (vb (law09_list.fn x11 [1, 1])))), (((((((x3 == (0 : Int)) && (law09_list.fn x2 [1, 1])) && (x5 == (5 : Int))) && (x9 == (0 : Int))) && (law09_list.fn x7 [1])) && (x8 == (2 : Int))) && (x12 == (0 : Int))) = true → (((((((x3 == (0 : Int)) && (law09_list.fn x2 [1, 1])) && (x5 == (5 : Int))) && (x9 == (0 : Int))) && (law09_list.fn x7 [1])) && (x8 == (2 : Int))) && (x12 == (0 : Int))) = true] ⟨77, [(0, vb ((((((((x3 == (0 : Int)) && (law09_list.fn x2 [1, 1])) && (x5 == (5 : Int))) && (x9 == (0 : Int))) && (law09_list.fn x7 [1])) && (x8 == (2 : Int))) && (x12 == (0 : Int))) && (law09_list.fn x11 [1, 1])))], [.dead]⟩ (by kernel_rfl) (AllP.of (fun hg => by decide) (AllP.of (fun hg => ⟨hg, hg, ok_law09_list x2 [1, 1]⟩) (AllP.of (fun hc => hc) (AllP.of (fun hg => ⟨hg, trivial⟩) (AllP.of (fun hc => hc) (AllP.of (fun hg => ⟨hg, trivial⟩) (AllP.of (fun hc => hc) (AllP.of (fun hg => by decide) (AllP.of (fun hg => ⟨hg, hg, ok_law09_list x7 [1]⟩) (AllP.of (fun hc => hc) (AllP.of (fun hg => ⟨hg, trivial⟩) (AllP.of (fun hc => hc) (AllP.of (fun hg => ⟨hg, trivial⟩) (AllP.of (fun hc => hc) (AllP.of (fun hg => by decide) (AllP.of (fun hg => ⟨hg, hg, ok_law09_list x11 [1, 1]⟩) (AllP.of (fun hc => hc) trivial))))))))))))))))) ?_
  refine then_n (spine_c ?_)
  refine awp_ret (then_r (then_r (then_r (then_r (then_r (then_r (then_r (?_))))))))
  exact ret_r (m := 0) (r := vb ((((((((x3 == (0 : Int)) && (law09_list.fn x2 [1, 1])) && (x5 == (5 : Int))) && (x9 == (0 : Int))) && (law09_list.fn x7 [1])) && (x8 == (2 : Int))) && (x12 == (0 : Int))) && (law09_list.fn x11 [1, 1]))) (objs := []) hk [.keep [0]] ⟨77, [(0, vb ((((((((x3 == (0 : Int)) && (law09_list.fn x2 [1, 1])) && (x5 == (5 : Int))) && (x9 == (0 : Int))) && (law09_list.fn x7 [1])) && (x8 == (2 : Int))) && (x12 == (0 : Int))) && (law09_list.fn x11 [1, 1])))], [.dead]⟩ (by kernel_rfl) (by kernel_rfl) (Nat.le_refl 0) ⟨(((((((x3 == (0 : Int)) && (law09_list.fn x2 [1, 1])) && (x5 == (5 : Int))) && (x9 == (0 : Int))) && (law09_list.fn x7 [1])) && (x8 == (2 : Int))) && (x12 == (0 : Int))) && (law09_list.fn x11 [1, 1]), rfl, rfl, h⟩
theorem ok_law09_awake (h : law09_awake.pre ) : OkC prog 10 [] (vb law09_awake.fn) :=
  OkC.of call_law09_awake ((walk_law09_awake  _ (law09_awake.spec  h)).mono fun r o ⟨x, hr, ho, hx⟩ => ⟨by rw [hr, hx], ho⟩) rfl rfl (fun _ => rfl)

end Go.Proofs.Ytlncingakpelbaa
