/- Part of a proof that a law of the program holds for every input: printed by a program of this work. No conditions. -/
import Derived.Test.YtlncingakpelbaaK3
namespace Go.Proofs.Ytlncingakpelbaa
open Go
set_option linter.unusedVariables false
set_option maxHeartbeats 4000000

noncomputable abbrev Bslices_ContainsFunc_farkas_vector_int_int__farkas_table_kept_2 : Code := bodyOf Try.f96
theorem call_slices_ContainsFunc_farkas_vector_int_int__farkas_table_kept_2 : CallOk prog 96 := ⟨_, Try.func96, by kernel_rfl, by kernel_rfl⟩
theorem walk_slices_ContainsFunc_farkas_vector_int_int__farkas_table_kept_2 (a1 : (List Int)) (Q : Bool → Prop) (h : slices_ContainsFunc_farkas_vector_int_int__farkas_table_kept_2.wp a1 Q) : VCalls prog 96 [.d (.sl (.int .i64)) a1, .fn (.func 97) [] []] [] (fun r o => ∃ x, r = vb x ∧ o = [] ∧ Q x) := by
  refine vcalls_body tab Try.func96 (c := (spine (subC [0] Bslices_ContainsFunc_farkas_vector_int_int__farkas_table_kept_2) [(spine (subC [1, 0] Bslices_ContainsFunc_farkas_vector_int_int__farkas_table_kept_2) [.ret])])) (by kernel_rfl) (Nat.le_of_ble_eq_true (by kernel_rfl)) fun cx hd hi hk => ?_
  show AWp prog cx _ _ ⟨9, [(0, .d (.sl (.int .i64)) a1), (1, .fn (.func 97) [] [])], []⟩
  replace hk : cx.E.len = 0 := hk
  unfold slices_ContainsFunc_farkas_vector_int_int__farkas_table_kept_2.wp at h
  refine awp_spine ?_
  refine awp_rc tab [0, 1] [] [] [] [] ⟨9, [(0, .d (.sl (.int .i64)) a1), (1, .fn (.func 97) [] [])], []⟩ (by kernel_rfl) (trivial) ?_
  refine then_n (spine_c ?_)
  refine awp_spine ?_
  refine awp_rc tab [4] [] [(2, .dat (vi (slices_IndexFunc_farkas_vector_int_int__farkas_table_kept_2.fn a1)))] [] [OkC prog 101 [.d (.sl (.int .i64)) a1, .fn (.func 97) [] []] (vi (slices_IndexFunc_farkas_vector_int_int__farkas_table_kept_2.fn a1))] ⟨9, [(4, vb (decide ((slices_IndexFunc_farkas_vector_int_int__farkas_table_kept_2.fn a1) ≥ (0 : Int))))], []⟩ (by kernel_rfl) (AllP.of (ok_slices_IndexFunc_farkas_vector_int_int__farkas_table_kept_2 a1) trivial) ?_
  refine then_n (spine_c ?_)
  refine awp_abs (fun (x1 : Int) => ⟨9, [(4, vb (decide (x1 ≥ (0 : Int))))], []⟩) (slices_IndexFunc_farkas_vector_int_int__farkas_table_kept_2.fn a1) ?_
  intro x1 hx1
  replace h := h x1 hx1
  refine awp_ret (then_r (then_r (?_)))
  exact ret_r (m := 0) (r := vb (decide (x1 ≥ (0 : Int)))) (objs := []) hk [.keep [4]] ⟨9, [(4, vb (decide (x1 ≥ (0 : Int))))], []⟩ (by kernel_rfl) (by kernel_rfl) (Nat.le_refl 0) ⟨decide (x1 ≥ (0 : Int)), rfl, rfl, h⟩
theorem ok_slices_ContainsFunc_farkas_vector_int_int__farkas_table_kept_2 (a1 : (List Int)) : OkC prog 96 [.d (.sl (.int .i64)) a1, .fn (.func 97) [] []] (vb (slices_ContainsFunc_farkas_vector_int_int__farkas_table_kept_2.fn a1)) :=
  OkC.of call_slices_ContainsFunc_farkas_vector_int_int__farkas_table_kept_2 ((walk_slices_ContainsFunc_farkas_vector_int_int__farkas_table_kept_2 a1 _ (slices_ContainsFunc_farkas_vector_int_int__farkas_table_kept_2.spec a1)).mono fun r o ⟨x, hr, ho, hx⟩ => ⟨by rw [hr, hx], ho⟩) rfl rfl (fun _ => rfl)

noncomputable abbrev Bfarkas_table_kept : Code := bodyOf Try.f80
theorem call_farkas_table_kept : CallOk prog 80 := ⟨_, Try.func80, by kernel_rfl, by kernel_rfl⟩
theorem walk_farkas_table_kept (a1 : farkas_table) (a2 : (List farkas_row)) (Q : farkas_table × Int → Prop) (h : farkas_table_kept.wp a1 a2 Q) : VCalls prog 80 [.agg [vi a1.1, .d (.sl t_farkas_row) a1.2], .d (.sl t_farkas_row) a2] [] (fun r o => ∃ x, r = .tup [.agg [vi x.1.1, .d (.sl t_farkas_row) x.1.2], vi x.2] ∧ o = [] ∧ Q x) := by
  refine vcalls_body tab Try.func80 (c := (spine (subC [0] Bfarkas_table_kept) [(spine (subC [1, 0] Bfarkas_table_kept) [(spine (subC [1, 1, 0, 0] Bfarkas_table_kept) [(.block 0 (.loop (spine (subC [1, 1, 0, 1, 0, 0, 0] Bfarkas_table_kept) [(spine (.cond (.tmp 17) .skip (.exit 0)) [(spine (.block 1 (spine (subC [1, 1, 0, 1, 0, 0, 1, 1, 0, 0, 0] Bfarkas_table_kept) [(spine (subC [1, 1, 0, 1, 0, 0, 1, 1, 0, 0, 1, 0] Bfarkas_table_kept) [(spine (subC [1, 1, 0, 1, 0, 0, 1, 1, 0, 0, 1, 1, 0] Bfarkas_table_kept) [(.cond (.tmp 26) (subC [1, 1, 0, 1, 0, 0, 1, 1, 0, 0, 1, 1, 1, 0] Bfarkas_table_kept) .skip)])])])) [(subC [1, 1, 0, 1, 0, 0, 1, 1, 1] Bfarkas_table_kept)])])]))), (spine (subC [1, 1, 1, 0, 0] Bfarkas_table_kept) [(.cond (.tmp 37) (spine (subC [1, 1, 1, 0, 1, 0, 0] Bfarkas_table_kept) [.ret]) .skip), (spine (subC [1, 1, 1, 1, 0, 0] Bfarkas_table_kept) [(.block 2 (.loop (spine (subC [1, 1, 1, 1, 0, 1, 0, 0, 0] Bfarkas_table_kept) [(spine (.cond (.tmp 43) .skip (.exit 2)) [(spine (.block 3 (spine (subC [1, 1, 1, 1, 0, 1, 0, 0, 1, 1, 0, 0, 0] Bfarkas_table_kept) [(spine (subC [1, 1, 1, 1, 0, 1, 0, 0, 1, 1, 0, 0, 1, 0] Bfarkas_table_kept) [(.cond (.tmp 48) (spine (subC [1, 1, 1, 1, 0, 1, 0, 0, 1, 1, 0, 0, 1, 1, 0, 0] Bfarkas_table_kept) [.ret]) .skip)])])) [(subC [1, 1, 1, 1, 0, 1, 0, 0, 1, 1, 1] Bfarkas_table_kept)])])]))), (spine (subC [1, 1, 1, 1, 1, 0] Bfarkas_table_kept) [.ret])])])])])])) (by kernel_rfl) (Nat.le_of_ble_eq_true (by kernel_rfl)) fun cx hd hi hk => ?_
  show AWp prog cx _ _ ⟨52, [(0, .agg [vi a1.1, .d (.sl t_farkas_row) a1.2]), (1, .d (.sl t_farkas_row) a2)], []⟩
  replace hk : cx.E.len = 0 := hk
  unfold farkas_table_kept.wp at h
  refine awp_spine ?_
  refine awp_rc tab [1, 2, 4] [] [] [0] [] ⟨52, [(1, .d (.sl t_farkas_row) a2), (2, .er [vi a1.1, .d (.sl t_farkas_row) a1.2]), (4, .ref 0 0 0)], [.box [vi (0 : Int), .nils]]⟩ (by kernel_rfl) (trivial) ?_
  refine then_n (spine_c ?_)
  refine awp_spine ?_
  refine awp_rc tab [1, 2, 4, 6] [] [] [] [] ⟨52, [(1, .d (.sl t_farkas_row) a2), (2, .er [vi a1.1, .d (.sl t_farkas_row) a1.2]), (4, .ref 0 0 0), (6, .ref 1 0 0)], [.box [vi (0 : Int), .nils], .box [vi a1.1, .nils]]⟩ (by kernel_rfl) (trivial) ?_
  refine then_n (spine_c ?_)
  refine awp_spine ?_
  refine awp_rc tab [2, 4, 6, 14, 15, 16] [] [] [] [] ⟨52, [(2, .er [vi a1.1, .d (.sl t_farkas_row) a1.2]), (4, .ref 0 0 0), (6, .ref 1 0 0), (14, .d (.sl t_farkas_row) a2), (15, vi (a2.length : Int)), (16, vi (0 : Int))], [.box [vi (0 : Int), .nils], .box [vi a1.1, .nils]]⟩ (by kernel_rfl) (trivial) ?_
  refine then_n (spine_c ?_)
  refine awp_len 14 [] (T := t_farkas_row) (l := a2) (by kernel_rfl) fun hl => ?_
  replace h := h hl
  refine awp_block ?_
  obtain ⟨I7, ⟨n7a, hz7⟩, hI7⟩ := h
  refine awp_loopN (fun n s => ∃ (x3 : Int) (x4 : (List farkas_row)), I7 n x3 x4 ∧ s = ⟨52, [(2, .er [vi a1.1, .d (.sl t_farkas_row) a1.2]), (4, .ref 0 0 0), (6, .ref 1 0 0), (14, .d (.sl t_farkas_row) a2), (15, vi (a2.length : Int)), (16, vi x3)], [.box [vi (0 : Int), .nils], .box [vi a1.1, .osl 2 0], .row t_farkas_row x4 0]⟩) (n := n7a) (s0 := ⟨52, [(2, .er [vi a1.1, .d (.sl t_farkas_row) a1.2]), (4, .ref 0 0 0), (6, .ref 1 0 0), (14, .d (.sl t_farkas_row) a2), (15, vi (a2.length : Int)), (16, vi (0 : Int))], [.box [vi (0 : Int), .nils], .box [vi a1.1, .osl 2 0], .row t_farkas_row ([] : List farkas_row) 0]⟩) (wk_ghosts hk (l := [.keep [2, 4, 6, 14, 15, 16], .adoptBox 1 1 t_farkas_row, .keep [2, 4, 6, 14, 15, 16], .keep [2, 4, 6, 14, 15, 16], .keep [2, 4, 6, 14, 15, 16]]) (by kernel_rfl)) ⟨0, ([] : List farkas_row), hz7, rfl⟩ ?_
  rintro n7 s ⟨x3, x4, hx7, rfl⟩
  have h := hI7 n7 x3 x4 hx7
  refine awp_spine ?_
  refine awp_rc tab [2, 4, 6, 14, 15, 16, 17] [] [] [] [] ⟨52, [(2, .er [vi a1.1, .d (.sl t_farkas_row) a1.2]), (4, .ref 0 0 0), (6, .ref 1 0 0), (14, .d (.sl t_farkas_row) a2), (15, vi (a2.length : Int)), (16, vi x3), (17, vb (decide (x3 < (a2.length : Int))))], [.box [vi (0 : Int), .nils], .box [vi a1.1, .osl 2 0], .row t_farkas_row x4 0]⟩ (by kernel_rfl) (trivial) ?_
  refine then_n (spine_c ?_)
  refine awp_spine ?_
  refine awp_cond (b := decide (x3 < (a2.length : Int))) (by kernel_rfl) (fun hb => ?_) (fun hb => ?_)
  · replace h := h.1 (of_decide_eq_true hb)
    refine awp_skip (then_n (spine_c ?_))
    refine awp_spine ?_
    refine awp_block ?_
    refine awp_spine ?_
    obtain ⟨o1, h⟩ := h
    refine awp_rc tab [2, 4, 6, 8, 14, 15, 16] [] [] [] [(0 : Int) ≤ x3 ∧ x3 < (a2.length : Int)] ⟨52, [(2, .er [vi a1.1, .d (.sl t_farkas_row) a1.2]), (4, .ref 0 0 0), (6, .ref 1 0 0), (8, .ref 3 0 0), (14, .d (.sl t_farkas_row) a2), (15, vi (a2.length : Int)), (16, vi x3)], [.box [vi (0 : Int), .nils], .box [vi a1.1, .osl 2 0], .row t_farkas_row x4 0, .box [vb ((a2.getD (Int.toNat x3) d_farkas_row).1), .d (.sl (.int .i64)) ((a2.getD (Int.toNat x3) d_farkas_row).2)]]⟩ (by kernel_rfl) (AllP.of (o1) trivial) ?_
    refine then_n (spine_c ?_)
    refine awp_abs (fun (x8 : farkas_row) => ⟨52, [(2, .er [vi a1.1, .d (.sl t_farkas_row) a1.2]), (4, .ref 0 0 0), (6, .ref 1 0 0), (8, .ref 3 0 0), (14, .d (.sl t_farkas_row) a2), (15, vi (a2.length : Int)), (16, vi x3)], [.box [vi (0 : Int), .nils], .box [vi a1.1, .osl 2 0], .row t_farkas_row x4 0, .box [vb x8.1, .d (.sl (.int .i64)) x8.2]]⟩) (a2.getD (Int.toNat x3) d_farkas_row) ?_
    intro x8 hx8
    replace h := h x8 hx8
    refine awp_spine ?_
    obtain ⟨o2, h⟩ := h
    refine awp_rc tab [2, 4, 6, 8, 14, 15, 16] [] [(1, .dat (.agg [vb ((farkas_row_reduced.fn x8).1), .d (.sl (.int .i64)) ((farkas_row_reduced.fn x8).2)]))] [] [OkC prog 92 [.agg [vb x8.1, .d (.sl (.int .i64)) x8.2]] (.agg [vb ((farkas_row_reduced.fn x8).1), .d (.sl (.int .i64)) ((farkas_row_reduced.fn x8).2)])] ⟨52, [(2, .er [vi a1.1, .d (.sl t_farkas_row) a1.2]), (4, .ref 0 0 0), (6, .ref 1 0 0), (8, .ref 3 0 0), (14, .d (.sl t_farkas_row) a2), (15, vi (a2.length : Int)), (16, vi x3)], [.box [vi (0 : Int), .nils], .box [vi a1.1, .osl 2 0], .row t_farkas_row x4 0, .box [vb ((farkas_row_reduced.fn x8).1), .d (.sl (.int .i64)) ((farkas_row_reduced.fn x8).2)]]⟩ (by kernel_rfl) (AllP.of (ok_farkas_row_reduced x8 (o2)) trivial) ?_
    refine then_n (spine_c ?_)
    refine awp_abs (fun (x9 : farkas_row) => ⟨52, [(2, .er [vi a1.1, .d (.sl t_farkas_row) a1.2]), (4, .ref 0 0 0), (6, .ref 1 0 0), (8, .ref 3 0 0), (14, .d (.sl t_farkas_row) a2), (15, vi (a2.length : Int)), (16, vi x3)], [.box [vi (0 : Int), .nils], .box [vi a1.1, .osl 2 0], .row t_farkas_row x4 0, .box [vb x9.1, .d (.sl (.int .i64)) x9.2]]⟩) (farkas_row_reduced.fn x8) ?_
    intro x9 hx9
    replace h := h x9 hx9
    refine awp_spine ?_
    obtain ⟨o3, h⟩ := h
    refine awp_rc tab [2, 4, 6, 8, 14, 15, 16, 26] [] [(3, .dat (vb (slices_ContainsFunc_Sfarkas_row_farkas_row__farkas_table_kept_1.fn x4 x9.1 x9.2 a1.1 a1.2)))] [] [OkA prog 93 [.osl 2 0, .fn (.func 94) [] [.ref 3 0 0, .er [vi a1.1, .d (.sl t_farkas_row) a1.2]]] [.box [vi (0 : Int), .nils], .box [vi a1.1, .osl 2 0], .row t_farkas_row x4 0, .box [vb x9.1, .d (.sl (.int .i64)) x9.2]] (vb (slices_ContainsFunc_Sfarkas_row_farkas_row__farkas_table_kept_1.fn x4 x9.1 x9.2 a1.1 a1.2))] ⟨52, [(2, .er [vi a1.1, .d (.sl t_farkas_row) a1.2]), (4, .ref 0 0 0), (6, .ref 1 0 0), (8, .ref 3 0 0), (14, .d (.sl t_farkas_row) a2), (15, vi (a2.length : Int)), (16, vi x3), (26, vb (!(slices_ContainsFunc_Sfarkas_row_farkas_row__farkas_table_kept_1.fn x4 x9.1 x9.2 a1.1 a1.2)))], [.box [vi (0 : Int), .nils], .box [vi a1.1, .osl 2 0], .row t_farkas_row x4 0, .box [vb x9.1, .d (.sl (.int .i64)) x9.2]]⟩ (by kernel_rfl) (AllP.of (OkC.lent 1 (by kernel_rfl) rfl rfl (ok_slices_ContainsFunc_Sfarkas_row_farkas_row__farkas_table_kept_1 x4 x9.1 x9.2 a1.1 a1.2 (o3))) trivial) ?_
    refine then_n (spine_c ?_)
    refine awp_cond (b := !(slices_ContainsFunc_Sfarkas_row_farkas_row__farkas_table_kept_1.fn x4 x9.1 x9.2 a1.1 a1.2)) (by kernel_rfl) (fun hb => ?_) (fun hb => ?_)
    · replace h := h.1 ((nt hb))
      obtain ⟨o4, h⟩ := h
      refine awp_rc tab [2, 4, 6, 14, 15, 16] [] [] [3] [1 * 2 ≤ 16777216, (x4.length + [x9].length) * 32 ≤ 140737488355328 ∧ x4.length + [x9].length ≤ 9223372036854775807] ⟨52, [(2, .er [vi a1.1, .d (.sl t_farkas_row) a1.2]), (4, .ref 0 0 0), (6, .ref 1 0 0), (14, .d (.sl t_farkas_row) a2), (15, vi (a2.length : Int)), (16, vi x3)], [.box [vi (0 : Int), .nils], .box [vi a1.1, .osl 2 1], .row t_farkas_row (x4 ++ [x9]) 1, .box [vb x9.1, .d (.sl (.int .i64)) x9.2]]⟩ (by kernel_rfl) (AllP.of (by decide) (AllP.of (o4) trivial)) ?_
      refine then_n (spine_e (then_n (spine_e (then_n (spine_e (blk_n (then_n (spine_c ?_))))))))
      obtain ⟨o5, h⟩ := h
      refine awp_rc tab [2, 4, 6, 14, 15, 16] [] [] [] [-9223372036854775808 ≤ x3 + (1 : Int) ∧ x3 + (1 : Int) ≤ 9223372036854775807] ⟨52, [(2, .er [vi a1.1, .d (.sl t_farkas_row) a1.2]), (4, .ref 0 0 0), (6, .ref 1 0 0), (14, .d (.sl t_farkas_row) a2), (15, vi (a2.length : Int)), (16, vi (x3 + (1 : Int)))], [.box [vi (0 : Int), .nils], .box [vi a1.1, .osl 2 1], .row t_farkas_row (x4 ++ [x9]) 1, .box [vb x9.1, .d (.sl (.int .i64)) x9.2]]⟩ (by kernel_rfl) (AllP.of (o5) trivial) ?_
      refine then_n (spine_e (then_n (spine_e (then_n (spine_e (then_n (?_)))))))
      obtain ⟨m, hm, h⟩ := h
      exact ⟨m, hm, ⟨52, [(2, .er [vi a1.1, .d (.sl t_farkas_row) a1.2]), (4, .ref 0 0 0), (6, .ref 1 0 0), (14, .d (.sl t_farkas_row) a2), (15, vi (a2.length : Int)), (16, vi (x3 + (1 : Int)))], [.box [vi (0 : Int), .nils], .box [vi a1.1, .osl 2 0], .row t_farkas_row (x4 ++ [x9]) 0]⟩, wk_ghosts hk (l := [.keep [2, 4, 6, 14, 15, 16], .keep [2, 4, 6, 14, 15, 16], .cut 3, .reset 2, .keep [2, 4, 6, 14, 15, 16]]) (by kernel_rfl), x3 + (1 : Int), x4 ++ [x9], h, rfl⟩
    · replace h := h.2 ((nf hb))
      refine awp_skip (then_n (spine_e (then_n (spine_e (then_n (spine_e (blk_n (then_n (spine_c ?_)))))))))
      obtain ⟨o6, h⟩ := h
      refine awp_rc tab [2, 4, 6, 14, 15, 16] [] [] [] [-9223372036854775808 ≤ x3 + (1 : Int) ∧ x3 + (1 : Int) ≤ 9223372036854775807] ⟨52, [(2, .er [vi a1.1, .d (.sl t_farkas_row) a1.2]), (4, .ref 0 0 0), (6, .ref 1 0 0), (14, .d (.sl t_farkas_row) a2), (15, vi (a2.length : Int)), (16, vi (x3 + (1 : Int)))], [.box [vi (0 : Int), .nils], .box [vi a1.1, .osl 2 0], .row t_farkas_row x4 0, .box [vb x9.1, .d (.sl (.int .i64)) x9.2]]⟩ (by kernel_rfl) (AllP.of (o6) trivial) ?_
      refine then_n (spine_e (then_n (spine_e (then_n (spine_e (then_n (?_)))))))
      obtain ⟨m, hm, h⟩ := h
      exact ⟨m, hm, ⟨52, [(2, .er [vi a1.1, .d (.sl t_farkas_row) a1.2]), (4, .ref 0 0 0), (6, .ref 1 0 0), (14, .d (.sl t_farkas_row) a2), (15, vi (a2.length : Int)), (16, vi (x3 + (1 : Int)))], [.box [vi (0 : Int), .nils], .box [vi a1.1, .osl 2 0], .row t_farkas_row x4 0]⟩, wk_ghosts hk (l := [.keep [2, 4, 6, 14, 15, 16], .keep [2, 4, 6, 14, 15, 16], .cut 3, .keep [2, 4, 6, 14, 15, 16]]) (by kernel_rfl), x3 + (1 : Int), x4, h, rfl⟩
  · replace h := h.2 (of_decide_eq_false hb)
    refine awp_exit (then_x (then_x (then_x (blk_h (then_n (spine_c ?_))))))
    refine awp_spine ?_
    refine awp_rc tab [4, 6, 37] [] [] [] [] ⟨52, [(4, .ref 0 0 0), (6, .ref 1 0 0), (37, vb (decide ((x4.length : Int) > (400 : Int))))], [.box [vi (0 : Int), .nils], .box [vi a1.1, .osl 2 0], .row t_farkas_row x4 0]⟩ (by kernel_rfl) (trivial) ?_
    refine then_n (spine_c ?_)
    refine awp_cond (b := decide ((x4.length : Int) > (400 : Int))) (by kernel_rfl) (fun hb => ?_) (fun hb => ?_)
    · replace h := h.1 (of_decide_eq_true hb)
      refine awp_spine ?_
      refine awp_rc tab [4, 5] [] [] [] [] ⟨52, [(4, .ref 0 0 0), (5, vi (3 : Int))], [.box [vi (0 : Int), .nils], .box [vi a1.1, .osl 2 0], .row t_farkas_row x4 0]⟩ (by kernel_rfl) (trivial) ?_
      refine then_n (spine_c ?_)
      refine awp_ret (then_r (then_r (then_r (then_r (then_r (?_))))))
      exact ret_r (m := 0) (r := .tup [.agg [vi ((((0, ([] : List farkas_row)), 3).1).1), .d (.sl t_farkas_row) ((((0, ([] : List farkas_row)), 3).1).2)], vi (((0, ([] : List farkas_row)), 3).2)]) (objs := []) hk [.keep [4, 5], .nilBox 0 [1] t_farkas_row, .keep [4, 5]] ⟨52, [(4, .ref 0 0 0), (5, vi (3 : Int))], [.box [vi (0 : Int), .d (.sl t_farkas_row) ([] : List farkas_row)], .box [vi a1.1, .osl 2 0], .row t_farkas_row x4 0]⟩ (by kernel_rfl) (by kernel_rfl) (Nat.le_refl 0) ⟨((0, ([] : List farkas_row)), 3), rfl, rfl, h⟩
    · replace h := h.2 (of_decide_eq_false hb)
      refine awp_skip (then_n (spine_c ?_))
      refine awp_spine ?_
      refine awp_rc tab [4, 6, 40, 41, 42] [] [] [] [] ⟨52, [(4, .ref 0 0 0), (6, .ref 1 0 0), (40, .osl 2 0), (41, vi (x4.length : Int)), (42, vi (0 : Int))], [.box [vi (0 : Int), .nils], .box [vi a1.1, .osl 2 0], .row t_farkas_row x4 0]⟩ (by kernel_rfl) (trivial) ?_
      refine then_n (spine_c ?_)
      refine awp_block ?_
      obtain ⟨I13, ⟨n13a, hz13⟩, hI13⟩ := h
      refine awp_loopN (fun n s => ∃ (x11 : Int), I13 n x11 ∧ s = ⟨52, [(4, .ref 0 0 0), (6, .ref 1 0 0), (40, .osl 2 0), (41, vi (x4.length : Int)), (42, vi x11)], [.box [vi (0 : Int), .nils], .box [vi a1.1, .osl 2 0], .row t_farkas_row x4 0]⟩) (n := n13a) (s0 := ⟨52, [(4, .ref 0 0 0), (6, .ref 1 0 0), (40, .osl 2 0), (41, vi (x4.length : Int)), (42, vi (0 : Int))], [.box [vi (0 : Int), .nils], .box [vi a1.1, .osl 2 0], .row t_farkas_row x4 0]⟩) (wk_ghosts hk (l := [.keep [4, 6, 40, 41, 42], .keep [4, 6, 40, 41, 42], .keep [4, 6, 40, 41, 42], .keep [4, 6, 40, 41, 42]]) (by kernel_rfl)) ⟨0, hz13, rfl⟩ ?_
      rintro n13 s ⟨x11, hx13, rfl⟩
      have h := hI13 n13 x11 hx13
      refine awp_spine ?_
      refine awp_rc tab [4, 6, 40, 41, 42, 43] [] [] [] [] ⟨52, [(4, .ref 0 0 0), (6, .ref 1 0 0), (40, .osl 2 0), (41, vi (x4.length : Int)), (42, vi x11), (43, vb (decide (x11 < (x4.length : Int))))], [.box [vi (0 : Int), .nils], .box [vi a1.1, .osl 2 0], .row t_farkas_row x4 0]⟩ (by kernel_rfl) (trivial) ?_
      refine then_n (spine_c ?_)
      refine awp_spine ?_
      refine awp_cond (b := decide (x11 < (x4.length : Int))) (by kernel_rfl) (fun hb => ?_) (fun hb => ?_)
      · replace h := h.1 (of_decide_eq_true hb)
        refine awp_skip (then_n (spine_c ?_))
        refine awp_spine ?_
        refine awp_block ?_
        refine awp_spine ?_
        obtain ⟨o7, o8, h⟩ := h
        refine awp_rc tab [4, 6, 10, 40, 41, 42] [] [] [] [(0 : Int) ≤ x11 ∧ x11 < (x4.length : Int), Int.toNat x11 < x4.length] ⟨52, [(4, .ref 0 0 0), (6, .ref 1 0 0), (10, .ref 3 0 0), (40, .osl 2 0), (41, vi (x4.length : Int)), (42, vi x11)], [.box [vi (0 : Int), .nils], .box [vi a1.1, .osl 2 0], .row t_farkas_row x4 0, .box [vb ((x4.getD (Int.toNat x11) d_farkas_row).1), .d (.sl (.int .i64)) ((x4.getD (Int.toNat x11) d_farkas_row).2)]]⟩ (by kernel_rfl) (AllP.of (o7) (AllP.of (o8) trivial)) ?_
        refine then_n (spine_c ?_)
        refine awp_abs (fun (x14 : farkas_row) => ⟨52, [(4, .ref 0 0 0), (6, .ref 1 0 0), (10, .ref 3 0 0), (40, .osl 2 0), (41, vi (x4.length : Int)), (42, vi x11)], [.box [vi (0 : Int), .nils], .box [vi a1.1, .osl 2 0], .row t_farkas_row x4 0, .box [vb x14.1, .d (.sl (.int .i64)) x14.2]]⟩) (x4.getD (Int.toNat x11) d_farkas_row) ?_
        intro x14 hx14
        replace h := h x14 hx14
        refine awp_spine ?_
        refine awp_rc tab [4, 6, 40, 41, 42, 48] [] [(2, .dat (vb (slices_ContainsFunc_farkas_vector_int_int__farkas_table_kept_2.fn x14.2)))] [] [OkC prog 96 [.d (.sl (.int .i64)) x14.2, .fn (.func 97) [] []] (vb (slices_ContainsFunc_farkas_vector_int_int__farkas_table_kept_2.fn x14.2))] ⟨52, [(4, .ref 0 0 0), (6, .ref 1 0 0), (40, .osl 2 0), (41, vi (x4.length : Int)), (42, vi x11), (48, vb (slices_ContainsFunc_farkas_vector_int_int__farkas_table_kept_2.fn x14.2))], [.box [vi (0 : Int), .nils], .box [vi a1.1, .osl 2 0], .row t_farkas_row x4 0, .box [vb x14.1, .d (.sl (.int .i64)) x14.2]]⟩ (by kernel_rfl) (AllP.of (ok_slices_ContainsFunc_farkas_vector_int_int__farkas_table_kept_2 x14.2) trivial) ?_
        refine then_n (spine_c ?_)
        refine awp_cond (b := slices_ContainsFunc_farkas_vector_int_int__farkas_table_kept_2.fn x14.2) (by kernel_rfl) (fun hb => ?_) (fun hb => ?_)
        · replace h := h.1 (hb)
          refine awp_spine ?_
          refine awp_rc tab [4, 5] [] [] [] [] ⟨52, [(4, .ref 0 0 0), (5, vi (3 : Int))], [.box [vi (0 : Int), .nils], .box [vi a1.1, .osl 2 0], .row t_farkas_row x4 0, .box [vb x14.1, .d (.sl (.int .i64)) x14.2]]⟩ (by kernel_rfl) (trivial) ?_
          refine then_n (spine_c ?_)
          refine awp_ret (then_r (then_r (then_r (blk_r (then_r (then_r (then_r (then_r (blk_r (then_r (then_r (then_r (then_r (then_r (?_)))))))))))))))
          exact ret_r (m := 0) (r := .tup [.agg [vi ((((0, ([] : List farkas_row)), 3).1).1), .d (.sl t_farkas_row) ((((0, ([] : List farkas_row)), 3).1).2)], vi (((0, ([] : List farkas_row)), 3).2)]) (objs := []) hk [.keep [4, 5], .nilBox 0 [1] t_farkas_row, .keep [4, 5]] ⟨52, [(4, .ref 0 0 0), (5, vi (3 : Int))], [.box [vi (0 : Int), .d (.sl t_farkas_row) ([] : List farkas_row)], .box [vi a1.1, .osl 2 0], .row t_farkas_row x4 0, .box [vb x14.1, .d (.sl (.int .i64)) x14.2]]⟩ (by kernel_rfl) (by kernel_rfl) (Nat.le_refl 0) ⟨((0, ([] : List farkas_row)), 3), rfl, rfl, h⟩
        · replace h := h.2 (hb)
          refine awp_skip (then_n (spine_e (then_n (spine_e (blk_n (then_n (spine_c ?_)))))))
          obtain ⟨o9, h⟩ := h
          refine awp_rc tab [4, 6, 40, 41, 42] [] [] [] [-9223372036854775808 ≤ x11 + (1 : Int) ∧ x11 + (1 : Int) ≤ 9223372036854775807] ⟨52, [(4, .ref 0 0 0), (6, .ref 1 0 0), (40, .osl 2 0), (41, vi (x4.length : Int)), (42, vi (x11 + (1 : Int)))], [.box [vi (0 : Int), .nils], .box [vi a1.1, .osl 2 0], .row t_farkas_row x4 0, .box [vb x14.1, .d (.sl (.int .i64)) x14.2]]⟩ (by kernel_rfl) (AllP.of (o9) trivial) ?_
          refine then_n (spine_e (then_n (spine_e (then_n (spine_e (then_n (?_)))))))
          obtain ⟨m, hm, h⟩ := h
          exact ⟨m, hm, ⟨52, [(4, .ref 0 0 0), (6, .ref 1 0 0), (40, .osl 2 0), (41, vi (x4.length : Int)), (42, vi (x11 + (1 : Int)))], [.box [vi (0 : Int), .nils], .box [vi a1.1, .osl 2 0], .row t_farkas_row x4 0]⟩, wk_ghosts hk (l := [.keep [4, 6, 40, 41, 42], .keep [4, 6, 40, 41, 42], .cut 3, .keep [4, 6, 40, 41, 42]]) (by kernel_rfl), x11 + (1 : Int), h, rfl⟩
      · replace h := h.2 (of_decide_eq_false hb)
        refine awp_exit (then_x (then_x (then_x (blk_h (then_n (spine_c ?_))))))
        refine awp_spine ?_
        refine awp_rc tab [4, 5] [] [] [] [] ⟨52, [(4, .ref 0 0 0), (5, vi (0 : Int))], [.box [vi a1.1, .osl 2 0], .box [vi a1.1, .osl 2 0], .row t_farkas_row x4 0]⟩ (by kernel_rfl) (trivial) ?_
        refine then_n (spine_c ?_)
        refine awp_ret (then_r (then_r (then_r (then_r (then_r (then_r (?_)))))))
        exact ret_r (m := 0) (r := .tup [.agg [vi ((((a1.1, x4), 0).1).1), .d (.sl t_farkas_row) ((((a1.1, x4), 0).1).2)], vi (((a1.1, x4), 0).2)]) (objs := []) hk [.keep [4, 5], .freeze 2] ⟨52, [(4, .ref 0 0 0), (5, vi (0 : Int))], [.box [vi a1.1, .d (.sl t_farkas_row) x4], .box [vi a1.1, .d (.sl t_farkas_row) x4], .dead]⟩ (by kernel_rfl) (by kernel_rfl) (Nat.le_refl 0) ⟨((a1.1, x4), 0), rfl, rfl, h⟩
theorem ok_farkas_table_kept (a1 : farkas_table) (a2 : (List farkas_row)) (h : farkas_table_kept.pre a1 a2) : OkC prog 80 [.agg [vi a1.1, .d (.sl t_farkas_row) a1.2], .d (.sl t_farkas_row) a2] (.tup [.agg [vi (((farkas_table_kept.fn a1 a2).1).1), .d (.sl t_farkas_row) (((farkas_table_kept.fn a1 a2).1).2)], vi ((farkas_table_kept.fn a1 a2).2)]) :=
  OkC.of call_farkas_table_kept ((walk_farkas_table_kept a1 a2 _ (farkas_table_kept.spec a1 a2 h)).mono fun r o ⟨x, hr, ho, hx⟩ => ⟨by rw [hr, hx], ho⟩) rfl rfl (fun _ => rfl)

noncomputable abbrev Bfarkas_table_solver : Code := bodyOf Try.f78
theorem call_farkas_table_solver : CallOk prog 78 := ⟨_, Try.func78, by kernel_rfl, by kernel_rfl⟩
theorem walk_farkas_table_solver (a1 : farkas_table) (a2 : Int) (Q : Int → Prop) (h : farkas_table_solver.wp a1 a2 Q) : VCalls prog 78 [.agg [vi a1.1, .d (.sl t_farkas_row) a1.2], vi a2] [] (fun r o => ∃ x, r = vi x ∧ o = [] ∧ Q x) := by
  refine vcalls_body tab Try.func78 (c := (spine (subC [0] Bfarkas_table_solver) [(spine (subC [1, 0] Bfarkas_table_solver) [(spine (subC [1, 1, 0, 0] Bfarkas_table_solver) [(.block 0 (.loop (spine (subC [1, 1, 0, 1, 0, 0, 0] Bfarkas_table_solver) [(spine (.cond (.tmp 12) .skip (.exit 0)) [(spine (.block 1 (spine (subC [1, 1, 0, 1, 0, 0, 1, 1, 0, 0, 0] Bfarkas_table_solver) [(spine (subC [1, 1, 0, 1, 0, 0, 1, 1, 0, 0, 1, 0] Bfarkas_table_solver) [(.cond (.tmp 64) (subC [1, 1, 0, 1, 0, 0, 1, 1, 0, 0, 1, 1, 0] Bfarkas_table_solver) .skip)])])) [(subC [1, 1, 0, 1, 0, 0, 1, 1, 1] Bfarkas_table_solver)])])]))), (spine (subC [1, 1, 1, 0] Bfarkas_table_solver) [.ret])])])])) (by kernel_rfl) (Nat.le_of_ble_eq_true (by kernel_rfl)) fun cx hd hi hk => ?_
  show AWp prog cx _ _ ⟨68, [(0, .agg [vi a1.1, .d (.sl t_farkas_row) a1.2]), (1, vi a2)], []⟩
  replace hk : cx.E.len = 0 := hk
  unfold farkas_table_solver.wp at h
  refine awp_spine ?_
  refine awp_rc tab [1, 2] [] [] [0] [] ⟨68, [(1, vi a2), (2, .er [vi a1.1, .d (.sl t_farkas_row) a1.2])], []⟩ (by kernel_rfl) (trivial) ?_
  refine then_n (spine_c ?_)
  refine awp_spine ?_
  refine awp_rc tab [1, 2, 5] [] [] [] [] ⟨68, [(1, vi a2), (2, .er [vi a1.1, .d (.sl t_farkas_row) a1.2]), (5, vi (-1))], []⟩ (by kernel_rfl) (trivial) ?_
  refine then_n (spine_c ?_)
  refine awp_spine ?_
  refine awp_rc tab [1, 2, 5, 9, 10, 11] [] [] [] [] ⟨68, [(1, vi a2), (2, .er [vi a1.1, .d (.sl t_farkas_row) a1.2]), (5, vi (-1)), (9, .d (.sl t_farkas_row) a1.2), (10, vi (a1.2.length : Int)), (11, vi (0 : Int))], []⟩ (by kernel_rfl) (trivial) ?_
  refine then_n (spine_c ?_)
  refine awp_len 2 [1] (T := t_farkas_row) (l := a1.2) (by kernel_rfl) fun hl => ?_
  replace h := h hl
  refine awp_block ?_
  obtain ⟨I5, ⟨n5a, hz5⟩, hI5⟩ := h
  refine awp_loopN (fun n s => ∃ (x1 : Int) (x2 : Int), I5 n x1 x2 ∧ s = ⟨68, [(1, vi a2), (2, .er [vi a1.1, .d (.sl t_farkas_row) a1.2]), (5, vi x1), (9, .d (.sl t_farkas_row) a1.2), (10, vi (a1.2.length : Int)), (11, vi x2)], []⟩) (n := n5a) (s0 := ⟨68, [(1, vi a2), (2, .er [vi a1.1, .d (.sl t_farkas_row) a1.2]), (5, vi (-1)), (9, .d (.sl t_farkas_row) a1.2), (10, vi (a1.2.length : Int)), (11, vi (0 : Int))], []⟩) (wk_ghosts hk (l := [.keep [1, 2, 5, 9, 10, 11], .keep [1, 2, 5, 9, 10, 11], .keep [1, 2, 5, 9, 10, 11], .keep [1, 2, 5, 9, 10, 11]]) (by kernel_rfl)) ⟨(-1), 0, hz5, rfl⟩ ?_
  rintro n5 s ⟨x1, x2, hx5, rfl⟩
  have h := hI5 n5 x1 x2 hx5
  refine awp_spine ?_
  refine awp_rc tab [1, 2, 5, 9, 10, 11, 12] [] [] [] [] ⟨68, [(1, vi a2), (2, .er [vi a1.1, .d (.sl t_farkas_row) a1.2]), (5, vi x1), (9, .d (.sl t_farkas_row) a1.2), (10, vi (a1.2.length : Int)), (11, vi x2), (12, vb (decide (x2 < (a1.2.length : Int))))], []⟩ (by kernel_rfl) (trivial) ?_
  refine then_n (spine_c ?_)
  refine awp_spine ?_
  refine awp_cond (b := decide (x2 < (a1.2.length : Int))) (by kernel_rfl) (fun hb => ?_) (fun hb => ?_)
  · replace h := h.1 (of_decide_eq_true hb)
    refine awp_skip (then_n (spine_c ?_))
    refine awp_spine ?_
    refine awp_block ?_
    refine awp_spine ?_
    obtain ⟨o1, h⟩ := h
    refine awp_rc tab [1, 2, 5, 6, 7, 9, 10, 11] [] [] [] [(0 : Int) ≤ x2 ∧ x2 < (a1.2.length : Int)] ⟨68, [(1, vi a2), (2, .er [vi a1.1, .d (.sl t_farkas_row) a1.2]), (5, vi x1), (6, vi x2), (7, .ref 0 0 0), (9, .d (.sl t_farkas_row) a1.2), (10, vi (a1.2.length : Int)), (11, vi x2)], [.box [vb ((a1.2.getD (Int.toNat x2) d_farkas_row).1), .d (.sl (.int .i64)) ((a1.2.getD (Int.toNat x2) d_farkas_row).2)]]⟩ (by kernel_rfl) (AllP.of (o1) trivial) ?_
    refine then_n (spine_c ?_)
    refine awp_abs (fun (x6 : farkas_row) => ⟨68, [(1, vi a2), (2, .er [vi a1.1, .d (.sl t_farkas_row) a1.2]), (5, vi x1), (6, vi x2), (7, .ref 0 0 0), (9, .d (.sl t_farkas_row) a1.2), (10, vi (a1.2.length : Int)), (11, vi x2)], [.box [vb x6.1, .d (.sl (.int .i64)) x6.2]]⟩) (a1.2.getD (Int.toNat x2) d_farkas_row) ?_
    intro x6 hx6
    replace h := h x6 hx6
    refine awp_spine ?_
    obtain ⟨o2, o3, o4, o5, o6, o7, o8, o9, o10, h⟩ := h
    refine awp_dr tab mixed [1, 2, 5, 6, 9, 10, 11, 61, 62, 63, 64] [] [] [] ⟨[[], [0], [0, 1], [0, 1, 2], [0, 1, 2, 3], [0, 1, 2], [0, 1, 2, 3, 4, 5], [0, 1, 2, 3, 4, 5, 6], [0, 1, 2, 3, 4, 5, 6, 7], [0, 1, 2, 3, 4, 5, 6, 7, 8], [0, 1, 2, 3, 4, 5, 6, 7, 8, 9], [0, 1, 2, 3, 4, 5, 6, 7, 8, 9, 10], [0, 1, 2, 3, 4, 5, 6, 7, 8, 9, 10, 11], [0, 1, 2, 3, 4, 5, 6, 7, 8, 9, 10, 11, 12], [0, 1, 2, 3, 4, 5, 6, 7, 8, 9, 10, 11, 12, 13], [0, 1, 2, 3, 4, 5, 6, 7, 8, 9, 10, 11, 12, 13, 14], [0, 1, 2, 3, 4, 5, 6, 7, 8, 9, 10, 11, 12, 13], [0, 1, 2, 3, 4, 5, 6, 7, 8, 9, 10, 11, 12, 13, 14, 15, 16], [0, 1, 2, 3, 4, 5, 6, 7, 8, 9, 10, 11, 12, 13, 14, 15, 16, 17], [0, 1, 2, 3, 4, 5, 6, 7, 8, 9, 10, 11, 12, 13], [0, 1, 2, 3, 4, 5, 6, 7, 8, 9, 10, 11, 12, 13, 19], [0, 1, 2, 3, 4, 5, 6, 7, 8, 9, 10, 11, 12, 13], [0, 1, 2, 3, 4, 5, 6, 7, 8, 9, 10, 11, 12, 13, 19, 20, 21], [0, 1, 2, 3, 4, 5, 6, 7, 8, 9, 10, 11, 12, 13, 19, 20, 21, 22], [0, 1, 2, 3, 4, 5, 6, 7, 8, 9, 10, 11, 12, 13, 19, 20, 21, 22, 23], [0, 1, 2, 3, 4, 5, 6, 7, 8, 9, 10, 11, 12, 13, 14, 15, 16, 17, 18, 19, 20, 21, 22, 23, 24], [0, 1, 2, 3, 4, 5, 6, 7, 8, 9, 10, 11, 12, 13], [0, 1, 2, 3, 4, 5, 6, 7, 8, 9, 10, 11, 12, 13, 26], [0, 1, 2, 3, 4, 5, 6, 7, 8, 9, 10, 11, 12, 13], [0, 1, 2, 3, 4, 5, 6, 7, 8, 9, 10, 11, 12, 13, 26, 27, 28], [0, 1, 2, 3, 4, 5, 6, 7, 8, 9, 10, 11, 12, 13, 26, 27, 28, 29], [0, 1, 2, 3, 4, 5, 6, 7, 8, 9, 10, 11, 12, 13, 26, 27, 28, 29, 30], [0, 1, 2, 3, 4, 5, 6, 7, 8, 9, 10, 11, 12, 13], [0, 1, 2, 3, 4, 5, 6, 7, 8, 9, 10, 11, 12, 13, 26, 27, 28, 29, 30, 31, 32], [0, 1, 2, 3, 4, 5, 6, 7, 8, 9, 10, 11, 12, 13, 26, 27, 28, 29, 30, 31, 32, 33], [0, 1, 2, 3, 4, 5, 6, 7, 8, 9, 10, 11, 12, 13], [0, 1, 2, 3, 4, 5, 6, 7, 8, 9, 10, 11, 12, 13, 35], [0, 1, 2, 3, 4, 5, 6, 7, 8, 9, 10, 11, 12, 13], [0, 1, 2, 3, 4, 5, 6, 7, 8, 9, 10, 11, 12, 13, 35, 36, 37], [0, 1, 2, 3, 4, 5, 6, 7, 8, 9, 10, 11, 12, 13, 35, 36, 37, 38], [0, 1, 2, 3, 4, 5, 6, 7, 8, 9, 10, 11, 12, 13, 35, 36, 37, 38, 39], [0, 1, 2, 3, 4, 5, 6, 7, 8, 9, 10, 11, 12, 13], [0, 1, 2, 3, 4, 5, 6, 7, 8, 9, 10, 11, 12, 13, 35, 36, 37, 38, 39, 40, 41], [0, 1, 2, 3, 4, 5, 6, 7, 8, 9, 10, 11, 12, 13, 35, 36, 37, 38, 39, 40, 41, 42], [0, 1, 2, 3, 4, 5, 6, 7, 8, 9, 10, 11, 12, 13, 35, 36, 37, 38, 39, 40, 41, 42, 43], [0, 1, 2, 3, 4, 5, 6, 7, 8, 9, 10, 11, 12, 13, 26, 27, 28, 29, 30, 31, 32, 33, 34, 35, 36, 37, 38, 39, 40, 41, 42, 43, 44], [0, 1, 2, 3, 4, 5, 6, 7, 8, 9, 10, 11, 12, 13, 14, 15, 16, 17, 18, 19, 20, 21, 22, 23, 24, 25, 26, 27, 28, 29, 30, 31, 32, 33, 34, 35, 36, 37, 38, 39, 40, 41, 42, 43, 44, 45], [0, 1, 2, 3, 4, 5, 6, 7, 8, 9, 10, 11, 12, 13, 14, 15, 16, 17, 18, 19, 20, 21, 22, 23, 24, 25, 26, 27, 28, 29, 30, 31, 32, 33, 34, 35, 36, 37, 38, 39, 40, 41, 42, 43, 44, 45, 46], [0, 1, 2, 3, 4, 5, 6, 7, 8, 9, 10, 11, 12, 13, 14, 15, 16, 17, 18, 19, 20, 21, 22, 23, 24, 25, 26, 27, 28, 29, 30, 31, 32, 33, 34, 35, 36, 37, 38, 39, 40, 41, 42, 43, 44, 45, 46, 47]], [.ref 0 0 0, vb x6.1, vb x6.1, .when x6.1 (.ref 0 0 1), .when x6.1 (.d (.sl (.int .i64)) x6.2), .when x6.1 (vi a2), .when x6.1 (.er [vi (gI x6.2 a2)]), .when x6.1 (vi (gI x6.2 a2)), .when x6.1 (vb ((gI x6.2 a2) != (0 : Int))), vb (x6.1 && ((gI x6.2 a2) != (0 : Int))), vb (x6.1 && ((gI x6.2 a2) != (0 : Int))), .when (x6.1 && ((gI x6.2 a2) != (0 : Int))) (vi x1), .when (x6.1 && ((gI x6.2 a2) != (0 : Int))) (vb (decide (x1 < (0 : Int)))), .when (x6.1 && ((gI x6.2 a2) != (0 : Int))) (vb (decide (x1 < (0 : Int)))), .when ((x6.1 && ((gI x6.2 a2) != (0 : Int))) && (!(decide (x1 < (0 : Int))))) (.ref 0 0 1), .when ((x6.1 && ((gI x6.2 a2) != (0 : Int))) && (!(decide (x1 < (0 : Int))))) (.d (.sl (.int .i64)) x6.2), .when ((x6.1 && ((gI x6.2 a2) != (0 : Int))) && (!(decide (x1 < (0 : Int))))) (vi a2), .when ((x6.1 && ((gI x6.2 a2) != (0 : Int))) && (!(decide (x1 < (0 : Int))))) (.er [vi (gI x6.2 a2)]), .when ((x6.1 && ((gI x6.2 a2) != (0 : Int))) && (!(decide (x1 < (0 : Int))))) (vi (gI x6.2 a2)), .when ((x6.1 && ((gI x6.2 a2) != (0 : Int))) && (!(decide (x1 < (0 : Int))))) (.ref 0 0 1), .when ((x6.1 && ((gI x6.2 a2) != (0 : Int))) && (!(decide (x1 < (0 : Int))))) (.d (.sl (.int .i64)) x6.2), .when ((x6.1 && ((gI x6.2 a2) != (0 : Int))) && (!(decide (x1 < (0 : Int))))) (vi a2), .when ((x6.1 && ((gI x6.2 a2) != (0 : Int))) && (!(decide (x1 < (0 : Int))))) (.er [vi (gI x6.2 a2)]), .when ((x6.1 && ((gI x6.2 a2) != (0 : Int))) && (!(decide (x1 < (0 : Int))))) (vi (gI x6.2 a2)), .when ((x6.1 && ((gI x6.2 a2) != (0 : Int))) && (!(decide (x1 < (0 : Int))))) (vi (-(gI x6.2 a2))), .when ((x6.1 && ((gI x6.2 a2) != (0 : Int))) && (!(decide (x1 < (0 : Int))))) (vi (if (-(gI x6.2 a2)) > (gI x6.2 a2) then (-(gI x6.2 a2)) else (gI x6.2 a2))), .when ((x6.1 && ((gI x6.2 a2) != (0 : Int))) && (!(decide (x1 < (0 : Int))))) (.er [.d (.sl t_farkas_row) a1.2]), .when ((x6.1 && ((gI x6.2 a2) != (0 : Int))) && (!(decide (x1 < (0 : Int))))) (.d (.sl t_farkas_row) a1.2), .when ((x6.1 && ((gI x6.2 a2) != (0 : Int))) && (!(decide (x1 < (0 : Int))))) (vi x1), .when ((x6.1 && ((gI x6.2 a2) != (0 : Int))) && (!(decide (x1 < (0 : Int))))) (.er [vb ((a1.2.getD (Int.toNat x1) d_farkas_row).1), .d (.sl (.int .i64)) ((a1.2.getD (Int.toNat x1) d_farkas_row).2)]), .when ((x6.1 && ((gI x6.2 a2) != (0 : Int))) && (!(decide (x1 < (0 : Int))))) (.er [.d (.sl (.int .i64)) ((a1.2.getD (Int.toNat x1) d_farkas_row).2)]), .when ((x6.1 && ((gI x6.2 a2) != (0 : Int))) && (!(decide (x1 < (0 : Int))))) (.d (.sl (.int .i64)) ((a1.2.getD (Int.toNat x1) d_farkas_row).2)), .when ((x6.1 && ((gI x6.2 a2) != (0 : Int))) && (!(decide (x1 < (0 : Int))))) (vi a2), .when ((x6.1 && ((gI x6.2 a2) != (0 : Int))) && (!(decide (x1 < (0 : Int))))) (.er [vi (gI ((a1.2.getD (Int.toNat x1) d_farkas_row).2) a2)]), .when ((x6.1 && ((gI x6.2 a2) != (0 : Int))) && (!(decide (x1 < (0 : Int))))) (vi (gI ((a1.2.getD (Int.toNat x1) d_farkas_row).2) a2)), .when ((x6.1 && ((gI x6.2 a2) != (0 : Int))) && (!(decide (x1 < (0 : Int))))) (.er [.d (.sl t_farkas_row) a1.2]), .when ((x6.1 && ((gI x6.2 a2) != (0 : Int))) && (!(decide (x1 < (0 : Int))))) (.d (.sl t_farkas_row) a1.2), .when ((x6.1 && ((gI x6.2 a2) != (0 : Int))) && (!(decide (x1 < (0 : Int))))) (vi x1), .when ((x6.1 && ((gI x6.2 a2) != (0 : Int))) && (!(decide (x1 < (0 : Int))))) (.er [vb ((a1.2.getD (Int.toNat x1) d_farkas_row).1), .d (.sl (.int .i64)) ((a1.2.getD (Int.toNat x1) d_farkas_row).2)]), .when ((x6.1 && ((gI x6.2 a2) != (0 : Int))) && (!(decide (x1 < (0 : Int))))) (.er [.d (.sl (.int .i64)) ((a1.2.getD (Int.toNat x1) d_farkas_row).2)]), .when ((x6.1 && ((gI x6.2 a2) != (0 : Int))) && (!(decide (x1 < (0 : Int))))) (.d (.sl (.int .i64)) ((a1.2.getD (Int.toNat x1) d_farkas_row).2)), .when ((x6.1 && ((gI x6.2 a2) != (0 : Int))) && (!(decide (x1 < (0 : Int))))) (vi a2), .when ((x6.1 && ((gI x6.2 a2) != (0 : Int))) && (!(decide (x1 < (0 : Int))))) (.er [vi (gI ((a1.2.getD (Int.toNat x1) d_farkas_row).2) a2)]), .when ((x6.1 && ((gI x6.2 a2) != (0 : Int))) && (!(decide (x1 < (0 : Int))))) (vi (gI ((a1.2.getD (Int.toNat x1) d_farkas_row).2) a2)), .when ((x6.1 && ((gI x6.2 a2) != (0 : Int))) && (!(decide (x1 < (0 : Int))))) (vi (-(gI ((a1.2.getD (Int.toNat x1) d_farkas_row).2) a2))), .when ((x6.1 && ((gI x6.2 a2) != (0 : Int))) && (!(decide (x1 < (0 : Int))))) (vi (if (-(gI ((a1.2.getD (Int.toNat x1) d_farkas_row).2) a2)) > (gI ((a1.2.getD (Int.toNat x1) d_farkas_row).2) a2) then (-(gI ((a1.2.getD (Int.toNat x1) d_farkas_row).2) a2)) else (gI ((a1.2.getD (Int.toNat x1) d_farkas_row).2) a2))), .when ((x6.1 && ((gI x6.2 a2) != (0 : Int))) && (!(decide (x1 < (0 : Int))))) (vb (decide ((if (-(gI x6.2 a2)) > (gI x6.2 a2) then (-(gI x6.2 a2)) else (gI x6.2 a2)) < (if (-(gI ((a1.2.getD (Int.toNat x1) d_farkas_row).2) a2)) > (gI ((a1.2.getD (Int.toNat x1) d_farkas_row).2) a2) then (-(gI ((a1.2.getD (Int.toNat x1) d_farkas_row).2) a2)) else (gI ((a1.2.getD (Int.toNat x1) d_farkas_row).2) a2))))), .when (x6.1 && ((gI x6.2 a2) != (0 : Int))) (vb ((decide (x1 < (0 : Int))) || (decide ((if (-(gI x6.2 a2)) > (gI x6.2 a2) then (-(gI x6.2 a2)) else (gI x6.2 a2)) < (if (-(gI ((a1.2.getD (Int.toNat x1) d_farkas_row).2) a2)) > (gI ((a1.2.getD (Int.toNat x1) d_farkas_row).2) a2) then (-(gI ((a1.2.getD (Int.toNat x1) d_farkas_row).2) a2)) else (gI ((a1.2.getD (Int.toNat x1) d_farkas_row).2) a2)))))), vb ((x6.1 && ((gI x6.2 a2) != (0 : Int))) && ((decide (x1 < (0 : Int))) || (decide ((if (-(gI x6.2 a2)) > (gI x6.2 a2) then (-(gI x6.2 a2)) else (gI x6.2 a2)) < (if (-(gI ((a1.2.getD (Int.toNat x1) d_farkas_row).2) a2)) > (gI ((a1.2.getD (Int.toNat x1) d_farkas_row).2) a2) then (-(gI ((a1.2.getD (Int.toNat x1) d_farkas_row).2) a2)) else (gI ((a1.2.getD (Int.toNat x1) d_farkas_row).2) a2))))))], [none, none, none, none, some (x6.1 = true → x6.1 = true ∧ True), none, some (x6.1 = true → x6.1 = true ∧ (x6.1 = true ∧ ((0 : Int) ≤ a2 ∧ a2 < (x6.2.length : Int)))), some (x6.1 = true → x6.1 = true ∧ True), some (x6.1 = true → x6.1 = true ∧ True), some (x6.1 = true → x6.1 = true), none, none, some ((x6.1 && ((gI x6.2 a2) != (0 : Int))) = true → (x6.1 && ((gI x6.2 a2) != (0 : Int))) = true ∧ True), some ((x6.1 && ((gI x6.2 a2) != (0 : Int))) = true → (x6.1 && ((gI x6.2 a2) != (0 : Int))) = true ∧ True), none, some (((x6.1 && ((gI x6.2 a2) != (0 : Int))) && (!(decide (x1 < (0 : Int))))) = true → ((x6.1 && ((gI x6.2 a2) != (0 : Int))) && (!(decide (x1 < (0 : Int))))) = true ∧ True), none, some (((x6.1 && ((gI x6.2 a2) != (0 : Int))) && (!(decide (x1 < (0 : Int))))) = true → ((x6.1 && ((gI x6.2 a2) != (0 : Int))) && (!(decide (x1 < (0 : Int))))) = true ∧ (((x6.1 && ((gI x6.2 a2) != (0 : Int))) && (!(decide (x1 < (0 : Int))))) = true ∧ ((0 : Int) ≤ a2 ∧ a2 < (x6.2.length : Int)))), some (((x6.1 && ((gI x6.2 a2) != (0 : Int))) && (!(decide (x1 < (0 : Int))))) = true → ((x6.1 && ((gI x6.2 a2) != (0 : Int))) && (!(decide (x1 < (0 : Int))))) = true ∧ True), none, some (((x6.1 && ((gI x6.2 a2) != (0 : Int))) && (!(decide (x1 < (0 : Int))))) = true → ((x6.1 && ((gI x6.2 a2) != (0 : Int))) && (!(decide (x1 < (0 : Int))))) = true ∧ True), none, some (((x6.1 && ((gI x6.2 a2) != (0 : Int))) && (!(decide (x1 < (0 : Int))))) = true → ((x6.1 && ((gI x6.2 a2) != (0 : Int))) && (!(decide (x1 < (0 : Int))))) = true ∧ (((x6.1 && ((gI x6.2 a2) != (0 : Int))) && (!(decide (x1 < (0 : Int))))) = true ∧ ((0 : Int) ≤ a2 ∧ a2 < (x6.2.length : Int)))), some (((x6.1 && ((gI x6.2 a2) != (0 : Int))) && (!(decide (x1 < (0 : Int))))) = true → ((x6.1 && ((gI x6.2 a2) != (0 : Int))) && (!(decide (x1 < (0 : Int))))) = true ∧ True), some (((x6.1 && ((gI x6.2 a2) != (0 : Int))) && (!(decide (x1 < (0 : Int))))) = true → ((x6.1 && ((gI x6.2 a2) != (0 : Int))) && (!(decide (x1 < (0 : Int))))) = true ∧ (-9223372036854775808 ≤ -(gI x6.2 a2) ∧ -(gI x6.2 a2) ≤ 9223372036854775807)), some (((x6.1 && ((gI x6.2 a2) != (0 : Int))) && (!(decide (x1 < (0 : Int))))) = true → ((x6.1 && ((gI x6.2 a2) != (0 : Int))) && (!(decide (x1 < (0 : Int))))) = true ∧ (((x6.1 && ((gI x6.2 a2) != (0 : Int))) && (!(decide (x1 < (0 : Int))))) = true ∧ True)), none, some (((x6.1 && ((gI x6.2 a2) != (0 : Int))) && (!(decide (x1 < (0 : Int))))) = true → ((x6.1 && ((gI x6.2 a2) != (0 : Int))) && (!(decide (x1 < (0 : Int))))) = true ∧ True), none, some (((x6.1 && ((gI x6.2 a2) != (0 : Int))) && (!(decide (x1 < (0 : Int))))) = true → ((x6.1 && ((gI x6.2 a2) != (0 : Int))) && (!(decide (x1 < (0 : Int))))) = true ∧ (((x6.1 && ((gI x6.2 a2) != (0 : Int))) && (!(decide (x1 < (0 : Int))))) = true ∧ ((0 : Int) ≤ x1 ∧ x1 < (a1.2.length : Int)))), some (((x6.1 && ((gI x6.2 a2) != (0 : Int))) && (!(decide (x1 < (0 : Int))))) = true → ((x6.1 && ((gI x6.2 a2) != (0 : Int))) && (!(decide (x1 < (0 : Int))))) = true ∧ True), some (((x6.1 && ((gI x6.2 a2) != (0 : Int))) && (!(decide (x1 < (0 : Int))))) = true → ((x6.1 && ((gI x6.2 a2) != (0 : Int))) && (!(decide (x1 < (0 : Int))))) = true ∧ True), none, some (((x6.1 && ((gI x6.2 a2) != (0 : Int))) && (!(decide (x1 < (0 : Int))))) = true → ((x6.1 && ((gI x6.2 a2) != (0 : Int))) && (!(decide (x1 < (0 : Int))))) = true ∧ (((x6.1 && ((gI x6.2 a2) != (0 : Int))) && (!(decide (x1 < (0 : Int))))) = true ∧ ((0 : Int) ≤ a2 ∧ a2 < (((a1.2.getD (Int.toNat x1) d_farkas_row).2).length : Int)))), some (((x6.1 && ((gI x6.2 a2) != (0 : Int))) && (!(decide (x1 < (0 : Int))))) = true → ((x6.1 && ((gI x6.2 a2) != (0 : Int))) && (!(decide (x1 < (0 : Int))))) = true ∧ True), none, some (((x6.1 && ((gI x6.2 a2) != (0 : Int))) && (!(decide (x1 < (0 : Int))))) = true → ((x6.1 && ((gI x6.2 a2) != (0 : Int))) && (!(decide (x1 < (0 : Int))))) = true ∧ True), none, some (((x6.1 && ((gI x6.2 a2) != (0 : Int))) && (!(decide (x1 < (0 : Int))))) = true → ((x6.1 && ((gI x6.2 a2) != (0 : Int))) && (!(decide (x1 < (0 : Int))))) = true ∧ (((x6.1 && ((gI x6.2 a2) != (0 : Int))) && (!(decide (x1 < (0 : Int))))) = true ∧ ((0 : Int) ≤ x1 ∧ x1 < (a1.2.length : Int)))), some (((x6.1 && ((gI x6.2 a2) != (0 : Int))) && (!(decide (x1 < (0 : Int))))) = true → ((x6.1 && ((gI x6.2 a2) != (0 : Int))) && (!(decide (x1 < (0 : Int))))) = true ∧ True), some (((x6.1 && ((gI x6.2 a2) != (0 : Int))) && (!(decide (x1 < (0 : Int))))) = true → ((x6.1 && ((gI x6.2 a2) != (0 : Int))) && (!(decide (x1 < (0 : Int))))) = true ∧ True), none, some (((x6.1 && ((gI x6.2 a2) != (0 : Int))) && (!(decide (x1 < (0 : Int))))) = true → ((x6.1 && ((gI x6.2 a2) != (0 : Int))) && (!(decide (x1 < (0 : Int))))) = true ∧ (((x6.1 && ((gI x6.2 a2) != (0 : Int))) && (!(decide (x1 < (0 : Int))))) = true ∧ ((0 : Int) ≤ a2 ∧ a2 < (((a1.2.getD (Int.toNat x1) d_farkas_row).2).length : Int)))), some (((x6.1 && ((gI x6.2 a2) != (0 : Int))) && (!(decide (x1 < (0 : Int))))) = true → ((x6.1 && ((gI x6.2 a2) != (0 : Int))) && (!(decide (x1 < (0 : Int))))) = true ∧ True), some (((x6.1 && ((gI x6.2 a2) != (0 : Int))) && (!(decide (x1 < (0 : Int))))) = true → ((x6.1 && ((gI x6.2 a2) != (0 : Int))) && (!(decide (x1 < (0 : Int))))) = true ∧ (-9223372036854775808 ≤ -(gI ((a1.2.getD (Int.toNat x1) d_farkas_row).2) a2) ∧ -(gI ((a1.2.getD (Int.toNat x1) d_farkas_row).2) a2) ≤ 9223372036854775807)), some (((x6.1 && ((gI x6.2 a2) != (0 : Int))) && (!(decide (x1 < (0 : Int))))) = true → ((x6.1 && ((gI x6.2 a2) != (0 : Int))) && (!(decide (x1 < (0 : Int))))) = true ∧ (((x6.1 && ((gI x6.2 a2) != (0 : Int))) && (!(decide (x1 < (0 : Int))))) = true ∧ True)), some (((x6.1 && ((gI x6.2 a2) != (0 : Int))) && (!(decide (x1 < (0 : Int))))) = true → ((x6.1 && ((gI x6.2 a2) != (0 : Int))) && (!(decide (x1 < (0 : Int))))) = true ∧ (((x6.1 && ((gI x6.2 a2) != (0 : Int))) && (!(decide (x1 < (0 : Int))))) = true ∧ True)), some ((x6.1 && ((gI x6.2 a2) != (0 : Int))) = true → (x6.1 && ((gI x6.2 a2) != (0 : Int))) = true ∧ ((decide (x1 < (0 : Int))) = false → ((x6.1 && ((gI x6.2 a2) != (0 : Int))) && (!(decide (x1 < (0 : Int))))) = true)), some ((x6.1 && ((gI x6.2 a2) != (0 : Int))) = true → (x6.1 && ((gI x6.2 a2) != (0 : Int))) = true)], [], [([], [.box [vb x6.1, .d (.sl (.int .i64)) x6.2]])]⟩ ⟨68, [(1, vi a2), (2, .er [vi a1.1, .d (.sl t_farkas_row) a1.2]), (5, vi x1), (6, vi x2), (9, .d (.sl t_farkas_row) a1.2), (10, vi (a1.2.length : Int)), (11, vi x2), (61, .when ((x6.1 && ((gI x6.2 a2) != (0 : Int))) && (!(decide (x1 < (0 : Int))))) (vi (if (-(gI ((a1.2.getD (Int.toNat x1) d_farkas_row).2) a2)) > (gI ((a1.2.getD (Int.toNat x1) d_farkas_row).2) a2) then (-(gI ((a1.2.getD (Int.toNat x1) d_farkas_row).2) a2)) else (gI ((a1.2.getD (Int.toNat x1) d_farkas_row).2) a2)))), (62, .when ((x6.1 && ((gI x6.2 a2) != (0 : Int))) && (!(decide (x1 < (0 : Int))))) (vb (decide ((if (-(gI x6.2 a2)) > (gI x6.2 a2) then (-(gI x6.2 a2)) else (gI x6.2 a2)) < (if (-(gI ((a1.2.getD (Int.toNat x1) d_farkas_row).2) a2)) > (gI ((a1.2.getD (Int.toNat x1) d_farkas_row).2) a2) then (-(gI ((a1.2.getD (Int.toNat x1) d_farkas_row).2) a2)) else (gI ((a1.2.getD (Int.toNat x1) d_farkas_row).2) a2)))))), (63, .when (x6.1 && ((gI x6.2 a2) != (0 : Int))) (vb ((decide (x1 < (0 : Int))) || (decide ((if (-(gI x6.2 a2)) > (gI x6.2 a2) then (-(gI x6.2 a2)) else (gI x6.2 a2)) < (if (-(gI ((a1.2.getD (Int.toNat x1) d_farkas_row).2) a2)) > (gI ((a1.2.getD (Int.toNat x1) d_farkas_row).2) a2) then (-(gI ((a1.2.getD (Int.toNat x1) d_farkas_row).2) a2)) else (gI ((a1.2.getD (Int.toNat x1) d_farkas_row).2) a2))))))), (64, vb ((x6.1 && ((gI x6.2 a2) != (0 : Int))) && ((decide (x1 < (0 : Int))) || (decide ((if (-(gI x6.2 a2)) > (gI x6.2 a2) then (-(gI x6.2 a2)) else (gI x6.2 a2)) < (if (-(gI ((a1.2.getD (Int.toNat x1) d_farkas_row).2) a2)) > (gI ((a1.2.getD (Int.toNat x1) d_farkas_row).2) a2) then (-(gI ((a1.2.getD (Int.toNat x1) d_farkas_row).2) a2)) else (gI ((a1.2.getD (Int.toNat x1) d_farkas_row).2) a2)))))))], [.box [vb x6.1, .d (.sl (.int .i64)) x6.2]]⟩ (by kernel_rfl) (AllO.n (AllO.n (AllO.n (AllO.n (AllO.s (fun hg => ⟨hg, trivial⟩) (AllO.n (AllO.s (fun hg => ⟨hg, hg, (o2 hg)⟩) (AllO.s (fun hg => ⟨hg, trivial⟩) (AllO.s (fun hg => ⟨hg, trivial⟩) (AllO.s (fun hc => hc) (AllO.n (AllO.n (AllO.s (fun hg => ⟨hg, trivial⟩) (AllO.s (fun hg => ⟨hg, trivial⟩) (AllO.n (AllO.s (fun hg => ⟨hg, trivial⟩) (AllO.n (AllO.s (fun hg => ⟨hg, hg, (o3 hg)⟩) (AllO.s (fun hg => ⟨hg, trivial⟩) (AllO.n (AllO.s (fun hg => ⟨hg, trivial⟩) (AllO.n (AllO.s (fun hg => ⟨hg, hg, (o4 hg)⟩) (AllO.s (fun hg => ⟨hg, trivial⟩) (AllO.s (fun hg => ⟨hg, (o5 hg)⟩) (AllO.s (fun hg => ⟨hg, hg, trivial⟩) (AllO.n (AllO.s (fun hg => ⟨hg, trivial⟩) (AllO.n (AllO.s (fun hg => ⟨hg, hg, (o6 hg)⟩) (AllO.s (fun hg => ⟨hg, trivial⟩) (AllO.s (fun hg => ⟨hg, trivial⟩) (AllO.n (AllO.s (fun hg => ⟨hg, hg, (o7 hg)⟩) (AllO.s (fun hg => ⟨hg, trivial⟩) (AllO.n (AllO.s (fun hg => ⟨hg, trivial⟩) (AllO.n (AllO.s (fun hg => ⟨hg, hg, (o8 hg)⟩) (AllO.s (fun hg => ⟨hg, trivial⟩) (AllO.s (fun hg => ⟨hg, trivial⟩) (AllO.n (AllO.s (fun hg => ⟨hg, hg, (o9 hg)⟩) (AllO.s (fun hg => ⟨hg, trivial⟩) (AllO.s (fun hg => ⟨hg, (o10 hg)⟩) (AllO.s (fun hg => ⟨hg, hg, trivial⟩) (AllO.s (fun hg => ⟨hg, hg, trivial⟩) (AllO.s (fun hg => ⟨hg, fun hc => and_f hg hc⟩) (AllO.s (fun hc => hc) (AllO.e)))))))))))))))))))))))))))))))))))))))))))))))))) ?_
    refine then_n (spine_c ?_)
    refine awp_abs (fun (x7 : Int) => ⟨68, [(1, vi a2), (2, .er [vi a1.1, .d (.sl t_farkas_row) a1.2]), (5, vi x1), (6, vi x2), (9, .d (.sl t_farkas_row) a1.2), (10, vi (a1.2.length : Int)), (11, vi x2), (61, .when ((x6.1 && ((gI x6.2 a2) != (0 : Int))) && (!(decide (x1 < (0 : Int))))) (vi x7)), (62, .when ((x6.1 && ((gI x6.2 a2) != (0 : Int))) && (!(decide (x1 < (0 : Int))))) (vb (decide ((if (-(gI x6.2 a2)) > (gI x6.2 a2) then (-(gI x6.2 a2)) else (gI x6.2 a2)) < x7)))), (63, .when (x6.1 && ((gI x6.2 a2) != (0 : Int))) (vb ((decide (x1 < (0 : Int))) || (decide ((if (-(gI x6.2 a2)) > (gI x6.2 a2) then (-(gI x6.2 a2)) else (gI x6.2 a2)) < x7))))), (64, vb ((x6.1 && ((gI x6.2 a2) != (0 : Int))) && ((decide (x1 < (0 : Int))) || (decide ((if (-(gI x6.2 a2)) > (gI x6.2 a2) then (-(gI x6.2 a2)) else (gI x6.2 a2)) < x7)))))], [.box [vb x6.1, .d (.sl (.int .i64)) x6.2]]⟩) (if (-(gI ((a1.2.getD (Int.toNat x1) d_farkas_row).2) a2)) > (gI ((a1.2.getD (Int.toNat x1) d_farkas_row).2) a2) then (-(gI ((a1.2.getD (Int.toNat x1) d_farkas_row).2) a2)) else (gI ((a1.2.getD (Int.toNat x1) d_farkas_row).2) a2)) ?_
    intro x7 hx7
    replace h := h x7 hx7
    refine awp_cond (b := (x6.1 && ((gI x6.2 a2) != (0 : Int))) && ((decide (x1 < (0 : Int))) || (decide ((if (-(gI x6.2 a2)) > (gI x6.2 a2) then (-(gI x6.2 a2)) else (gI x6.2 a2)) < x7)))) (by kernel_rfl) (fun hb => ?_) (fun hb => ?_)
    · replace h := h.1 (hb)
      refine awp_rc tab [1, 2, 5, 9, 10, 11, 61, 62, 63] [] [] [] [] ⟨68, [(1, vi a2), (2, .er [vi a1.1, .d (.sl t_farkas_row) a1.2]), (5, vi x2), (9, .d (.sl t_farkas_row) a1.2), (10, vi (a1.2.length : Int)), (11, vi x2), (61, .when ((x6.1 && ((gI x6.2 a2) != (0 : Int))) && (!(decide (x1 < (0 : Int))))) (vi x7)), (62, .when ((x6.1 && ((gI x6.2 a2) != (0 : Int))) && (!(decide (x1 < (0 : Int))))) (vb (decide ((if (-(gI x6.2 a2)) > (gI x6.2 a2) then (-(gI x6.2 a2)) else (gI x6.2 a2)) < x7)))), (63, .when (x6.1 && ((gI x6.2 a2) != (0 : Int))) (vb ((decide (x1 < (0 : Int))) || (decide ((if (-(gI x6.2 a2)) > (gI x6.2 a2) then (-(gI x6.2 a2)) else (gI x6.2 a2)) < x7)))))], [.box [vb x6.1, .d (.sl (.int .i64)) x6.2]]⟩ (by kernel_rfl) (trivial) ?_
      refine then_n (spine_e (then_n (spine_e (blk_n (then_n (spine_c ?_))))))
      obtain ⟨o11, h⟩ := h
      refine awp_rc tab [1, 2, 5, 9, 10, 11, 61, 62, 63] [] [] [] [-9223372036854775808 ≤ x2 + (1 : Int) ∧ x2 + (1 : Int) ≤ 9223372036854775807] ⟨68, [(1, vi a2), (2, .er [vi a1.1, .d (.sl t_farkas_row) a1.2]), (5, vi x2), (9, .d (.sl t_farkas_row) a1.2), (10, vi (a1.2.length : Int)), (11, vi (x2 + (1 : Int))), (61, .when ((x6.1 && ((gI x6.2 a2) != (0 : Int))) && (!(decide (x1 < (0 : Int))))) (vi x7)), (62, .when ((x6.1 && ((gI x6.2 a2) != (0 : Int))) && (!(decide (x1 < (0 : Int))))) (vb (decide ((if (-(gI x6.2 a2)) > (gI x6.2 a2) then (-(gI x6.2 a2)) else (gI x6.2 a2)) < x7)))), (63, .when (x6.1 && ((gI x6.2 a2) != (0 : Int))) (vb ((decide (x1 < (0 : Int))) || (decide ((if (-(gI x6.2 a2)) > (gI x6.2 a2) then (-(gI x6.2 a2)) else (gI x6.2 a2)) < x7)))))], [.box [vb x6.1, .d (.sl (.int .i64)) x6.2]]⟩ (by kernel_rfl) (AllP.of (o11) trivial) ?_
      refine then_n (spine_e (then_n (spine_e (then_n (spine_e (then_n (?_)))))))
      obtain ⟨m, hm, h⟩ := h
      exact ⟨m, hm, ⟨68, [(1, vi a2), (2, .er [vi a1.1, .d (.sl t_farkas_row) a1.2]), (5, vi x2), (9, .d (.sl t_farkas_row) a1.2), (10, vi (a1.2.length : Int)), (11, vi (x2 + (1 : Int)))], []⟩, wk_ghosts hk (l := [.keep [1, 2, 5, 9, 10, 11], .keep [1, 2, 5, 9, 10, 11], .cut 0, .keep [1, 2, 5, 9, 10, 11]]) (by kernel_rfl), x2, x2 + (1 : Int), h, rfl⟩
    · replace h := h.2 (hb)
      refine awp_skip (then_n (spine_e (then_n (spine_e (blk_n (then_n (spine_c ?_)))))))
      obtain ⟨o12, h⟩ := h
      refine awp_rc tab [1, 2, 5, 9, 10, 11, 61, 62, 63] [] [] [] [-9223372036854775808 ≤ x2 + (1 : Int) ∧ x2 + (1 : Int) ≤ 9223372036854775807] ⟨68, [(1, vi a2), (2, .er [vi a1.1, .d (.sl t_farkas_row) a1.2]), (5, vi x1), (9, .d (.sl t_farkas_row) a1.2), (10, vi (a1.2.length : Int)), (11, vi (x2 + (1 : Int))), (61, .when ((x6.1 && ((gI x6.2 a2) != (0 : Int))) && (!(decide (x1 < (0 : Int))))) (vi x7)), (62, .when ((x6.1 && ((gI x6.2 a2) != (0 : Int))) && (!(decide (x1 < (0 : Int))))) (vb (decide ((if (-(gI x6.2 a2)) > (gI x6.2 a2) then (-(gI x6.2 a2)) else (gI x6.2 a2)) < x7)))), (63, .when (x6.1 && ((gI x6.2 a2) != (0 : Int))) (vb ((decide (x1 < (0 : Int))) || (decide ((if (-(gI x6.2 a2)) > (gI x6.2 a2) then (-(gI x6.2 a2)) else (gI x6.2 a2)) < x7)))))], [.box [vb x6.1, .d (.sl (.int .i64)) x6.2]]⟩ (by kernel_rfl) (AllP.of (o12) trivial) ?_
      refine then_n (spine_e (then_n (spine_e (then_n (spine_e (then_n (?_)))))))
      obtain ⟨m, hm, h⟩ := h
      exact ⟨m, hm, ⟨68, [(1, vi a2), (2, .er [vi a1.1, .d (.sl t_farkas_row) a1.2]), (5, vi x1), (9, .d (.sl t_farkas_row) a1.2), (10, vi (a1.2.length : Int)), (11, vi (x2 + (1 : Int)))], []⟩, wk_ghosts hk (l := [.keep [1, 2, 5, 9, 10, 11], .keep [1, 2, 5, 9, 10, 11], .cut 0, .keep [1, 2, 5, 9, 10, 11]]) (by kernel_rfl), x1, x2 + (1 : Int), h, rfl⟩
  · replace h := h.2 (of_decide_eq_false hb)
    refine awp_exit (then_x (then_x (then_x (blk_h (then_n (spine_c ?_))))))
    refine awp_spine ?_
    refine awp_rc tab [4] [] [] [] [] ⟨68, [(4, vi x1)], []⟩ (by kernel_rfl) (trivial) ?_
    refine then_n (spine_c ?_)
    refine awp_ret (then_r (then_r (then_r (then_r (?_)))))
    exact ret_r (m := 0) (r := vi x1) (objs := []) hk [.keep [4]] ⟨68, [(4, vi x1)], []⟩ (by kernel_rfl) (by kernel_rfl) (Nat.le_refl 0) ⟨x1, rfl, rfl, h⟩
theorem ok_farkas_table_solver (a1 : farkas_table) (a2 : Int) (h : farkas_table_solver.pre a1 a2) : OkC prog 78 [.agg [vi a1.1, .d (.sl t_farkas_row) a1.2], vi a2] (vi (farkas_table_solver.fn a1 a2)) :=
  OkC.of call_farkas_table_solver ((walk_farkas_table_solver a1 a2 _ (farkas_table_solver.spec a1 a2 h)).mono fun r o ⟨x, hr, ho, hx⟩ => ⟨by rw [hr, hx], ho⟩) rfl rfl (fun _ => rfl)

noncomputable abbrev Bfarkas_vector_int_sum : Code := bodyOf Try.f79
theorem call_farkas_vector_int_sum : CallOk prog 79 := ⟨_, Try.func79, by kernel_rfl, by kernel_rfl⟩
theorem walk_farkas_vector_int_sum (a1 : (List Int)) (a2 : Int) (a3 : Int) (a4 : (List Int)) (Q : (List Int) → Prop) (h : farkas_vector_int_sum.wp a1 a2 a3 a4 Q) : VCalls prog 79 [.d (.sl (.int .i64)) a1, vi a2, vi a3, .d (.sl (.int .i64)) a4] [] (fun r o => ∃ x, r = .d (.sl (.int .i64)) x ∧ o = [] ∧ Q x) := by
  refine vcalls_body tab Try.func79 (c := (spine (subC [0] Bfarkas_vector_int_sum) [(spine (subC [1, 0] Bfarkas_vector_int_sum) [(spine (subC [1, 1, 0, 0] Bfarkas_vector_int_sum) [(.block 0 (.loop (spine (subC [1, 1, 0, 1, 0, 0, 0] Bfarkas_vector_int_sum) [(spine (.cond (.tmp 17) .skip (.exit 0)) [(spine (.block 1 (spine (subC [1, 1, 0, 1, 0, 0, 1, 1, 0, 0, 0] Bfarkas_vector_int_sum) [(subC [1, 1, 0, 1, 0, 0, 1, 1, 0, 0, 1] Bfarkas_vector_int_sum)])) [(subC [1, 1, 0, 1, 0, 0, 1, 1, 1] Bfarkas_vector_int_sum)])])]))), (spine (subC [1, 1, 1, 0] Bfarkas_vector_int_sum) [.ret])])])])) (by kernel_rfl) (Nat.le_of_ble_eq_true (by kernel_rfl)) fun cx hd hi hk => ?_
  show AWp prog cx _ _ ⟨37, [(0, .d (.sl (.int .i64)) a1), (1, vi a2), (2, vi a3), (3, .d (.sl (.int .i64)) a4)], []⟩
  replace hk : cx.E.len = 0 := hk
  unfold farkas_vector_int_sum.wp at h
  refine awp_spine ?_
  refine awp_rc tab [0, 1, 2, 3] [] [] [] [] ⟨37, [(0, .d (.sl (.int .i64)) a1), (1, vi a2), (2, vi a3), (3, .d (.sl (.int .i64)) a4)], []⟩ (by kernel_rfl) (trivial) ?_
  refine then_n (spine_c ?_)
  refine awp_spine ?_
  obtain ⟨o1, h⟩ := h
  refine awp_rc tab [0, 1, 2, 3, 9] [] [] [] [(0 : Int) ≤ (a1.length : Int) ∧ (a1.length : Int) ≤ (a1.length : Int) ∧ (a1.length : Int) * 8 ≤ 140737488355328 ∧ (a1.length : Int) ≤ 9223372036854775807] ⟨37, [(0, .d (.sl (.int .i64)) a1), (1, vi a2), (2, vi a3), (3, .d (.sl (.int .i64)) a4), (9, .osl 0 0)], [.row (.int .i64) (List.replicate (Int.toNat (a1.length : Int)) (0 : Int)) 0]⟩ (by kernel_rfl) (AllP.of (o1) trivial) ?_
  refine then_n (spine_c ?_)
  refine awp_abs (fun (x1 : (List Int)) => ⟨37, [(0, .d (.sl (.int .i64)) a1), (1, vi a2), (2, vi a3), (3, .d (.sl (.int .i64)) a4), (9, .osl 0 0)], [.row (.int .i64) x1 0]⟩) (List.replicate (Int.toNat (a1.length : Int)) (0 : Int)) ?_
  intro x1 hx1
  replace h := h x1 hx1
  refine awp_len 0 [] (T := (.int .i64)) (l := a1) (by kernel_rfl) fun hl => ?_
  replace h := h hl
  refine awp_spine ?_
  refine awp_rc tab [0, 1, 2, 3, 9, 15, 16] [] [] [] [] ⟨37, [(0, .d (.sl (.int .i64)) a1), (1, vi a2), (2, vi a3), (3, .d (.sl (.int .i64)) a4), (9, .osl 0 0), (15, vi (a1.length : Int)), (16, vi (0 : Int))], [.row (.int .i64) x1 0]⟩ (by kernel_rfl) (trivial) ?_
  refine then_n (spine_c ?_)
  refine awp_len 0 [] (T := (.int .i64)) (l := a1) (by kernel_rfl) fun hl => ?_
  replace h := h hl
  refine awp_block ?_
  obtain ⟨I8, ⟨n8a, hz8⟩, hI8⟩ := h
  refine awp_loopN (fun n s => ∃ (x4 : Int) (x5 : (List Int)), I8 n x4 x5 ∧ s = ⟨37, [(0, .d (.sl (.int .i64)) a1), (1, vi a2), (2, vi a3), (3, .d (.sl (.int .i64)) a4), (9, .osl 0 0), (15, vi (a1.length : Int)), (16, vi x4)], [.row (.int .i64) x5 0]⟩) (n := n8a) (s0 := ⟨37, [(0, .d (.sl (.int .i64)) a1), (1, vi a2), (2, vi a3), (3, .d (.sl (.int .i64)) a4), (9, .osl 0 0), (15, vi (a1.length : Int)), (16, vi (0 : Int))], [.row (.int .i64) x1 0]⟩) (wk_ghosts hk (l := [.keep [0, 1, 2, 3, 9, 15, 16], .keep [0, 1, 2, 3, 9, 15, 16], .keep [0, 1, 2, 3, 9, 15, 16], .keep [0, 1, 2, 3, 9, 15, 16]]) (by kernel_rfl)) ⟨0, x1, hz8, rfl⟩ ?_
  rintro n8 s ⟨x4, x5, hx8, rfl⟩
  have h := hI8 n8 x4 x5 hx8
  refine awp_spine ?_
  refine awp_rc tab [0, 1, 2, 3, 9, 15, 16, 17] [] [] [] [] ⟨37, [(0, .d (.sl (.int .i64)) a1), (1, vi a2), (2, vi a3), (3, .d (.sl (.int .i64)) a4), (9, .osl 0 0), (15, vi (a1.length : Int)), (16, vi x4), (17, vb (decide (x4 < (a1.length : Int))))], [.row (.int .i64) x5 0]⟩ (by kernel_rfl) (trivial) ?_
  refine then_n (spine_c ?_)
  refine awp_spine ?_
  refine awp_cond (b := decide (x4 < (a1.length : Int))) (by kernel_rfl) (fun hb => ?_) (fun hb => ?_)
  · replace h := h.1 (of_decide_eq_true hb)
    refine awp_skip (then_n (spine_c ?_))
    refine awp_spine ?_
    refine awp_block ?_
    refine awp_spine ?_
    refine awp_rc tab [0, 1, 2, 3, 9, 10, 15, 16] [] [] [] [] ⟨37, [(0, .d (.sl (.int .i64)) a1), (1, vi a2), (2, vi a3), (3, .d (.sl (.int .i64)) a4), (9, .osl 0 0), (10, vi x4), (15, vi (a1.length : Int)), (16, vi x4)], [.row (.int .i64) x5 0]⟩ (by kernel_rfl) (trivial) ?_
    refine then_n (spine_c ?_)
    obtain ⟨o2, o3, o4, o5, o6, o7, o8, h⟩ := h
    refine awp_dr tab mixed [0, 1, 2, 3, 9, 15, 16] [] [] [] ⟨[[], [], [], [], [], [3, 4], [3, 4, 5], [2, 3, 4, 5, 6], [], [], [], [9, 10], [9, 10, 11], [8, 9, 10, 11, 12], [2, 3, 4, 5, 6, 7, 8, 9, 10, 11, 12, 13], [0, 1, 2, 3, 4, 5, 6, 7, 8, 9, 10, 11, 12, 13, 14], [0, 1, 2, 3, 4, 5, 6, 7, 8, 9, 10, 11, 12, 13, 14, 15]], [.osl 0 0, vi x4, vi a2, .d (.sl (.int .i64)) a1, vi x4, .er [vi (gI a1 x4)], vi (gI a1 x4), vi (a2 * (gI a1 x4)), vi a3, .d (.sl (.int .i64)) a4, vi x4, .er [vi (gI a4 x4)], vi (gI a4 x4), vi (a3 * (gI a4 x4)), vi ((a2 * (gI a1 x4)) + (a3 * (gI a4 x4))), .rref 0 0 (Int.toNat x4) 0, .tup []], [none, none, none, none, none, some ((0 : Int) ≤ x4 ∧ x4 < (a1.length : Int)), none, some (-9223372036854775808 ≤ a2 * (gI a1 x4) ∧ a2 * (gI a1 x4) ≤ 9223372036854775807), none, none, none, some ((0 : Int) ≤ x4 ∧ x4 < (a4.length : Int)), none, some (-9223372036854775808 ≤ a3 * (gI a4 x4) ∧ a3 * (gI a4 x4) ≤ 9223372036854775807), some (-9223372036854775808 ≤ (a2 * (gI a1 x4)) + (a3 * (gI a4 x4)) ∧ (a2 * (gI a1 x4)) + (a3 * (gI a4 x4)) ≤ 9223372036854775807), some ((0 : Int) ≤ x4 ∧ x4 < (x5.length : Int)), some (Int.toNat x4 < x5.length)], [16], [([], [.row (.int .i64) x5 0]), ([16], [.row (.int .i64) (x5.set (Int.toNat x4) ((a2 * (gI a1 x4)) + (a3 * (gI a4 x4)))) 0])]⟩ ⟨37, [(0, .d (.sl (.int .i64)) a1), (1, vi a2), (2, vi a3), (3, .d (.sl (.int .i64)) a4), (9, .osl 0 0), (15, vi (a1.length : Int)), (16, vi x4)], [.row (.int .i64) (x5.set (Int.toNat x4) ((a2 * (gI a1 x4)) + (a3 * (gI a4 x4)))) 0]⟩ (by kernel_rfl) (AllO.n (AllO.n (AllO.n (AllO.n (AllO.n (AllO.s (o2) (AllO.n (AllO.s (o3) (AllO.n (AllO.n (AllO.n (AllO.s (o4) (AllO.n (AllO.s (o5) (AllO.s (o6) (AllO.s (o7) (AllO.s (o8) (AllO.e)))))))))))))))))) ?_
    refine then_n (spine_e (blk_n (then_n (spine_c ?_))))
    refine awp_abs (fun (x9 : (List Int)) => ⟨37, [(0, .d (.sl (.int .i64)) a1), (1, vi a2), (2, vi a3), (3, .d (.sl (.int .i64)) a4), (9, .osl 0 0), (15, vi (a1.length : Int)), (16, vi x4)], [.row (.int .i64) x9 0]⟩) (x5.set (Int.toNat x4) ((a2 * (gI a1 x4)) + (a3 * (gI a4 x4)))) ?_
    intro x9 hx9
    replace h := h x9 hx9
    obtain ⟨o9, h⟩ := h
    refine awp_rc tab [0, 1, 2, 3, 9, 15, 16] [] [] [] [-9223372036854775808 ≤ x4 + (1 : Int) ∧ x4 + (1 : Int) ≤ 9223372036854775807] ⟨37, [(0, .d (.sl (.int .i64)) a1), (1, vi a2), (2, vi a3), (3, .d (.sl (.int .i64)) a4), (9, .osl 0 0), (15, vi (a1.length : Int)), (16, vi (x4 + (1 : Int)))], [.row (.int .i64) x9 0]⟩ (by kernel_rfl) (AllP.of (o9) trivial) ?_
    refine then_n (spine_e (then_n (spine_e (then_n (spine_e (then_n (?_)))))))
    obtain ⟨m, hm, h⟩ := h
    exact ⟨m, hm, ⟨37, [(0, .d (.sl (.int .i64)) a1), (1, vi a2), (2, vi a3), (3, .d (.sl (.int .i64)) a4), (9, .osl 0 0), (15, vi (a1.length : Int)), (16, vi (x4 + (1 : Int)))], [.row (.int .i64) x9 0]⟩, wk_ghosts hk (l := [.keep [0, 1, 2, 3, 9, 15, 16], .keep [0, 1, 2, 3, 9, 15, 16], .keep [0, 1, 2, 3, 9, 15, 16]]) (by kernel_rfl), x4 + (1 : Int), x9, h, rfl⟩
  · replace h := h.2 (of_decide_eq_false hb)
    refine awp_exit (then_x (then_x (then_x (blk_h (then_n (spine_c ?_))))))
    refine awp_spine ?_
    refine awp_rc tab [8] [] [] [] [] ⟨37, [(8, .osl 0 0)], [.row (.int .i64) x5 0]⟩ (by kernel_rfl) (trivial) ?_
    refine then_n (spine_c ?_)
    refine awp_ret (then_r (then_r (then_r (then_r (?_)))))
    exact ret_r (m := 0) (r := .d (.sl (.int .i64)) x5) (objs := []) hk [.keep [8], .freeze 0] ⟨37, [(8, .d (.sl (.int .i64)) x5)], [.dead]⟩ (by kernel_rfl) (by kernel_rfl) (Nat.le_refl 0) ⟨x5, rfl, rfl, h⟩
theorem ok_farkas_vector_int_sum (a1 : (List Int)) (a2 : Int) (a3 : Int) (a4 : (List Int)) (h : farkas_vector_int_sum.pre a1 a2 a3 a4) : OkC prog 79 [.d (.sl (.int .i64)) a1, vi a2, vi a3, .d (.sl (.int .i64)) a4] (.d (.sl (.int .i64)) (farkas_vector_int_sum.fn a1 a2 a3 a4)) :=
  OkC.of call_farkas_vector_int_sum ((walk_farkas_vector_int_sum a1 a2 a3 a4 _ (farkas_vector_int_sum.spec a1 a2 a3 a4 h)).mono fun r o ⟨x, hr, ho, hx⟩ => ⟨by rw [hr, hx], ho⟩) rfl rfl (fun _ => rfl)

noncomputable abbrev Bfarkas_table_without : Code := bodyOf Try.f56
theorem call_farkas_table_without : CallOk prog 56 := ⟨_, Try.func56, by kernel_rfl, by kernel_rfl⟩
theorem walk_farkas_table_without (a1 : farkas_table) (a2 : Int) (Q : farkas_table × Int → Prop) (h : farkas_table_without.wp a1 a2 Q) : VCalls prog 56 [.agg [vi a1.1, .d (.sl t_farkas_row) a1.2], vi a2] [] (fun r o => ∃ x, r = .tup [.agg [vi x.1.1, .d (.sl t_farkas_row) x.1.2], vi x.2] ∧ o = [] ∧ Q x) := by
  refine vcalls_body tab Try.func56 (c := (spine (subC [0] Bfarkas_table_without) [(spine (subC [1, 0] Bfarkas_table_without) [(spine (subC [1, 1, 0, 0] Bfarkas_table_without) [(spine (subC [1, 1, 0, 1, 0] Bfarkas_table_without) [(.cond (.tmp 23) (spine (subC [1, 1, 0, 1, 1, 0, 0] Bfarkas_table_without) [(spine (subC [1, 1, 0, 1, 1, 0, 1, 0] Bfarkas_table_without) [(spine (subC [1, 1, 0, 1, 1, 0, 1, 1, 0, 0] Bfarkas_table_without) [(.cond (.tmp 35) (subC [1, 1, 0, 1, 1, 0, 1, 1, 0, 1, 0] Bfarkas_table_without) .skip), (spine (subC [1, 1, 0, 1, 1, 0, 1, 1, 1, 0, 0] Bfarkas_table_without) [(.block 0 (.loop (spine (subC [1, 1, 0, 1, 1, 0, 1, 1, 1, 0, 1, 0, 0, 0] Bfarkas_table_without) [(spine (.cond (.tmp 42) .skip (.exit 0)) [(spine (.block 1 (spine (subC [1, 1, 0, 1, 1, 0, 1, 1, 1, 0, 1, 0, 0, 1, 1, 0, 0, 0] Bfarkas_table_without) [(.block 2 (spine (subC [1, 1, 0, 1, 1, 0, 1, 1, 1, 0, 1, 0, 0, 1, 1, 0, 0, 1, 0, 0] Bfarkas_table_without) [(.cond (.tmp 66) .skip (spine (subC [1, 1, 0, 1, 1, 0, 1, 1, 1, 0, 1, 0, 0, 1, 1, 0, 0, 1, 0, 1, 1, 0] Bfarkas_table_without) [(.cond (.tmp 70) (subC [1, 1, 0, 1, 1, 0, 1, 1, 1, 0, 1, 0, 0, 1, 1, 0, 0, 1, 0, 1, 1, 1, 0] Bfarkas_table_without) (subC [1, 1, 0, 1, 1, 0, 1, 1, 1, 0, 1, 0, 0, 1, 1, 0, 0, 1, 0, 1, 1, 1, 1] Bfarkas_table_without))]))]))])) [(subC [1, 1, 0, 1, 1, 0, 1, 1, 1, 0, 1, 0, 0, 1, 1, 1] Bfarkas_table_without)])])]))), (spine (subC [1, 1, 0, 1, 1, 0, 1, 1, 1, 1, 0] Bfarkas_table_without) [.ret])])])])]) .skip)]), (spine (subC [1, 1, 1, 0, 0] Bfarkas_table_without) [(.block 3 (.loop (spine (subC [1, 1, 1, 0, 1, 0, 0, 0] Bfarkas_table_without) [(spine (.cond (.tmp 91) .skip (.exit 3)) [(spine (.block 4 (spine (subC [1, 1, 1, 0, 1, 0, 0, 1, 1, 0, 0, 0] Bfarkas_table_without) [(spine (subC [1, 1, 1, 0, 1, 0, 0, 1, 1, 0, 0, 1, 0] Bfarkas_table_without) [(.cond (.tmp 99) (subC [1, 1, 1, 0, 1, 0, 0, 1, 1, 0, 0, 1, 1, 0] Bfarkas_table_without) .skip)])])) [(subC [1, 1, 1, 0, 1, 0, 0, 1, 1, 1] Bfarkas_table_without)])])]))), (spine (subC [1, 1, 1, 1, 0, 0] Bfarkas_table_without) [(.block 5 (.loop (spine (subC [1, 1, 1, 1, 0, 1, 0, 0, 0] Bfarkas_table_without) [(spine (.cond (.tmp 109) .skip (.exit 5)) [(spine (.block 6 (spine (subC [1, 1, 1, 1, 0, 1, 0, 0, 1, 1, 0, 0, 0] Bfarkas_table_without) [(spine (subC [1, 1, 1, 1, 0, 1, 0, 0, 1, 1, 0, 0, 1, 0] Bfarkas_table_without) [(.block 7 (.loop (spine (subC [1, 1, 1, 1, 0, 1, 0, 0, 1, 1, 0, 0, 1, 1, 0, 0, 0] Bfarkas_table_without) [(spine (.cond (.tmp 116) .skip (.exit 7)) [(spine (.block 8 (spine (subC [1, 1, 1, 1, 0, 1, 0, 0, 1, 1, 0, 0, 1, 1, 0, 0, 1, 1, 0, 0, 0] Bfarkas_table_without) [(spine (subC [1, 1, 1, 1, 0, 1, 0, 0, 1, 1, 0, 0, 1, 1, 0, 0, 1, 1, 0, 0, 1, 0] Bfarkas_table_without) [(.cond (.tmp 132) (subC [1, 1, 1, 1, 0, 1, 0, 0, 1, 1, 0, 0, 1, 1, 0, 0, 1, 1, 0, 0, 1, 1, 0] Bfarkas_table_without) .skip)])])) [(subC [1, 1, 1, 1, 0, 1, 0, 0, 1, 1, 0, 0, 1, 1, 0, 0, 1, 1, 1] Bfarkas_table_without)])])])))])])) [(subC [1, 1, 1, 1, 0, 1, 0, 0, 1, 1, 1] Bfarkas_table_without)])])]))), (spine (subC [1, 1, 1, 1, 1, 0] Bfarkas_table_without) [.ret])])])])])])) (by kernel_rfl) (Nat.le_of_ble_eq_true (by kernel_rfl)) fun cx hd hi hk => ?_
  show AWp prog cx _ _ ⟨160, [(0, .agg [vi a1.1, .d (.sl t_farkas_row) a1.2]), (1, vi a2)], []⟩
  replace hk : cx.E.len = 0 := hk
  unfold farkas_table_without.wp at h
  refine awp_spine ?_
  refine awp_rc tab [1, 2, 4] [] [] [0] [] ⟨160, [(1, vi a2), (2, .er [vi a1.1, .d (.sl t_farkas_row) a1.2]), (4, .ref 0 0 0)], [.box [vi (0 : Int), .nils]]⟩ (by kernel_rfl) (trivial) ?_
  refine then_n (spine_c ?_)
  refine awp_spine ?_
  refine awp_rc tab [1, 2, 4, 6] [] [] [] [] ⟨160, [(1, vi a2), (2, .er [vi a1.1, .d (.sl t_farkas_row) a1.2]), (4, .ref 0 0 0), (6, .nils)], [.box [vi (0 : Int), .nils]]⟩ (by kernel_rfl) (trivial) ?_
  refine then_n (spine_c ?_)
  refine awp_spine ?_
  obtain ⟨o1, h⟩ := h
  refine awp_rc tab [1, 2, 4, 6, 7] [] [(2, .dat (vi (farkas_table_solver.fn a1 a2)))] [] [OkC prog 78 [.agg [vi a1.1, .d (.sl t_farkas_row) a1.2], vi a2] (vi (farkas_table_solver.fn a1 a2))] ⟨160, [(1, vi a2), (2, .er [vi a1.1, .d (.sl t_farkas_row) a1.2]), (4, .ref 0 0 0), (6, .nils), (7, vi (farkas_table_solver.fn a1 a2))], [.box [vi (0 : Int), .nils]]⟩ (by kernel_rfl) (AllP.of (ok_farkas_table_solver a1 a2 (o1)) trivial) ?_
  refine then_n (spine_c ?_)
  refine awp_abs (fun (x1 : Int) => ⟨160, [(1, vi a2), (2, .er [vi a1.1, .d (.sl t_farkas_row) a1.2]), (4, .ref 0 0 0), (6, .nils), (7, vi x1)], [.box [vi (0 : Int), .nils]]⟩) (farkas_table_solver.fn a1 a2) ?_
  intro x1 hx1
  replace h := h x1 hx1
  refine awp_spine ?_
  refine awp_rc tab [1, 2, 4, 6, 7, 23] [] [] [] [] ⟨160, [(1, vi a2), (2, .er [vi a1.1, .d (.sl t_farkas_row) a1.2]), (4, .ref 0 0 0), (6, .nils), (7, vi x1), (23, vb (decide (x1 ≥ (0 : Int))))], [.box [vi (0 : Int), .nils]]⟩ (by kernel_rfl) (trivial) ?_
  refine then_n (spine_c ?_)
  refine awp_cond (b := decide (x1 ≥ (0 : Int))) (by kernel_rfl) (fun hb => ?_) (fun hb => ?_)
  · replace h := h.1 (of_decide_eq_true hb)
    refine awp_spine ?_
    obtain ⟨o2, h⟩ := h
    refine awp_rc tab [1, 2, 4, 6, 7, 8] [] [] [] [(0 : Int) ≤ x1 ∧ x1 < (a1.2.length : Int)] ⟨160, [(1, vi a2), (2, .er [vi a1.1, .d (.sl t_farkas_row) a1.2]), (4, .ref 0 0 0), (6, .nils), (7, vi x1), (8, .ref 1 0 0)], [.box [vi (0 : Int), .nils], .box [vb ((a1.2.getD (Int.toNat x1) d_farkas_row).1), .d (.sl (.int .i64)) ((a1.2.getD (Int.toNat x1) d_farkas_row).2)]]⟩ (by kernel_rfl) (AllP.of (o2) trivial) ?_
    refine then_n (spine_c ?_)
    refine awp_abs (fun (x2 : farkas_row) => ⟨160, [(1, vi a2), (2, .er [vi a1.1, .d (.sl t_farkas_row) a1.2]), (4, .ref 0 0 0), (6, .nils), (7, vi x1), (8, .ref 1 0 0)], [.box [vi (0 : Int), .nils], .box [vb x2.1, .d (.sl (.int .i64)) x2.2]]⟩) (a1.2.getD (Int.toNat x1) d_farkas_row) ?_
    intro x2 hx2
    replace h := h x2 hx2
    refine awp_spine ?_
    obtain ⟨o3, h⟩ := h
    refine awp_dr tab mixed [1, 2, 4, 6, 7, 8, 9, 10] [] [] [] ⟨[[], [0], [], [0, 1, 2], [0, 1, 2, 3], [], [0, 1, 2, 3, 4, 5]], [.ref 1 0 1, .d (.sl (.int .i64)) x2.2, vi a2, .er [vi (gI x2.2 a2)], vi (gI x2.2 a2), vi (1 : Int), vi (gI x2.2 a2)], [none, none, none, some ((0 : Int) ≤ a2 ∧ a2 < (x2.2.length : Int)), none, none, none], [], [([], [.box [vi (0 : Int), .nils], .box [vb x2.1, .d (.sl (.int .i64)) x2.2]])]⟩ ⟨160, [(1, vi a2), (2, .er [vi a1.1, .d (.sl t_farkas_row) a1.2]), (4, .ref 0 0 0), (6, .nils), (7, vi x1), (8, .ref 1 0 0), (9, vi (1 : Int)), (10, vi (gI x2.2 a2))], [.box [vi (0 : Int), .nils], .box [vb x2.1, .d (.sl (.int .i64)) x2.2]]⟩ (by kernel_rfl) (AllO.n (AllO.n (AllO.n (AllO.s (o3) (AllO.n (AllO.n (AllO.n (AllO.e)))))))) ?_
    refine then_n (spine_c ?_)
    refine awp_spine ?_
    refine awp_rc tab [1, 2, 4, 6, 7, 8, 9, 10, 35] [] [] [] [] ⟨160, [(1, vi a2), (2, .er [vi a1.1, .d (.sl t_farkas_row) a1.2]), (4, .ref 0 0 0), (6, .nils), (7, vi x1), (8, .ref 1 0 0), (9, vi (1 : Int)), (10, vi (gI x2.2 a2)), (35, vb (decide ((gI x2.2 a2) < (0 : Int))))], [.box [vi (0 : Int), .nils], .box [vb x2.1, .d (.sl (.int .i64)) x2.2]]⟩ (by kernel_rfl) (trivial) ?_
    refine then_n (spine_c ?_)
    obtain ⟨R5, hA5, hB5⟩ := h
    refine awp_meet (fun s' => ∃ (x3 : Int) (x4 : Int), R5 x3 x4 ∧ Wk cx s' ⟨160, [(1, vi a2), (2, .er [vi a1.1, .d (.sl t_farkas_row) a1.2]), (4, .ref 0 0 0), (6, .nils), (7, vi x1), (8, .ref 1 0 0), (9, vi x3), (10, vi x4)], [.box [vi (0 : Int), .nils], .box [vb x2.1, .d (.sl (.int .i64)) x2.2]]⟩) ?_ ?_
    · have h := hA5
      refine awp_cond (b := decide ((gI x2.2 a2) < (0 : Int))) (by kernel_rfl) (fun hb => ?_) (fun hb => ?_)
      · replace h := h.1 (of_decide_eq_true hb)
        obtain ⟨o4, h⟩ := h
        refine awp_rc tab [1, 2, 4, 6, 7, 8, 9, 10] [] [] [] [-9223372036854775808 ≤ -(gI x2.2 a2) ∧ -(gI x2.2 a2) ≤ 9223372036854775807] ⟨160, [(1, vi a2), (2, .er [vi a1.1, .d (.sl t_farkas_row) a1.2]), (4, .ref 0 0 0), (6, .nils), (7, vi x1), (8, .ref 1 0 0), (9, vi (-1)), (10, vi (-(gI x2.2 a2)))], [.box [vi (0 : Int), .nils], .box [vb x2.1, .d (.sl (.int .i64)) x2.2]]⟩ (by kernel_rfl) (AllP.of (o4) trivial) ?_
        refine then_n (?_)
        exact ⟨(-1), -(gI x2.2 a2), h, wk_ghosts hk (l := [.keep [1, 2, 4, 6, 7, 8, 9, 10], .keep [1, 2, 4, 6, 7, 8, 9, 10], .keep [1, 2, 4, 6, 7, 8, 9, 10]]) (by kernel_rfl)⟩
      · replace h := h.2 (of_decide_eq_false hb)
        refine awp_skip (then_n (?_))
        exact ⟨1, gI x2.2 a2, h, wk_ghosts hk (l := [.keep [1, 2, 4, 6, 7, 8, 9, 10], .keep [1, 2, 4, 6, 7, 8, 9, 10], .keep [1, 2, 4, 6, 7, 8, 9, 10]]) (by kernel_rfl)⟩
    · rintro s' ⟨x3, x4, hx5, hw5⟩
      have h := hB5 x3 x4 hx5
      refine spine_c (awp_wk hw5 ?_)
      refine awp_spine ?_
      refine awp_rc tab [1, 2, 4, 6, 7, 8, 9, 10, 39, 40, 41] [] [] [] [] ⟨160, [(1, vi a2), (2, .er [vi a1.1, .d (.sl t_farkas_row) a1.2]), (4, .ref 0 0 0), (6, .nils), (7, vi x1), (8, .ref 1 0 0), (9, vi x3), (10, vi x4), (39, .d (.sl t_farkas_row) a1.2), (40, vi (a1.2.length : Int)), (41, vi (0 : Int))], [.box [vi (0 : Int), .nils], .box [vb x2.1, .d (.sl (.int .i64)) x2.2]]⟩ (by kernel_rfl) (trivial) ?_
      refine then_n (spine_c ?_)
      refine awp_len 2 [1] (T := t_farkas_row) (l := a1.2) (by kernel_rfl) fun hl => ?_
      replace h := h hl
      refine awp_block ?_
      obtain ⟨I12, ⟨n12a, hz12⟩, hI12⟩ := h
      refine awp_loopN (fun n s => ∃ (x8 : Int) (x9 : (List farkas_row)), I12 n x8 x9 ∧ s = ⟨160, [(1, vi a2), (2, .er [vi a1.1, .d (.sl t_farkas_row) a1.2]), (4, .ref 0 0 0), (6, .osl 2 0), (7, vi x1), (8, .ref 1 0 0), (9, vi x3), (10, vi x4), (39, .d (.sl t_farkas_row) a1.2), (40, vi (a1.2.length : Int)), (41, vi x8)], [.box [vi (0 : Int), .nils], .box [vb x2.1, .d (.sl (.int .i64)) x2.2], .row t_farkas_row x9 0]⟩) (n := n12a) (s0 := ⟨160, [(1, vi a2), (2, .er [vi a1.1, .d (.sl t_farkas_row) a1.2]), (4, .ref 0 0 0), (6, .osl 2 0), (7, vi x1), (8, .ref 1 0 0), (9, vi x3), (10, vi x4), (39, .d (.sl t_farkas_row) a1.2), (40, vi (a1.2.length : Int)), (41, vi (0 : Int))], [.box [vi (0 : Int), .nils], .box [vb x2.1, .d (.sl (.int .i64)) x2.2], .row t_farkas_row ([] : List farkas_row) 0]⟩) (wk_ghosts hk (l := [.keep [1, 2, 4, 6, 7, 8, 9, 10, 39, 40, 41], .adopt 6 t_farkas_row, .keep [1, 2, 4, 6, 7, 8, 9, 10, 39, 40, 41], .keep [1, 2, 4, 6, 7, 8, 9, 10, 39, 40, 41], .keep [1, 2, 4, 6, 7, 8, 9, 10, 39, 40, 41]]) (by kernel_rfl)) ⟨0, ([] : List farkas_row), hz12, rfl⟩ ?_
      rintro n12 s ⟨x8, x9, hx12, rfl⟩
      have h := hI12 n12 x8 x9 hx12
      refine awp_spine ?_
      refine awp_rc tab [1, 2, 4, 6, 7, 8, 9, 10, 39, 40, 41, 42] [] [] [] [] ⟨160, [(1, vi a2), (2, .er [vi a1.1, .d (.sl t_farkas_row) a1.2]), (4, .ref 0 0 0), (6, .osl 2 0), (7, vi x1), (8, .ref 1 0 0), (9, vi x3), (10, vi x4), (39, .d (.sl t_farkas_row) a1.2), (40, vi (a1.2.length : Int)), (41, vi x8), (42, vb (decide (x8 < (a1.2.length : Int))))], [.box [vi (0 : Int), .nils], .box [vb x2.1, .d (.sl (.int .i64)) x2.2], .row t_farkas_row x9 0]⟩ (by kernel_rfl) (trivial) ?_
      refine then_n (spine_c ?_)
      refine awp_spine ?_
      refine awp_cond (b := decide (x8 < (a1.2.length : Int))) (by kernel_rfl) (fun hb => ?_) (fun hb => ?_)
      · replace h := h.1 (of_decide_eq_true hb)
        refine awp_skip (then_n (spine_c ?_))
        refine awp_spine ?_
        refine awp_block ?_
        refine awp_spine ?_
        obtain ⟨o5, h⟩ := h
        refine awp_rc tab [1, 2, 4, 6, 7, 8, 9, 10, 11, 12, 39, 40, 41] [] [] [] [(0 : Int) ≤ x8 ∧ x8 < (a1.2.length : Int)] ⟨160, [(1, vi a2), (2, .er [vi a1.1, .d (.sl t_farkas_row) a1.2]), (4, .ref 0 0 0), (6, .osl 2 0), (7, vi x1), (8, .ref 1 0 0), (9, vi x3), (10, vi x4), (11, vi x8), (12, .ref 3 0 0), (39, .d (.sl t_farkas_row) a1.2), (40, vi (a1.2.length : Int)), (41, vi x8)], [.box [vi (0 : Int), .nils], .box [vb x2.1, .d (.sl (.int .i64)) x2.2], .row t_farkas_row x9 0, .box [vb ((a1.2.getD (Int.toNat x8) d_farkas_row).1), .d (.sl (.int .i64)) ((a1.2.getD (Int.toNat x8) d_farkas_row).2)]]⟩ (by kernel_rfl) (AllP.of (o5) trivial) ?_
        refine then_n (spine_c ?_)
        refine awp_abs (fun (x13 : farkas_row) => ⟨160, [(1, vi a2), (2, .er [vi a1.1, .d (.sl t_farkas_row) a1.2]), (4, .ref 0 0 0), (6, .osl 2 0), (7, vi x1), (8, .ref 1 0 0), (9, vi x3), (10, vi x4), (11, vi x8), (12, .ref 3 0 0), (39, .d (.sl t_farkas_row) a1.2), (40, vi (a1.2.length : Int)), (41, vi x8)], [.box [vi (0 : Int), .nils], .box [vb x2.1, .d (.sl (.int .i64)) x2.2], .row t_farkas_row x9 0, .box [vb x13.1, .d (.sl (.int .i64)) x13.2]]⟩) (a1.2.getD (Int.toNat x8) d_farkas_row) ?_
        intro x13 hx13
        replace h := h x13 hx13
        refine awp_block ?_
        refine awp_spine ?_
        refine awp_rc tab [1, 2, 4, 6, 7, 8, 9, 10, 12, 39, 40, 41, 66] [] [] [] [] ⟨160, [(1, vi a2), (2, .er [vi a1.1, .d (.sl t_farkas_row) a1.2]), (4, .ref 0 0 0), (6, .osl 2 0), (7, vi x1), (8, .ref 1 0 0), (9, vi x3), (10, vi x4), (12, .ref 3 0 0), (39, .d (.sl t_farkas_row) a1.2), (40, vi (a1.2.length : Int)), (41, vi x8), (66, vb (x8 == x1))], [.box [vi (0 : Int), .nils], .box [vb x2.1, .d (.sl (.int .i64)) x2.2], .row t_farkas_row x9 0, .box [vb x13.1, .d (.sl (.int .i64)) x13.2]]⟩ (by kernel_rfl) (trivial) ?_
        refine then_n (spine_c ?_)
        refine awp_cond (b := x8 == x1) (by kernel_rfl) (fun hb => ?_) (fun hb => ?_)
        · replace h := h.1 (eq_of_beq hb)
          refine awp_skip (then_n (spine_e (blk_n (then_n (spine_e (blk_n (then_n (spine_c ?_))))))))
          obtain ⟨o6, h⟩ := h
          refine awp_rc tab [1, 2, 4, 6, 7, 8, 9, 10, 39, 40, 41] [] [] [] [-9223372036854775808 ≤ x8 + (1 : Int) ∧ x8 + (1 : Int) ≤ 9223372036854775807] ⟨160, [(1, vi a2), (2, .er [vi a1.1, .d (.sl t_farkas_row) a1.2]), (4, .ref 0 0 0), (6, .osl 2 0), (7, vi x1), (8, .ref 1 0 0), (9, vi x3), (10, vi x4), (39, .d (.sl t_farkas_row) a1.2), (40, vi (a1.2.length : Int)), (41, vi (x8 + (1 : Int)))], [.box [vi (0 : Int), .nils], .box [vb x2.1, .d (.sl (.int .i64)) x2.2], .row t_farkas_row x9 0, .box [vb x13.1, .d (.sl (.int .i64)) x13.2]]⟩ (by kernel_rfl) (AllP.of (o6) trivial) ?_
          refine then_n (spine_e (then_n (spine_e (then_n (spine_e (then_n (?_)))))))
          obtain ⟨m, hm, h⟩ := h
          exact ⟨m, hm, ⟨160, [(1, vi a2), (2, .er [vi a1.1, .d (.sl t_farkas_row) a1.2]), (4, .ref 0 0 0), (6, .osl 2 0), (7, vi x1), (8, .ref 1 0 0), (9, vi x3), (10, vi x4), (39, .d (.sl t_farkas_row) a1.2), (40, vi (a1.2.length : Int)), (41, vi (x8 + (1 : Int)))], [.box [vi (0 : Int), .nils], .box [vb x2.1, .d (.sl (.int .i64)) x2.2], .row t_farkas_row x9 0]⟩, wk_ghosts hk (l := [.keep [1, 2, 4, 6, 7, 8, 9, 10, 39, 40, 41], .keep [1, 2, 4, 6, 7, 8, 9, 10, 39, 40, 41], .cut 3, .keep [1, 2, 4, 6, 7, 8, 9, 10, 39, 40, 41]]) (by kernel_rfl), x8 + (1 : Int), x9, h, rfl⟩
        · replace h := h.2 (ne_of_beq_false hb)
          refine awp_spine ?_
          obtain ⟨o7, h⟩ := h
          refine awp_rc tab [1, 2, 4, 6, 7, 8, 9, 10, 12, 39, 40, 41, 70] [] [] [] [(0 : Int) ≤ a2 ∧ a2 < (x13.2.length : Int)] ⟨160, [(1, vi a2), (2, .er [vi a1.1, .d (.sl t_farkas_row) a1.2]), (4, .ref 0 0 0), (6, .osl 2 0), (7, vi x1), (8, .ref 1 0 0), (9, vi x3), (10, vi x4), (12, .ref 3 0 0), (39, .d (.sl t_farkas_row) a1.2), (40, vi (a1.2.length : Int)), (41, vi x8), (70, vb ((gI x13.2 a2) == (0 : Int)))], [.box [vi (0 : Int), .nils], .box [vb x2.1, .d (.sl (.int .i64)) x2.2], .row t_farkas_row x9 0, .box [vb x13.1, .d (.sl (.int .i64)) x13.2]]⟩ (by kernel_rfl) (AllP.of (o7) trivial) ?_
          refine then_n (spine_c ?_)
          refine awp_cond (b := (gI x13.2 a2) == (0 : Int)) (by kernel_rfl) (fun hb => ?_) (fun hb => ?_)
          · replace h := h.1 (eq_of_beq hb)
            obtain ⟨o8, h⟩ := h
            refine awp_rc tab [1, 2, 4, 6, 7, 8, 9, 10, 39, 40, 41] [] [] [2] [1 * 2 ≤ 16777216, (x9.length + [x13].length) * 32 ≤ 140737488355328 ∧ x9.length + [x13].length ≤ 9223372036854775807] ⟨160, [(1, vi a2), (2, .er [vi a1.1, .d (.sl t_farkas_row) a1.2]), (4, .ref 0 0 0), (6, .osl 2 1), (7, vi x1), (8, .ref 1 0 0), (9, vi x3), (10, vi x4), (39, .d (.sl t_farkas_row) a1.2), (40, vi (a1.2.length : Int)), (41, vi x8)], [.box [vi (0 : Int), .nils], .box [vb x2.1, .d (.sl (.int .i64)) x2.2], .row t_farkas_row (x9 ++ [x13]) 1, .box [vb x13.1, .d (.sl (.int .i64)) x13.2]]⟩ (by kernel_rfl) (AllP.of (by decide) (AllP.of (o8) trivial)) ?_
            refine then_n (spine_e (then_n (spine_e (blk_n (then_n (spine_e (blk_n (then_n (spine_c ?_)))))))))
            obtain ⟨o9, h⟩ := h
            refine awp_rc tab [1, 2, 4, 6, 7, 8, 9, 10, 39, 40, 41] [] [] [] [-9223372036854775808 ≤ x8 + (1 : Int) ∧ x8 + (1 : Int) ≤ 9223372036854775807] ⟨160, [(1, vi a2), (2, .er [vi a1.1, .d (.sl t_farkas_row) a1.2]), (4, .ref 0 0 0), (6, .osl 2 1), (7, vi x1), (8, .ref 1 0 0), (9, vi x3), (10, vi x4), (39, .d (.sl t_farkas_row) a1.2), (40, vi (a1.2.length : Int)), (41, vi (x8 + (1 : Int)))], [.box [vi (0 : Int), .nils], .box [vb x2.1, .d (.sl (.int .i64)) x2.2], .row t_farkas_row (x9 ++ [x13]) 1, .box [vb x13.1, .d (.sl (.int .i64)) x13.2]]⟩ (by kernel_rfl) (AllP.of (o9) trivial) ?_
            refine then_n (spine_e (then_n (spine_e (then_n (spine_e (then_n (?_)))))))
            obtain ⟨m, hm, h⟩ := h
            exact ⟨m, hm, ⟨160, [(1, vi a2), (2, .er [vi a1.1, .d (.sl t_farkas_row) a1.2]), (4, .ref 0 0 0), (6, .osl 2 0), (7, vi x1), (8, .ref 1 0 0), (9, vi x3), (10, vi x4), (39, .d (.sl t_farkas_row) a1.2), (40, vi (a1.2.length : Int)), (41, vi (x8 + (1 : Int)))], [.box [vi (0 : Int), .nils], .box [vb x2.1, .d (.sl (.int .i64)) x2.2], .row t_farkas_row (x9 ++ [x13]) 0]⟩, wk_ghosts hk (l := [.keep [1, 2, 4, 6, 7, 8, 9, 10, 39, 40, 41], .keep [1, 2, 4, 6, 7, 8, 9, 10, 39, 40, 41], .cut 3, .reset 2, .keep [1, 2, 4, 6, 7, 8, 9, 10, 39, 40, 41]]) (by kernel_rfl), x8 + (1 : Int), x9 ++ [x13], h, rfl⟩
          · replace h := h.2 (ne_of_beq_false hb)
            obtain ⟨o10, o11, o12, o13, o14, h⟩ := h
            refine awp_dr tab mixed [1, 2, 4, 6, 7, 8, 9, 10, 39, 40, 41] [] [(16, .dat (.d (.sl (.int .i64)) (farkas_vector_int_sum.fn x13.2 x4 ((-x3) * (gI x13.2 a2)) x2.2)))] [18] ⟨[[], [], [1], [], [3], [], [], [6], [], [8], [], [8, 9, 10], [8, 9, 10, 11], [6, 7, 8, 9, 10, 11, 12], [], [14], [3, 4, 5, 6, 7, 8, 9, 10, 11, 12, 13, 14, 15], [1, 2, 3, 4, 5, 6, 7, 8, 9, 10, 11, 12, 13, 14, 15, 16], [1, 2, 3, 4, 5, 6, 7, 8, 9, 10, 11, 12, 13, 14, 15, 16, 17], [0, 1, 2, 3, 4, 5, 6, 7, 8, 9, 10, 11, 12, 13, 14, 15, 16, 17, 18], [0, 1, 2, 3, 4, 5, 6, 7, 8, 9, 10, 11, 12, 13, 14, 15, 16, 17, 18, 19]], [.osl 2 0, .ref 3 0 0, vb x13.1, .ref 3 0 1, .d (.sl (.int .i64)) x13.2, vi x4, vi x3, vi (-x3), .ref 3 0 1, .d (.sl (.int .i64)) x13.2, vi a2, .er [vi (gI x13.2 a2)], vi (gI x13.2 a2), vi ((-x3) * (gI x13.2 a2)), .ref 1 0 1, .d (.sl (.int .i64)) x2.2, .d (.sl (.int .i64)) (farkas_vector_int_sum.fn x13.2 x4 ((-x3) * (gI x13.2 a2)) x2.2), .agg [vb x13.1, .d (.sl (.int .i64)) (farkas_vector_int_sum.fn x13.2 x4 ((-x3) * (gI x13.2 a2)) x2.2)], .d (.sl t_farkas_row) [(x13.1, farkas_vector_int_sum.fn x13.2 x4 ((-x3) * (gI x13.2 a2)) x2.2)], .osl 2 1, .osl 2 1], [none, none, none, none, none, none, none, some (-9223372036854775808 ≤ -x3 ∧ -x3 ≤ 9223372036854775807), none, none, none, some ((0 : Int) ≤ a2 ∧ a2 < (x13.2.length : Int)), none, some (-9223372036854775808 ≤ (-x3) * (gI x13.2 a2) ∧ (-x3) * (gI x13.2 a2) ≤ 9223372036854775807), none, none, some (OkC prog 79 [.d (.sl (.int .i64)) x13.2, vi x4, vi ((-x3) * (gI x13.2 a2)), .d (.sl (.int .i64)) x2.2] (.d (.sl (.int .i64)) (farkas_vector_int_sum.fn x13.2 x4 ((-x3) * (gI x13.2 a2)) x2.2))), none, some (1 * 2 ≤ 16777216), some ((x9.length + [(x13.1, farkas_vector_int_sum.fn x13.2 x4 ((-x3) * (gI x13.2 a2)) x2.2)].length) * 32 ≤ 140737488355328 ∧ x9.length + [(x13.1, farkas_vector_int_sum.fn x13.2 x4 ((-x3) * (gI x13.2 a2)) x2.2)].length ≤ 9223372036854775807), none], [19], [([], [.box [vi (0 : Int), .nils], .box [vb x2.1, .d (.sl (.int .i64)) x2.2], .row t_farkas_row x9 0, .box [vb x13.1, .d (.sl (.int .i64)) x13.2]]), ([19], [.box [vi (0 : Int), .nils], .box [vb x2.1, .d (.sl (.int .i64)) x2.2], .row t_farkas_row (x9 ++ [(x13.1, farkas_vector_int_sum.fn x13.2 x4 ((-x3) * (gI x13.2 a2)) x2.2)]) 1, .box [vb x13.1, .d (.sl (.int .i64)) x13.2]])]⟩ ⟨160, [(1, vi a2), (2, .er [vi a1.1, .d (.sl t_farkas_row) a1.2]), (4, .ref 0 0 0), (6, .osl 2 1), (7, vi x1), (8, .ref 1 0 0), (9, vi x3), (10, vi x4), (39, .d (.sl t_farkas_row) a1.2), (40, vi (a1.2.length : Int)), (41, vi x8)], [.box [vi (0 : Int), .nils], .box [vb x2.1, .d (.sl (.int .i64)) x2.2], .row t_farkas_row (x9 ++ [(x13.1, farkas_vector_int_sum.fn x13.2 x4 ((-x3) * (gI x13.2 a2)) x2.2)]) 1, .box [vb x13.1, .d (.sl (.int .i64)) x13.2]]⟩ (by kernel_rfl) (AllO.n (AllO.n (AllO.n (AllO.n (AllO.n (AllO.n (AllO.n (AllO.s (o10) (AllO.n (AllO.n (AllO.n (AllO.s (o11) (AllO.n (AllO.s (o12) (AllO.n (AllO.n (AllO.s (ok_farkas_vector_int_sum x13.2 x4 ((-x3) * (gI x13.2 a2)) x2.2 (o13)) (AllO.n (AllO.s (by decide) (AllO.s (o14) (AllO.n (AllO.e)))))))))))))))))))))) ?_
            refine then_n (spine_e (then_n (spine_e (blk_n (then_n (spine_e (blk_n (then_n (spine_c ?_)))))))))
            refine awp_abs (fun (x14 : (List farkas_row)) => ⟨160, [(1, vi a2), (2, .er [vi a1.1, .d (.sl t_farkas_row) a1.2]), (4, .ref 0 0 0), (6, .osl 2 1), (7, vi x1), (8, .ref 1 0 0), (9, vi x3), (10, vi x4), (39, .d (.sl t_farkas_row) a1.2), (40, vi (a1.2.length : Int)), (41, vi x8)], [.box [vi (0 : Int), .nils], .box [vb x2.1, .d (.sl (.int .i64)) x2.2], .row t_farkas_row x14 1, .box [vb x13.1, .d (.sl (.int .i64)) x13.2]]⟩) (x9 ++ [(x13.1, farkas_vector_int_sum.fn x13.2 x4 ((-x3) * (gI x13.2 a2)) x2.2)]) ?_
            intro x14 hx14
            replace h := h x14 hx14
            obtain ⟨o15, h⟩ := h
            refine awp_rc tab [1, 2, 4, 6, 7, 8, 9, 10, 39, 40, 41] [] [] [] [-9223372036854775808 ≤ x8 + (1 : Int) ∧ x8 + (1 : Int) ≤ 9223372036854775807] ⟨160, [(1, vi a2), (2, .er [vi a1.1, .d (.sl t_farkas_row) a1.2]), (4, .ref 0 0 0), (6, .osl 2 1), (7, vi x1), (8, .ref 1 0 0), (9, vi x3), (10, vi x4), (39, .d (.sl t_farkas_row) a1.2), (40, vi (a1.2.length : Int)), (41, vi (x8 + (1 : Int)))], [.box [vi (0 : Int), .nils], .box [vb x2.1, .d (.sl (.int .i64)) x2.2], .row t_farkas_row x14 1, .box [vb x13.1, .d (.sl (.int .i64)) x13.2]]⟩ (by kernel_rfl) (AllP.of (o15) trivial) ?_
            refine then_n (spine_e (then_n (spine_e (then_n (spine_e (then_n (?_)))))))
            obtain ⟨m, hm, h⟩ := h
            exact ⟨m, hm, ⟨160, [(1, vi a2), (2, .er [vi a1.1, .d (.sl t_farkas_row) a1.2]), (4, .ref 0 0 0), (6, .osl 2 0), (7, vi x1), (8, .ref 1 0 0), (9, vi x3), (10, vi x4), (39, .d (.sl t_farkas_row) a1.2), (40, vi (a1.2.length : Int)), (41, vi (x8 + (1 : Int)))], [.box [vi (0 : Int), .nils], .box [vb x2.1, .d (.sl (.int .i64)) x2.2], .row t_farkas_row x14 0]⟩, wk_ghosts hk (l := [.keep [1, 2, 4, 6, 7, 8, 9, 10, 39, 40, 41], .keep [1, 2, 4, 6, 7, 8, 9, 10, 39, 40, 41], .cut 3, .reset 2, .keep [1, 2, 4, 6, 7, 8, 9, 10, 39, 40, 41]]) (by kernel_rfl), x8 + (1 : Int), x14, h, rfl⟩
      · replace h := h.2 (of_decide_eq_false hb)
        refine awp_exit (then_x (then_x (then_x (blk_h (then_n (spine_c ?_))))))
        refine awp_spine ?_
        refine awp_gh hk [.freeze 2, .keep [1, 2, 4, 6, 7, 8, 9, 10, 39, 40, 41, 42]] ⟨160, [(1, vi a2), (2, .er [vi a1.1, .d (.sl t_farkas_row) a1.2]), (4, .ref 0 0 0), (6, .d (.sl t_farkas_row) x9), (7, vi x1), (8, .ref 1 0 0), (9, vi x3), (10, vi x4), (39, .d (.sl t_farkas_row) a1.2), (40, vi (a1.2.length : Int)), (41, vi x8), (42, vb (decide (x8 < (a1.2.length : Int))))], [.box [vi (0 : Int), .nils], .box [vb x2.1, .d (.sl (.int .i64)) x2.2], .dead]⟩ (by kernel_rfl) ?_
        obtain ⟨o16, h⟩ := h
        refine awp_rc tab [4, 5] [] [(2, .dat (.tup [.agg [vi (((farkas_table_kept.fn a1 x9).1).1), .d (.sl t_farkas_row) (((farkas_table_kept.fn a1 x9).1).2)], vi ((farkas_table_kept.fn a1 x9).2)]))] [] [OkC prog 80 [.agg [vi a1.1, .d (.sl t_farkas_row) a1.2], .d (.sl t_farkas_row) x9] (.tup [.agg [vi (((farkas_table_kept.fn a1 x9).1).1), .d (.sl t_farkas_row) (((farkas_table_kept.fn a1 x9).1).2)], vi ((farkas_table_kept.fn a1 x9).2)])] ⟨160, [(4, .ref 0 0 0), (5, vi ((farkas_table_kept.fn a1 x9).2))], [.box [vi (((farkas_table_kept.fn a1 x9).1).1), .d (.sl t_farkas_row) (((farkas_table_kept.fn a1 x9).1).2)], .box [vb x2.1, .d (.sl (.int .i64)) x2.2], .dead]⟩ (by kernel_rfl) (AllP.of (ok_farkas_table_kept a1 x9 (o16)) trivial) ?_
        refine then_n (spine_c ?_)
        refine awp_abs (fun (x15 : farkas_table × Int) => ⟨160, [(4, .ref 0 0 0), (5, vi x15.2)], [.box [vi x15.1.1, .d (.sl t_farkas_row) x15.1.2], .box [vb x2.1, .d (.sl (.int .i64)) x2.2], .dead]⟩) (farkas_table_kept.fn a1 x9) ?_
        intro x15 hx15
        replace h := h x15 hx15
        refine awp_abs (fun (x16 : Int) => ⟨160, [(4, .ref 0 0 0), (5, vi x15.2)], [.box [vi x16, .d (.sl t_farkas_row) x15.1.2], .box [vb x2.1, .d (.sl (.int .i64)) x2.2], .dead]⟩) (x15.1.1) ?_
        intro x16 hx16
        replace h := h x16 hx16
        refine awp_abs (fun (x17 : (List farkas_row)) => ⟨160, [(4, .ref 0 0 0), (5, vi x15.2)], [.box [vi x16, .d (.sl t_farkas_row) x17], .box [vb x2.1, .d (.sl (.int .i64)) x2.2], .dead]⟩) (x15.1.2) ?_
        intro x17 hx17
        replace h := h x17 hx17
        refine awp_ret (then_r (then_r (then_r (then_r (then_r (then_r (then_r (then_r (then_r (?_))))))))))
        exact ret_r (m := 0) (r := .tup [.agg [vi ((((x16, x17), x15.2).1).1), .d (.sl t_farkas_row) ((((x16, x17), x15.2).1).2)], vi (((x16, x17), x15.2).2)]) (objs := []) hk [.keep [4, 5]] ⟨160, [(4, .ref 0 0 0), (5, vi x15.2)], [.box [vi x16, .d (.sl t_farkas_row) x17], .box [vb x2.1, .d (.sl (.int .i64)) x2.2], .dead]⟩ (by kernel_rfl) (by kernel_rfl) (Nat.le_refl 0) ⟨((x16, x17), x15.2), rfl, rfl, h⟩
  · replace h := h.2 (of_decide_eq_false hb)
    refine awp_skip (then_n (spine_e (then_n (spine_c ?_))))
    refine awp_spine ?_
    refine awp_rc tab [1, 2, 4, 6, 88, 89, 90] [] [] [] [] ⟨160, [(1, vi a2), (2, .er [vi a1.1, .d (.sl t_farkas_row) a1.2]), (4, .ref 0 0 0), (6, .nils), (88, .d (.sl t_farkas_row) a1.2), (89, vi (a1.2.length : Int)), (90, vi (0 : Int))], [.box [vi (0 : Int), .nils]]⟩ (by kernel_rfl) (trivial) ?_
    refine then_n (spine_c ?_)
    refine awp_len 2 [1] (T := t_farkas_row) (l := a1.2) (by kernel_rfl) fun hl => ?_
    replace h := h hl
    refine awp_block ?_
    obtain ⟨I24, ⟨n24a, hz24⟩, hI24⟩ := h
    refine awp_loopN (fun n s => ∃ (x20 : Int) (x21 : (List farkas_row)), I24 n x20 x21 ∧ s = ⟨160, [(1, vi a2), (2, .er [vi a1.1, .d (.sl t_farkas_row) a1.2]), (4, .ref 0 0 0), (6, .osl 1 0), (88, .d (.sl t_farkas_row) a1.2), (89, vi (a1.2.length : Int)), (90, vi x20)], [.box [vi (0 : Int), .nils], .row t_farkas_row x21 0]⟩) (n := n24a) (s0 := ⟨160, [(1, vi a2), (2, .er [vi a1.1, .d (.sl t_farkas_row) a1.2]), (4, .ref 0 0 0), (6, .osl 1 0), (88, .d (.sl t_farkas_row) a1.2), (89, vi (a1.2.length : Int)), (90, vi (0 : Int))], [.box [vi (0 : Int), .nils], .row t_farkas_row ([] : List farkas_row) 0]⟩) (wk_ghosts hk (l := [.keep [1, 2, 4, 6, 88, 89, 90], .adopt 6 t_farkas_row, .keep [1, 2, 4, 6, 88, 89, 90], .keep [1, 2, 4, 6, 88, 89, 90], .keep [1, 2, 4, 6, 88, 89, 90]]) (by kernel_rfl)) ⟨0, ([] : List farkas_row), hz24, rfl⟩ ?_
    rintro n24 s ⟨x20, x21, hx24, rfl⟩
    have h := hI24 n24 x20 x21 hx24
    refine awp_spine ?_
    refine awp_rc tab [1, 2, 4, 6, 88, 89, 90, 91] [] [] [] [] ⟨160, [(1, vi a2), (2, .er [vi a1.1, .d (.sl t_farkas_row) a1.2]), (4, .ref 0 0 0), (6, .osl 1 0), (88, .d (.sl t_farkas_row) a1.2), (89, vi (a1.2.length : Int)), (90, vi x20), (91, vb (decide (x20 < (a1.2.length : Int))))], [.box [vi (0 : Int), .nils], .row t_farkas_row x21 0]⟩ (by kernel_rfl) (trivial) ?_
    refine then_n (spine_c ?_)
    refine awp_spine ?_
    refine awp_cond (b := decide (x20 < (a1.2.length : Int))) (by kernel_rfl) (fun hb => ?_) (fun hb => ?_)
    · replace h := h.1 (of_decide_eq_true hb)
      refine awp_skip (then_n (spine_c ?_))
      refine awp_spine ?_
      refine awp_block ?_
      refine awp_spine ?_
      obtain ⟨o17, h⟩ := h
      refine awp_rc tab [1, 2, 4, 6, 14, 88, 89, 90] [] [] [] [(0 : Int) ≤ x20 ∧ x20 < (a1.2.length : Int)] ⟨160, [(1, vi a2), (2, .er [vi a1.1, .d (.sl t_farkas_row) a1.2]), (4, .ref 0 0 0), (6, .osl 1 0), (14, .ref 2 0 0), (88, .d (.sl t_farkas_row) a1.2), (89, vi (a1.2.length : Int)), (90, vi x20)], [.box [vi (0 : Int), .nils], .row t_farkas_row x21 0, .box [vb ((a1.2.getD (Int.toNat x20) d_farkas_row).1), .d (.sl (.int .i64)) ((a1.2.getD (Int.toNat x20) d_farkas_row).2)]]⟩ (by kernel_rfl) (AllP.of (o17) trivial) ?_
      refine then_n (spine_c ?_)
      refine awp_abs (fun (x25 : farkas_row) => ⟨160, [(1, vi a2), (2, .er [vi a1.1, .d (.sl t_farkas_row) a1.2]), (4, .ref 0 0 0), (6, .osl 1 0), (14, .ref 2 0 0), (88, .d (.sl t_farkas_row) a1.2), (89, vi (a1.2.length : Int)), (90, vi x20)], [.box [vi (0 : Int), .nils], .row t_farkas_row x21 0, .box [vb x25.1, .d (.sl (.int .i64)) x25.2]]⟩) (a1.2.getD (Int.toNat x20) d_farkas_row) ?_
      intro x25 hx25
      replace h := h x25 hx25
      refine awp_spine ?_
      obtain ⟨o18, h⟩ := h
      refine awp_rc tab [1, 2, 4, 6, 14, 88, 89, 90, 99] [] [] [] [(0 : Int) ≤ a2 ∧ a2 < (x25.2.length : Int)] ⟨160, [(1, vi a2), (2, .er [vi a1.1, .d (.sl t_farkas_row) a1.2]), (4, .ref 0 0 0), (6, .osl 1 0), (14, .ref 2 0 0), (88, .d (.sl t_farkas_row) a1.2), (89, vi (a1.2.length : Int)), (90, vi x20), (99, vb ((gI x25.2 a2) == (0 : Int)))], [.box [vi (0 : Int), .nils], .row t_farkas_row x21 0, .box [vb x25.1, .d (.sl (.int .i64)) x25.2]]⟩ (by kernel_rfl) (AllP.of (o18) trivial) ?_
      refine then_n (spine_c ?_)
      refine awp_cond (b := (gI x25.2 a2) == (0 : Int)) (by kernel_rfl) (fun hb => ?_) (fun hb => ?_)
      · replace h := h.1 (eq_of_beq hb)
        obtain ⟨o19, h⟩ := h
        refine awp_rc tab [1, 2, 4, 6, 88, 89, 90] [] [] [2] [1 * 2 ≤ 16777216, (x21.length + [x25].length) * 32 ≤ 140737488355328 ∧ x21.length + [x25].length ≤ 9223372036854775807] ⟨160, [(1, vi a2), (2, .er [vi a1.1, .d (.sl t_farkas_row) a1.2]), (4, .ref 0 0 0), (6, .osl 1 1), (88, .d (.sl t_farkas_row) a1.2), (89, vi (a1.2.length : Int)), (90, vi x20)], [.box [vi (0 : Int), .nils], .row t_farkas_row (x21 ++ [x25]) 1, .box [vb x25.1, .d (.sl (.int .i64)) x25.2]]⟩ (by kernel_rfl) (AllP.of (by decide) (AllP.of (o19) trivial)) ?_
        refine then_n (spine_e (then_n (spine_e (blk_n (then_n (spine_c ?_))))))
        obtain ⟨o20, h⟩ := h
        refine awp_rc tab [1, 2, 4, 6, 88, 89, 90] [] [] [] [-9223372036854775808 ≤ x20 + (1 : Int) ∧ x20 + (1 : Int) ≤ 9223372036854775807] ⟨160, [(1, vi a2), (2, .er [vi a1.1, .d (.sl t_farkas_row) a1.2]), (4, .ref 0 0 0), (6, .osl 1 1), (88, .d (.sl t_farkas_row) a1.2), (89, vi (a1.2.length : Int)), (90, vi (x20 + (1 : Int)))], [.box [vi (0 : Int), .nils], .row t_farkas_row (x21 ++ [x25]) 1, .box [vb x25.1, .d (.sl (.int .i64)) x25.2]]⟩ (by kernel_rfl) (AllP.of (o20) trivial) ?_
        refine then_n (spine_e (then_n (spine_e (then_n (spine_e (then_n (?_)))))))
        obtain ⟨m, hm, h⟩ := h
        exact ⟨m, hm, ⟨160, [(1, vi a2), (2, .er [vi a1.1, .d (.sl t_farkas_row) a1.2]), (4, .ref 0 0 0), (6, .osl 1 0), (88, .d (.sl t_farkas_row) a1.2), (89, vi (a1.2.length : Int)), (90, vi (x20 + (1 : Int)))], [.box [vi (0 : Int), .nils], .row t_farkas_row (x21 ++ [x25]) 0]⟩, wk_ghosts hk (l := [.keep [1, 2, 4, 6, 88, 89, 90], .keep [1, 2, 4, 6, 88, 89, 90], .cut 2, .reset 1, .keep [1, 2, 4, 6, 88, 89, 90]]) (by kernel_rfl), x20 + (1 : Int), x21 ++ [x25], h, rfl⟩
      · replace h := h.2 (ne_of_beq_false hb)
        refine awp_skip (then_n (spine_e (then_n (spine_e (blk_n (then_n (spine_c ?_)))))))
        obtain ⟨o21, h⟩ := h
        refine awp_rc tab [1, 2, 4, 6, 88, 89, 90] [] [] [] [-9223372036854775808 ≤ x20 + (1 : Int) ∧ x20 + (1 : Int) ≤ 9223372036854775807] ⟨160, [(1, vi a2), (2, .er [vi a1.1, .d (.sl t_farkas_row) a1.2]), (4, .ref 0 0 0), (6, .osl 1 0), (88, .d (.sl t_farkas_row) a1.2), (89, vi (a1.2.length : Int)), (90, vi (x20 + (1 : Int)))], [.box [vi (0 : Int), .nils], .row t_farkas_row x21 0, .box [vb x25.1, .d (.sl (.int .i64)) x25.2]]⟩ (by kernel_rfl) (AllP.of (o21) trivial) ?_
        refine then_n (spine_e (then_n (spine_e (then_n (spine_e (then_n (?_)))))))
        obtain ⟨m, hm, h⟩ := h
        exact ⟨m, hm, ⟨160, [(1, vi a2), (2, .er [vi a1.1, .d (.sl t_farkas_row) a1.2]), (4, .ref 0 0 0), (6, .osl 1 0), (88, .d (.sl t_farkas_row) a1.2), (89, vi (a1.2.length : Int)), (90, vi (x20 + (1 : Int)))], [.box [vi (0 : Int), .nils], .row t_farkas_row x21 0]⟩, wk_ghosts hk (l := [.keep [1, 2, 4, 6, 88, 89, 90], .keep [1, 2, 4, 6, 88, 89, 90], .cut 2, .keep [1, 2, 4, 6, 88, 89, 90]]) (by kernel_rfl), x20 + (1 : Int), x21, h, rfl⟩
    · replace h := h.2 (of_decide_eq_false hb)
      refine awp_exit (then_x (then_x (then_x (blk_h (then_n (spine_c ?_))))))
      refine awp_spine ?_
      refine awp_rc tab [1, 2, 4, 6, 106, 107, 108] [] [] [] [] ⟨160, [(1, vi a2), (2, .er [vi a1.1, .d (.sl t_farkas_row) a1.2]), (4, .ref 0 0 0), (6, .osl 1 0), (106, .d (.sl t_farkas_row) a1.2), (107, vi (a1.2.length : Int)), (108, vi (0 : Int))], [.box [vi (0 : Int), .nils], .row t_farkas_row x21 0]⟩ (by kernel_rfl) (trivial) ?_
      refine then_n (spine_c ?_)
      refine awp_len 2 [1] (T := t_farkas_row) (l := a1.2) (by kernel_rfl) fun hl => ?_
      replace h := h hl
      refine awp_block ?_
      obtain ⟨I32, ⟨n32a, hz32⟩, hI32⟩ := h
      refine awp_loopN (fun n s => ∃ (x28 : Int) (x29 : (List farkas_row)), I32 n x28 x29 ∧ s = ⟨160, [(1, vi a2), (2, .er [vi a1.1, .d (.sl t_farkas_row) a1.2]), (4, .ref 0 0 0), (6, .osl 1 0), (106, .d (.sl t_farkas_row) a1.2), (107, vi (a1.2.length : Int)), (108, vi x28)], [.box [vi (0 : Int), .nils], .row t_farkas_row x29 0]⟩) (n := n32a) (s0 := ⟨160, [(1, vi a2), (2, .er [vi a1.1, .d (.sl t_farkas_row) a1.2]), (4, .ref 0 0 0), (6, .osl 1 0), (106, .d (.sl t_farkas_row) a1.2), (107, vi (a1.2.length : Int)), (108, vi (0 : Int))], [.box [vi (0 : Int), .nils], .row t_farkas_row x21 0]⟩) (wk_ghosts hk (l := [.keep [1, 2, 4, 6, 106, 107, 108], .keep [1, 2, 4, 6, 106, 107, 108], .keep [1, 2, 4, 6, 106, 107, 108], .keep [1, 2, 4, 6, 106, 107, 108]]) (by kernel_rfl)) ⟨0, x21, hz32, rfl⟩ ?_
      rintro n32 s ⟨x28, x29, hx32, rfl⟩
      have h := hI32 n32 x28 x29 hx32
      refine awp_spine ?_
      refine awp_rc tab [1, 2, 4, 6, 106, 107, 108, 109] [] [] [] [] ⟨160, [(1, vi a2), (2, .er [vi a1.1, .d (.sl t_farkas_row) a1.2]), (4, .ref 0 0 0), (6, .osl 1 0), (106, .d (.sl t_farkas_row) a1.2), (107, vi (a1.2.length : Int)), (108, vi x28), (109, vb (decide (x28 < (a1.2.length : Int))))], [.box [vi (0 : Int), .nils], .row t_farkas_row x29 0]⟩ (by kernel_rfl) (trivial) ?_
      refine then_n (spine_c ?_)
      refine awp_spine ?_
      refine awp_cond (b := decide (x28 < (a1.2.length : Int))) (by kernel_rfl) (fun hb => ?_) (fun hb => ?_)
      · replace h := h.1 (of_decide_eq_true hb)
        refine awp_skip (then_n (spine_c ?_))
        refine awp_spine ?_
        refine awp_block ?_
        refine awp_spine ?_
        obtain ⟨o22, h⟩ := h
        refine awp_rc tab [1, 2, 4, 6, 16, 106, 107, 108] [] [] [] [(0 : Int) ≤ x28 ∧ x28 < (a1.2.length : Int)] ⟨160, [(1, vi a2), (2, .er [vi a1.1, .d (.sl t_farkas_row) a1.2]), (4, .ref 0 0 0), (6, .osl 1 0), (16, .ref 2 0 0), (106, .d (.sl t_farkas_row) a1.2), (107, vi (a1.2.length : Int)), (108, vi x28)], [.box [vi (0 : Int), .nils], .row t_farkas_row x29 0, .box [vb ((a1.2.getD (Int.toNat x28) d_farkas_row).1), .d (.sl (.int .i64)) ((a1.2.getD (Int.toNat x28) d_farkas_row).2)]]⟩ (by kernel_rfl) (AllP.of (o22) trivial) ?_
        refine then_n (spine_c ?_)
        refine awp_abs (fun (x33 : farkas_row) => ⟨160, [(1, vi a2), (2, .er [vi a1.1, .d (.sl t_farkas_row) a1.2]), (4, .ref 0 0 0), (6, .osl 1 0), (16, .ref 2 0 0), (106, .d (.sl t_farkas_row) a1.2), (107, vi (a1.2.length : Int)), (108, vi x28)], [.box [vi (0 : Int), .nils], .row t_farkas_row x29 0, .box [vb x33.1, .d (.sl (.int .i64)) x33.2]]⟩) (a1.2.getD (Int.toNat x28) d_farkas_row) ?_
        intro x33 hx33
        replace h := h x33 hx33
        refine awp_spine ?_
        refine awp_rc tab [1, 2, 4, 6, 16, 106, 107, 108, 113, 114, 115] [] [] [] [] ⟨160, [(1, vi a2), (2, .er [vi a1.1, .d (.sl t_farkas_row) a1.2]), (4, .ref 0 0 0), (6, .osl 1 0), (16, .ref 2 0 0), (106, .d (.sl t_farkas_row) a1.2), (107, vi (a1.2.length : Int)), (108, vi x28), (113, .d (.sl t_farkas_row) a1.2), (114, vi (a1.2.length : Int)), (115, vi (0 : Int))], [.box [vi (0 : Int), .nils], .row t_farkas_row x29 0, .box [vb x33.1, .d (.sl (.int .i64)) x33.2]]⟩ (by kernel_rfl) (trivial) ?_
        refine then_n (spine_c ?_)
        refine awp_len 2 [1] (T := t_farkas_row) (l := a1.2) (by kernel_rfl) fun hl => ?_
        replace h := h hl
        refine awp_block ?_
        obtain ⟨I40, ⟨n40a, hz40⟩, hI40⟩ := h
        refine awp_loopN (fun n s => ∃ (x36 : Int) (x37 : (List farkas_row)), I40 n x36 x37 ∧ s = ⟨160, [(1, vi a2), (2, .er [vi a1.1, .d (.sl t_farkas_row) a1.2]), (4, .ref 0 0 0), (6, .osl 1 0), (16, .ref 2 0 0), (106, .d (.sl t_farkas_row) a1.2), (107, vi (a1.2.length : Int)), (108, vi x28), (113, .d (.sl t_farkas_row) a1.2), (114, vi (a1.2.length : Int)), (115, vi x36)], [.box [vi (0 : Int), .nils], .row t_farkas_row x37 0, .box [vb x33.1, .d (.sl (.int .i64)) x33.2]]⟩) (n := n40a) (s0 := ⟨160, [(1, vi a2), (2, .er [vi a1.1, .d (.sl t_farkas_row) a1.2]), (4, .ref 0 0 0), (6, .osl 1 0), (16, .ref 2 0 0), (106, .d (.sl t_farkas_row) a1.2), (107, vi (a1.2.length : Int)), (108, vi x28), (113, .d (.sl t_farkas_row) a1.2), (114, vi (a1.2.length : Int)), (115, vi (0 : Int))], [.box [vi (0 : Int), .nils], .row t_farkas_row x29 0, .box [vb x33.1, .d (.sl (.int .i64)) x33.2]]⟩) (wk_ghosts hk (l := [.keep [1, 2, 4, 6, 16, 106, 107, 108, 113, 114, 115], .keep [1, 2, 4, 6, 16, 106, 107, 108, 113, 114, 115], .keep [1, 2, 4, 6, 16, 106, 107, 108, 113, 114, 115], .keep [1, 2, 4, 6, 16, 106, 107, 108, 113, 114, 115]]) (by kernel_rfl)) ⟨0, x29, hz40, rfl⟩ ?_
        rintro n40 s ⟨x36, x37, hx40, rfl⟩
        have h := hI40 n40 x36 x37 hx40
        refine awp_spine ?_
        refine awp_rc tab [1, 2, 4, 6, 16, 106, 107, 108, 113, 114, 115, 116] [] [] [] [] ⟨160, [(1, vi a2), (2, .er [vi a1.1, .d (.sl t_farkas_row) a1.2]), (4, .ref 0 0 0), (6, .osl 1 0), (16, .ref 2 0 0), (106, .d (.sl t_farkas_row) a1.2), (107, vi (a1.2.length : Int)), (108, vi x28), (113, .d (.sl t_farkas_row) a1.2), (114, vi (a1.2.length : Int)), (115, vi x36), (116, vb (decide (x36 < (a1.2.length : Int))))], [.box [vi (0 : Int), .nils], .row t_farkas_row x37 0, .box [vb x33.1, .d (.sl (.int .i64)) x33.2]]⟩ (by kernel_rfl) (trivial) ?_
        refine then_n (spine_c ?_)
        refine awp_spine ?_
        refine awp_cond (b := decide (x36 < (a1.2.length : Int))) (by kernel_rfl) (fun hb => ?_) (fun hb => ?_)
        · replace h := h.1 (of_decide_eq_true hb)
          refine awp_skip (then_n (spine_c ?_))
          refine awp_spine ?_
          refine awp_block ?_
          refine awp_spine ?_
          obtain ⟨o23, h⟩ := h
          refine awp_rc tab [1, 2, 4, 6, 16, 18, 106, 107, 108, 113, 114, 115] [] [] [] [(0 : Int) ≤ x36 ∧ x36 < (a1.2.length : Int)] ⟨160, [(1, vi a2), (2, .er [vi a1.1, .d (.sl t_farkas_row) a1.2]), (4, .ref 0 0 0), (6, .osl 1 0), (16, .ref 2 0 0), (18, .ref 3 0 0), (106, .d (.sl t_farkas_row) a1.2), (107, vi (a1.2.length : Int)), (108, vi x28), (113, .d (.sl t_farkas_row) a1.2), (114, vi (a1.2.length : Int)), (115, vi x36)], [.box [vi (0 : Int), .nils], .row t_farkas_row x37 0, .box [vb x33.1, .d (.sl (.int .i64)) x33.2], .box [vb ((a1.2.getD (Int.toNat x36) d_farkas_row).1), .d (.sl (.int .i64)) ((a1.2.getD (Int.toNat x36) d_farkas_row).2)]]⟩ (by kernel_rfl) (AllP.of (o23) trivial) ?_
          refine then_n (spine_c ?_)
          refine awp_abs (fun (x41 : farkas_row) => ⟨160, [(1, vi a2), (2, .er [vi a1.1, .d (.sl t_farkas_row) a1.2]), (4, .ref 0 0 0), (6, .osl 1 0), (16, .ref 2 0 0), (18, .ref 3 0 0), (106, .d (.sl t_farkas_row) a1.2), (107, vi (a1.2.length : Int)), (108, vi x28), (113, .d (.sl t_farkas_row) a1.2), (114, vi (a1.2.length : Int)), (115, vi x36)], [.box [vi (0 : Int), .nils], .row t_farkas_row x37 0, .box [vb x33.1, .d (.sl (.int .i64)) x33.2], .box [vb x41.1, .d (.sl (.int .i64)) x41.2]]⟩) (a1.2.getD (Int.toNat x36) d_farkas_row) ?_
          intro x41 hx41
          replace h := h x41 hx41
          refine awp_spine ?_
          obtain ⟨o24, o25, h⟩ := h
          refine awp_rc tab [1, 2, 4, 6, 16, 18, 106, 107, 108, 113, 114, 115, 132] [] [] [] [(0 : Int) ≤ a2 ∧ a2 < (x33.2.length : Int), (decide ((gI x33.2 a2) > (0 : Int))) = true → (decide ((gI x33.2 a2) > (0 : Int))) = true ∧ True, (decide ((gI x33.2 a2) > (0 : Int))) = true → (decide ((gI x33.2 a2) > (0 : Int))) = true ∧ ((decide ((gI x33.2 a2) > (0 : Int))) = true ∧ ((0 : Int) ≤ a2 ∧ a2 < (x41.2.length : Int))), (decide ((gI x33.2 a2) > (0 : Int))) = true → (decide ((gI x33.2 a2) > (0 : Int))) = true ∧ True, (decide ((gI x33.2 a2) > (0 : Int))) = true → (decide ((gI x33.2 a2) > (0 : Int))) = true ∧ True, (decide ((gI x33.2 a2) > (0 : Int))) = true → (decide ((gI x33.2 a2) > (0 : Int))) = true] ⟨160, [(1, vi a2), (2, .er [vi a1.1, .d (.sl t_farkas_row) a1.2]), (4, .ref 0 0 0), (6, .osl 1 0), (16, .ref 2 0 0), (18, .ref 3 0 0), (106, .d (.sl t_farkas_row) a1.2), (107, vi (a1.2.length : Int)), (108, vi x28), (113, .d (.sl t_farkas_row) a1.2), (114, vi (a1.2.length : Int)), (115, vi x36), (132, vb ((decide ((gI x33.2 a2) > (0 : Int))) && (decide ((gI x41.2 a2) < (0 : Int)))))], [.box [vi (0 : Int), .nils], .row t_farkas_row x37 0, .box [vb x33.1, .d (.sl (.int .i64)) x33.2], .box [vb x41.1, .d (.sl (.int .i64)) x41.2]]⟩ (by kernel_rfl) (AllP.of (o24) (AllP.of (fun hg => ⟨hg, trivial⟩) (AllP.of (fun hg => ⟨hg, hg, (o25 hg)⟩) (AllP.of (fun hg => ⟨hg, trivial⟩) (AllP.of (fun hg => ⟨hg, trivial⟩) (AllP.of (fun hc => hc) trivial)))))) ?_
          refine then_n (spine_c ?_)
          refine awp_cond (b := (decide ((gI x33.2 a2) > (0 : Int))) && (decide ((gI x41.2 a2) < (0 : Int)))) (by kernel_rfl) (fun hb => ?_) (fun hb => ?_)
          · replace h := h.1 (hb)
            obtain ⟨o26, o27, o28, o29, o30, h⟩ := h
            refine awp_dr tab mixed [1, 2, 4, 6, 16, 106, 107, 108, 113, 114, 115] [] [(16, .dat (.d (.sl (.int .i64)) (farkas_vector_int_sum.fn x33.2 (-(gI x41.2 a2)) (gI x33.2 a2) x41.2)))] [18] ⟨[[], [], [1], [], [3], [], [3, 4, 5], [3, 4, 5, 6], [3, 4, 5, 6, 7], [], [9], [], [9, 10, 11], [9, 10, 11, 12], [], [14], [1, 2, 3, 4, 5, 6, 7, 8, 9, 10, 11, 12, 13, 14, 15], [1, 2, 3, 4, 5, 6, 7, 8, 9, 10, 11, 12, 13, 14, 15, 16], [1, 2, 3, 4, 5, 6, 7, 8, 9, 10, 11, 12, 13, 14, 15, 16, 17], [0, 1, 2, 3, 4, 5, 6, 7, 8, 9, 10, 11, 12, 13, 14, 15, 16, 17, 18], [0, 1, 2, 3, 4, 5, 6, 7, 8, 9, 10, 11, 12, 13, 14, 15, 16, 17, 18, 19]], [.osl 1 0, .ref 2 0 1, .d (.sl (.int .i64)) x33.2, .ref 3 0 1, .d (.sl (.int .i64)) x41.2, vi a2, .er [vi (gI x41.2 a2)], vi (gI x41.2 a2), vi (-(gI x41.2 a2)), .ref 2 0 1, .d (.sl (.int .i64)) x33.2, vi a2, .er [vi (gI x33.2 a2)], vi (gI x33.2 a2), .ref 3 0 1, .d (.sl (.int .i64)) x41.2, .d (.sl (.int .i64)) (farkas_vector_int_sum.fn x33.2 (-(gI x41.2 a2)) (gI x33.2 a2) x41.2), .agg [vb false, .d (.sl (.int .i64)) (farkas_vector_int_sum.fn x33.2 (-(gI x41.2 a2)) (gI x33.2 a2) x41.2)], .d (.sl t_farkas_row) [(false, farkas_vector_int_sum.fn x33.2 (-(gI x41.2 a2)) (gI x33.2 a2) x41.2)], .osl 1 1, .osl 1 1], [none, none, none, none, none, none, some ((0 : Int) ≤ a2 ∧ a2 < (x41.2.length : Int)), none, some (-9223372036854775808 ≤ -(gI x41.2 a2) ∧ -(gI x41.2 a2) ≤ 9223372036854775807), none, none, none, some ((0 : Int) ≤ a2 ∧ a2 < (x33.2.length : Int)), none, none, none, some (OkC prog 79 [.d (.sl (.int .i64)) x33.2, vi (-(gI x41.2 a2)), vi (gI x33.2 a2), .d (.sl (.int .i64)) x41.2] (.d (.sl (.int .i64)) (farkas_vector_int_sum.fn x33.2 (-(gI x41.2 a2)) (gI x33.2 a2) x41.2))), none, some (1 * 2 ≤ 16777216), some ((x37.length + [(false, farkas_vector_int_sum.fn x33.2 (-(gI x41.2 a2)) (gI x33.2 a2) x41.2)].length) * 32 ≤ 140737488355328 ∧ x37.length + [(false, farkas_vector_int_sum.fn x33.2 (-(gI x41.2 a2)) (gI x33.2 a2) x41.2)].length ≤ 9223372036854775807), none], [19], [([], [.box [vi (0 : Int), .nils], .row t_farkas_row x37 0, .box [vb x33.1, .d (.sl (.int .i64)) x33.2], .box [vb x41.1, .d (.sl (.int .i64)) x41.2]]), ([19], [.box [vi (0 : Int), .nils], .row t_farkas_row (x37 ++ [(false, farkas_vector_int_sum.fn x33.2 (-(gI x41.2 a2)) (gI x33.2 a2) x41.2)]) 1, .box [vb x33.1, .d (.sl (.int .i64)) x33.2], .box [vb x41.1, .d (.sl (.int .i64)) x41.2]])]⟩ ⟨160, [(1, vi a2), (2, .er [vi a1.1, .d (.sl t_farkas_row) a1.2]), (4, .ref 0 0 0), (6, .osl 1 1), (16, .ref 2 0 0), (106, .d (.sl t_farkas_row) a1.2), (107, vi (a1.2.length : Int)), (108, vi x28), (113, .d (.sl t_farkas_row) a1.2), (114, vi (a1.2.length : Int)), (115, vi x36)], [.box [vi (0 : Int), .nils], .row t_farkas_row (x37 ++ [(false, farkas_vector_int_sum.fn x33.2 (-(gI x41.2 a2)) (gI x33.2 a2) x41.2)]) 1, .box [vb x33.1, .d (.sl (.int .i64)) x33.2], .box [vb x41.1, .d (.sl (.int .i64)) x41.2]]⟩ (by kernel_rfl) (AllO.n (AllO.n (AllO.n (AllO.n (AllO.n (AllO.n (AllO.s (o26) (AllO.n (AllO.s (o27) (AllO.n (AllO.n (AllO.n (AllO.s (o28) (AllO.n (AllO.n (AllO.n (AllO.s (ok_farkas_vector_int_sum x33.2 (-(gI x41.2 a2)) (gI x33.2 a2) x41.2 (o29)) (AllO.n (AllO.s (by decide) (AllO.s (o30) (AllO.n (AllO.e)))))))))))))))))))))) ?_
            refine then_n (spine_e (then_n (spine_e (blk_n (then_n (spine_c ?_))))))
            refine awp_abs (fun (x42 : (List farkas_row)) => ⟨160, [(1, vi a2), (2, .er [vi a1.1, .d (.sl t_farkas_row) a1.2]), (4, .ref 0 0 0), (6, .osl 1 1), (16, .ref 2 0 0), (106, .d (.sl t_farkas_row) a1.2), (107, vi (a1.2.length : Int)), (108, vi x28), (113, .d (.sl t_farkas_row) a1.2), (114, vi (a1.2.length : Int)), (115, vi x36)], [.box [vi (0 : Int), .nils], .row t_farkas_row x42 1, .box [vb x33.1, .d (.sl (.int .i64)) x33.2], .box [vb x41.1, .d (.sl (.int .i64)) x41.2]]⟩) (x37 ++ [(false, farkas_vector_int_sum.fn x33.2 (-(gI x41.2 a2)) (gI x33.2 a2) x41.2)]) ?_
            intro x42 hx42
            replace h := h x42 hx42
            obtain ⟨o31, h⟩ := h
            refine awp_rc tab [1, 2, 4, 6, 16, 106, 107, 108, 113, 114, 115] [] [] [] [-9223372036854775808 ≤ x36 + (1 : Int) ∧ x36 + (1 : Int) ≤ 9223372036854775807] ⟨160, [(1, vi a2), (2, .er [vi a1.1, .d (.sl t_farkas_row) a1.2]), (4, .ref 0 0 0), (6, .osl 1 1), (16, .ref 2 0 0), (106, .d (.sl t_farkas_row) a1.2), (107, vi (a1.2.length : Int)), (108, vi x28), (113, .d (.sl t_farkas_row) a1.2), (114, vi (a1.2.length : Int)), (115, vi (x36 + (1 : Int)))], [.box [vi (0 : Int), .nils], .row t_farkas_row x42 1, .box [vb x33.1, .d (.sl (.int .i64)) x33.2], .box [vb x41.1, .d (.sl (.int .i64)) x41.2]]⟩ (by kernel_rfl) (AllP.of (o31) trivial) ?_
            refine then_n (spine_e (then_n (spine_e (then_n (spine_e (then_n (?_)))))))
            obtain ⟨m, hm, h⟩ := h
            exact ⟨m, hm, ⟨160, [(1, vi a2), (2, .er [vi a1.1, .d (.sl t_farkas_row) a1.2]), (4, .ref 0 0 0), (6, .osl 1 0), (16, .ref 2 0 0), (106, .d (.sl t_farkas_row) a1.2), (107, vi (a1.2.length : Int)), (108, vi x28), (113, .d (.sl t_farkas_row) a1.2), (114, vi (a1.2.length : Int)), (115, vi (x36 + (1 : Int)))], [.box [vi (0 : Int), .nils], .row t_farkas_row x42 0, .box [vb x33.1, .d (.sl (.int .i64)) x33.2]]⟩, wk_ghosts hk (l := [.keep [1, 2, 4, 6, 16, 106, 107, 108, 113, 114, 115], .keep [1, 2, 4, 6, 16, 106, 107, 108, 113, 114, 115], .cut 3, .reset 1, .keep [1, 2, 4, 6, 16, 106, 107, 108, 113, 114, 115]]) (by kernel_rfl), x36 + (1 : Int), x42, h, rfl⟩
          · replace h := h.2 (hb)
            refine awp_skip (then_n (spine_e (then_n (spine_e (blk_n (then_n (spine_c ?_)))))))
            obtain ⟨o32, h⟩ := h
            refine awp_rc tab [1, 2, 4, 6, 16, 106, 107, 108, 113, 114, 115] [] [] [] [-9223372036854775808 ≤ x36 + (1 : Int) ∧ x36 + (1 : Int) ≤ 9223372036854775807] ⟨160, [(1, vi a2), (2, .er [vi a1.1, .d (.sl t_farkas_row) a1.2]), (4, .ref 0 0 0), (6, .osl 1 0), (16, .ref 2 0 0), (106, .d (.sl t_farkas_row) a1.2), (107, vi (a1.2.length : Int)), (108, vi x28), (113, .d (.sl t_farkas_row) a1.2), (114, vi (a1.2.length : Int)), (115, vi (x36 + (1 : Int)))], [.box [vi (0 : Int), .nils], .row t_farkas_row x37 0, .box [vb x33.1, .d (.sl (.int .i64)) x33.2], .box [vb x41.1, .d (.sl (.int .i64)) x41.2]]⟩ (by kernel_rfl) (AllP.of (o32) trivial) ?_
            refine then_n (spine_e (then_n (spine_e (then_n (spine_e (then_n (?_)))))))
            obtain ⟨m, hm, h⟩ := h
            exact ⟨m, hm, ⟨160, [(1, vi a2), (2, .er [vi a1.1, .d (.sl t_farkas_row) a1.2]), (4, .ref 0 0 0), (6, .osl 1 0), (16, .ref 2 0 0), (106, .d (.sl t_farkas_row) a1.2), (107, vi (a1.2.length : Int)), (108, vi x28), (113, .d (.sl t_farkas_row) a1.2), (114, vi (a1.2.length : Int)), (115, vi (x36 + (1 : Int)))], [.box [vi (0 : Int), .nils], .row t_farkas_row x37 0, .box [vb x33.1, .d (.sl (.int .i64)) x33.2]]⟩, wk_ghosts hk (l := [.keep [1, 2, 4, 6, 16, 106, 107, 108, 113, 114, 115], .keep [1, 2, 4, 6, 16, 106, 107, 108, 113, 114, 115], .cut 3, .keep [1, 2, 4, 6, 16, 106, 107, 108, 113, 114, 115]]) (by kernel_rfl), x36 + (1 : Int), x37, h, rfl⟩
        · replace h := h.2 (of_decide_eq_false hb)
          refine awp_exit (then_x (then_x (then_x (blk_h (then_n (spine_e (then_n (spine_e (blk_n (then_n (spine_c ?_)))))))))))
          obtain ⟨o33, h⟩ := h
          refine awp_rc tab [1, 2, 4, 6, 106, 107, 108] [] [] [] [-9223372036854775808 ≤ x28 + (1 : Int) ∧ x28 + (1 : Int) ≤ 9223372036854775807] ⟨160, [(1, vi a2), (2, .er [vi a1.1, .d (.sl t_farkas_row) a1.2]), (4, .ref 0 0 0), (6, .osl 1 0), (106, .d (.sl t_farkas_row) a1.2), (107, vi (a1.2.length : Int)), (108, vi (x28 + (1 : Int)))], [.box [vi (0 : Int), .nils], .row t_farkas_row x37 0, .box [vb x33.1, .d (.sl (.int .i64)) x33.2]]⟩ (by kernel_rfl) (AllP.of (o33) trivial) ?_
          refine then_n (spine_e (then_n (spine_e (then_n (spine_e (then_n (?_)))))))
          obtain ⟨m, hm, h⟩ := h
          exact ⟨m, hm, ⟨160, [(1, vi a2), (2, .er [vi a1.1, .d (.sl t_farkas_row) a1.2]), (4, .ref 0 0 0), (6, .osl 1 0), (106, .d (.sl t_farkas_row) a1.2), (107, vi (a1.2.length : Int)), (108, vi (x28 + (1 : Int)))], [.box [vi (0 : Int), .nils], .row t_farkas_row x37 0]⟩, wk_ghosts hk (l := [.keep [1, 2, 4, 6, 106, 107, 108], .keep [1, 2, 4, 6, 106, 107, 108], .cut 2, .keep [1, 2, 4, 6, 106, 107, 108]]) (by kernel_rfl), x28 + (1 : Int), x37, h, rfl⟩
      · replace h := h.2 (of_decide_eq_false hb)
        refine awp_exit (then_x (then_x (then_x (blk_h (then_n (spine_c ?_))))))
        refine awp_spine ?_
        refine awp_gh hk [.freeze 1, .keep [1, 2, 4, 6, 106, 107, 108, 109]] ⟨160, [(1, vi a2), (2, .er [vi a1.1, .d (.sl t_farkas_row) a1.2]), (4, .ref 0 0 0), (6, .d (.sl t_farkas_row) x29), (106, .d (.sl t_farkas_row) a1.2), (107, vi (a1.2.length : Int)), (108, vi x28), (109, vb (decide (x28 < (a1.2.length : Int))))], [.box [vi (0 : Int), .nils], .dead]⟩ (by kernel_rfl) ?_
        obtain ⟨o34, h⟩ := h
        refine awp_rc tab [4, 5] [] [(2, .dat (.tup [.agg [vi (((farkas_table_kept.fn a1 x29).1).1), .d (.sl t_farkas_row) (((farkas_table_kept.fn a1 x29).1).2)], vi ((farkas_table_kept.fn a1 x29).2)]))] [] [OkC prog 80 [.agg [vi a1.1, .d (.sl t_farkas_row) a1.2], .d (.sl t_farkas_row) x29] (.tup [.agg [vi (((farkas_table_kept.fn a1 x29).1).1), .d (.sl t_farkas_row) (((farkas_table_kept.fn a1 x29).1).2)], vi ((farkas_table_kept.fn a1 x29).2)])] ⟨160, [(4, .ref 0 0 0), (5, vi ((farkas_table_kept.fn a1 x29).2))], [.box [vi (((farkas_table_kept.fn a1 x29).1).1), .d (.sl t_farkas_row) (((farkas_table_kept.fn a1 x29).1).2)], .dead]⟩ (by kernel_rfl) (AllP.of (ok_farkas_table_kept a1 x29 (o34)) trivial) ?_
        refine then_n (spine_c ?_)
        refine awp_abs (fun (x43 : farkas_table × Int) => ⟨160, [(4, .ref 0 0 0), (5, vi x43.2)], [.box [vi x43.1.1, .d (.sl t_farkas_row) x43.1.2], .dead]⟩) (farkas_table_kept.fn a1 x29) ?_
        intro x43 hx43
        replace h := h x43 hx43
        refine awp_abs (fun (x44 : Int) => ⟨160, [(4, .ref 0 0 0), (5, vi x44)], [.box [vi x43.1.1, .d (.sl t_farkas_row) x43.1.2], .dead]⟩) (x43.2) ?_
        intro x44 hx44
        replace h := h x44 hx44
        refine awp_abs (fun (x45 : Int) => ⟨160, [(4, .ref 0 0 0), (5, vi x44)], [.box [vi x45, .d (.sl t_farkas_row) x43.1.2], .dead]⟩) (x43.1.1) ?_
        intro x45 hx45
        replace h := h x45 hx45
        refine awp_abs (fun (x46 : (List farkas_row)) => ⟨160, [(4, .ref 0 0 0), (5, vi x44)], [.box [vi x45, .d (.sl t_farkas_row) x46], .dead]⟩) (x43.1.2) ?_
        intro x46 hx46
        replace h := h x46 hx46
        refine awp_ret (then_r (then_r (then_r (then_r (then_r (then_r (?_)))))))
        exact ret_r (m := 0) (r := .tup [.agg [vi ((((x45, x46), x44).1).1), .d (.sl t_farkas_row) ((((x45, x46), x44).1).2)], vi (((x45, x46), x44).2)]) (objs := []) hk [.keep [4, 5]] ⟨160, [(4, .ref 0 0 0), (5, vi x44)], [.box [vi x45, .d (.sl t_farkas_row) x46], .dead]⟩ (by kernel_rfl) (by kernel_rfl) (Nat.le_refl 0) ⟨((x45, x46), x44), rfl, rfl, h⟩
theorem ok_farkas_table_without (a1 : farkas_table) (a2 : Int) (h : farkas_table_without.pre a1 a2) : OkC prog 56 [.agg [vi a1.1, .d (.sl t_farkas_row) a1.2], vi a2] (.tup [.agg [vi (((farkas_table_without.fn a1 a2).1).1), .d (.sl t_farkas_row) (((farkas_table_without.fn a1 a2).1).2)], vi ((farkas_table_without.fn a1 a2).2)]) :=
  OkC.of call_farkas_table_without ((walk_farkas_table_without a1 a2 _ (farkas_table_without.spec a1 a2 h)).mono fun r o ⟨x, hr, ho, hx⟩ => ⟨by rw [hr, hx], ho⟩) rfl rfl (fun _ => rfl)

noncomputable abbrev Bfarkas_eliminated : Code := bodyOf Try.f26
theorem call_farkas_eliminated : CallOk prog 26 := ⟨_, Try.func26, by kernel_rfl, by kernel_rfl⟩
theorem walk_farkas_eliminated (a1 : (List api_Cond)) (a2 : Int) (Q : (List farkas_table) × Int → Prop) (h : farkas_eliminated.wp a1 a2 Q) : VCalls prog 26 [.d (.sl t_api_Cond) a1, vi a2] [] (fun r o => ∃ x, r = .tup [.d (.sl t_farkas_table) x.1, vi x.2] ∧ o = [] ∧ Q x) := by
  refine vcalls_body tab Try.func26 (c := (spine (subC [0] Bfarkas_eliminated) [(spine (subC [1, 0] Bfarkas_eliminated) [(spine (subC [1, 1, 0] Bfarkas_eliminated) [(spine (subC [1, 1, 1, 0, 0] Bfarkas_eliminated) [(.block 0 (.loop (spine (subC [1, 1, 1, 0, 1, 0, 0, 0, 0] Bfarkas_eliminated) [(.cond (.tmp 21) .skip (.exit 0)), (spine (.block 1 (spine (subC [1, 1, 1, 0, 1, 0, 0, 1, 0, 0, 0] Bfarkas_eliminated) [(spine (subC [1, 1, 1, 0, 1, 0, 0, 1, 0, 0, 1, 0] Bfarkas_eliminated) [(spine (subC [1, 1, 1, 0, 1, 0, 0, 1, 0, 0, 1, 1, 0] Bfarkas_eliminated) [(.cond (.tmp 38) (spine (subC [1, 1, 1, 0, 1, 0, 0, 1, 0, 0, 1, 1, 1, 0, 0] Bfarkas_eliminated) [.ret]) .skip)])])])) [(subC [1, 1, 1, 0, 1, 0, 0, 1, 1] Bfarkas_eliminated)])]))), (spine (subC [1, 1, 1, 1, 0] Bfarkas_eliminated) [.ret])])])])])) (by kernel_rfl) (Nat.le_of_ble_eq_true (by kernel_rfl)) fun cx hd hi hk => ?_
  show AWp prog cx _ _ ⟨41, [(0, .d (.sl t_api_Cond) a1), (1, vi a2)], []⟩
  replace hk : cx.E.len = 0 := hk
  unfold farkas_eliminated.wp at h
  refine awp_spine ?_
  refine awp_rc tab [0, 1] [] [] [] [] ⟨41, [(0, .d (.sl t_api_Cond) a1), (1, vi a2)], []⟩ (by kernel_rfl) (trivial) ?_
  refine then_n (spine_c ?_)
  refine awp_spine ?_
  obtain ⟨o1, o2, h⟩ := h
  refine awp_rc tab [0, 1, 6] [] [] [] [-9223372036854775808 ≤ a2 + (1 : Int) ∧ a2 + (1 : Int) ≤ 9223372036854775807, (0 : Int) ≤ (a2 + (1 : Int)) ∧ (a2 + (1 : Int)) ≤ (a2 + (1 : Int)) ∧ (a2 + (1 : Int)) * 32 ≤ 140737488355328 ∧ (a2 + (1 : Int)) ≤ 9223372036854775807] ⟨41, [(0, .d (.sl t_api_Cond) a1), (1, vi a2), (6, .osl 0 0)], [.row t_farkas_table (List.replicate (Int.toNat (a2 + (1 : Int))) d_farkas_table) 0]⟩ (by kernel_rfl) (AllP.of (o1) (AllP.of (o2) trivial)) ?_
  refine then_n (spine_c ?_)
  refine awp_abs (fun (x1 : (List farkas_table)) => ⟨41, [(0, .d (.sl t_api_Cond) a1), (1, vi a2), (6, .osl 0 0)], [.row t_farkas_table x1 0]⟩) (List.replicate (Int.toNat (a2 + (1 : Int))) d_farkas_table) ?_
  intro x1 hx1
  replace h := h x1 hx1
  refine awp_spine ?_
  obtain ⟨o3, o4, o5, h⟩ := h
  refine awp_rc tab [1, 6] [] [(4, .dat (.agg [vi ((farkas_first.fn a1 a2).1), .d (.sl t_farkas_row) ((farkas_first.fn a1 a2).2)]))] [] [OkC prog 55 [.d (.sl t_api_Cond) a1, vi a2] (.agg [vi ((farkas_first.fn a1 a2).1), .d (.sl t_farkas_row) ((farkas_first.fn a1 a2).2)]), (0 : Int) ≤ a2 ∧ a2 < (x1.length : Int), Int.toNat a2 < x1.length] ⟨41, [(1, vi a2), (6, .osl 0 0)], [.row t_farkas_table (x1.set (Int.toNat a2) (farkas_first.fn a1 a2)) 0]⟩ (by kernel_rfl) (AllP.of (ok_farkas_first a1 a2 (o3)) (AllP.of (o4) (AllP.of (o5) trivial))) ?_
  refine then_n (spine_c ?_)
  refine awp_abs (fun (x2 : farkas_table) => ⟨41, [(1, vi a2), (6, .osl 0 0)], [.row t_farkas_table (x1.set (Int.toNat a2) x2) 0]⟩) (farkas_first.fn a1 a2) ?_
  intro x2 hx2
  replace h := h x2 hx2
  refine awp_abs (fun (x3 : (List farkas_table)) => ⟨41, [(1, vi a2), (6, .osl 0 0)], [.row t_farkas_table x3 0]⟩) (x1.set (Int.toNat a2) x2) ?_
  intro x3 hx3
  replace h := h x3 hx3
  refine awp_spine ?_
  obtain ⟨o6, h⟩ := h
  refine awp_rc tab [6, 7] [] [] [] [-9223372036854775808 ≤ a2 - (1 : Int) ∧ a2 - (1 : Int) ≤ 9223372036854775807] ⟨41, [(6, .osl 0 0), (7, vi (a2 - (1 : Int)))], [.row t_farkas_table x3 0]⟩ (by kernel_rfl) (AllP.of (o6) trivial) ?_
  refine then_n (spine_c ?_)
  refine awp_block ?_
  obtain ⟨I10, ⟨n10a, hz10⟩, hI10⟩ := h
  refine awp_loopN (fun n s => ∃ (x6 : Int) (x7 : (List farkas_table)), I10 n x6 x7 ∧ s = ⟨41, [(6, .osl 0 0), (7, vi x6)], [.row t_farkas_table x7 0]⟩) (n := n10a) (s0 := ⟨41, [(6, .osl 0 0), (7, vi (a2 - (1 : Int)))], [.row t_farkas_table x3 0]⟩) (wk_ghosts hk (l := [.keep [6, 7], .keep [6, 7], .keep [6, 7], .keep [6, 7]]) (by kernel_rfl)) ⟨a2 - (1 : Int), x3, hz10, rfl⟩ ?_
  rintro n10 s ⟨x6, x7, hx10, rfl⟩
  have h := hI10 n10 x6 x7 hx10
  refine awp_spine ?_
  refine awp_rc tab [6, 7, 21] [] [] [] [] ⟨41, [(6, .osl 0 0), (7, vi x6), (21, vb (decide (x6 ≥ (0 : Int))))], [.row t_farkas_table x7 0]⟩ (by kernel_rfl) (trivial) ?_
  refine then_n (spine_c ?_)
  refine awp_cond (b := decide (x6 ≥ (0 : Int))) (by kernel_rfl) (fun hb => ?_) (fun hb => ?_)
  · replace h := h.1 (of_decide_eq_true hb)
    refine awp_skip (then_n (spine_c ?_))
    refine awp_spine ?_
    refine awp_block ?_
    refine awp_spine ?_
    refine awp_rc tab [6, 7] [] [] [] [] ⟨41, [(6, .osl 0 0), (7, vi x6)], [.row t_farkas_table x7 0]⟩ (by kernel_rfl) (trivial) ?_
    refine then_n (spine_c ?_)
    refine awp_spine ?_
    obtain ⟨o7, o8, o9, o10, o11, o12, h⟩ := h
    refine awp_rc tab [6, 7, 8] [] [(8, .dat (.tup [.agg [vi (((farkas_table_without.fn (x7.getD (Int.toNat (x6 + (1 : Int))) d_farkas_table) x6).1).1), .d (.sl t_farkas_row) (((farkas_table_without.fn (x7.getD (Int.toNat (x6 + (1 : Int))) d_farkas_table) x6).1).2)], vi ((farkas_table_without.fn (x7.getD (Int.toNat (x6 + (1 : Int))) d_farkas_table) x6).2)]))] [] [-9223372036854775808 ≤ x6 + (1 : Int) ∧ x6 + (1 : Int) ≤ 9223372036854775807, (0 : Int) ≤ (x6 + (1 : Int)) ∧ (x6 + (1 : Int)) < (x7.length : Int), Int.toNat (x6 + (1 : Int)) < x7.length, OkC prog 56 [.agg [vi ((x7.getD (Int.toNat (x6 + (1 : Int))) d_farkas_table).1), .d (.sl t_farkas_row) ((x7.getD (Int.toNat (x6 + (1 : Int))) d_farkas_table).2)], vi x6] (.tup [.agg [vi (((farkas_table_without.fn (x7.getD (Int.toNat (x6 + (1 : Int))) d_farkas_table) x6).1).1), .d (.sl t_farkas_row) (((farkas_table_without.fn (x7.getD (Int.toNat (x6 + (1 : Int))) d_farkas_table) x6).1).2)], vi ((farkas_table_without.fn (x7.getD (Int.toNat (x6 + (1 : Int))) d_farkas_table) x6).2)]), (0 : Int) ≤ x6 ∧ x6 < (x7.length : Int), Int.toNat x6 < x7.length] ⟨41, [(6, .osl 0 0), (7, vi x6), (8, vi ((farkas_table_without.fn (x7.getD (Int.toNat (x6 + (1 : Int))) d_farkas_table) x6).2))], [.row t_farkas_table (x7.set (Int.toNat x6) ((farkas_table_without.fn (x7.getD (Int.toNat (x6 + (1 : Int))) d_farkas_table) x6).1)) 0]⟩ (by kernel_rfl) (AllP.of (o7) (AllP.of (o8) (AllP.of (o9) (AllP.of (ok_farkas_table_without (x7.getD (Int.toNat (x6 + (1 : Int))) d_farkas_table) x6 (o10)) (AllP.of (o11) (AllP.of (o12) trivial)))))) ?_
    refine then_n (spine_c ?_)
    refine awp_abs (fun (x11 : farkas_table × Int) => ⟨41, [(6, .osl 0 0), (7, vi x6), (8, vi x11.2)], [.row t_farkas_table (x7.set (Int.toNat x6) x11.1) 0]⟩) (farkas_table_without.fn (x7.getD (Int.toNat (x6 + (1 : Int))) d_farkas_table) x6) ?_
    intro x11 hx11
    replace h := h x11 hx11
    refine awp_abs (fun (x12 : Int) => ⟨41, [(6, .osl 0 0), (7, vi x6), (8, vi x12)], [.row t_farkas_table (x7.set (Int.toNat x6) x11.1) 0]⟩) (x11.2) ?_
    intro x12 hx12
    replace h := h x12 hx12
    refine awp_abs (fun (x13 : (List farkas_table)) => ⟨41, [(6, .osl 0 0), (7, vi x6), (8, vi x12)], [.row t_farkas_table x13 0]⟩) (x7.set (Int.toNat x6) x11.1) ?_
    intro x13 hx13
    replace h := h x13 hx13
    refine awp_spine ?_
    refine awp_rc tab [6, 7, 8, 38] [] [] [] [] ⟨41, [(6, .osl 0 0), (7, vi x6), (8, vi x12), (38, vb (x12 != (0 : Int)))], [.row t_farkas_table x13 0]⟩ (by kernel_rfl) (trivial) ?_
    refine then_n (spine_c ?_)
    refine awp_cond (b := x12 != (0 : Int)) (by kernel_rfl) (fun hb => ?_) (fun hb => ?_)
    · replace h := h.1 (bne_iff_ne.mp hb)
      refine awp_spine ?_
      refine awp_rc tab [4, 5] [] [] [] [] ⟨41, [(4, .nils), (5, vi x12)], [.row t_farkas_table x13 0]⟩ (by kernel_rfl) (trivial) ?_
      refine then_n (spine_c ?_)
      refine awp_ret (then_r (then_r (then_r (then_r (blk_r (then_r (then_r (then_r (blk_r (then_r (then_r (then_r (then_r (?_))))))))))))))
      exact ret_r (m := 0) (r := .tup [.d (.sl t_farkas_table) ((([] : List farkas_table), x12).1), vi ((([] : List farkas_table), x12).2)]) (objs := []) hk [.keep [4, 5], .nilAt 4 [] t_farkas_table, .keep [4, 5]] ⟨41, [(4, .d (.sl t_farkas_table) ([] : List farkas_table)), (5, vi x12)], [.row t_farkas_table x13 0]⟩ (by kernel_rfl) (by kernel_rfl) (Nat.le_refl 0) ⟨(([] : List farkas_table), x12), rfl, rfl, h⟩
    · replace h := h.2 (bne_f hb)
      refine awp_skip (then_n (spine_e (then_n (spine_e (then_n (spine_e (blk_n (then_n (spine_c ?_)))))))))
      obtain ⟨o13, h⟩ := h
      refine awp_rc tab [6, 7] [] [] [] [-9223372036854775808 ≤ x6 - (1 : Int) ∧ x6 - (1 : Int) ≤ 9223372036854775807] ⟨41, [(6, .osl 0 0), (7, vi (x6 - (1 : Int)))], [.row t_farkas_table x13 0]⟩ (by kernel_rfl) (AllP.of (o13) trivial) ?_
      refine then_n (spine_e (then_n (spine_e (then_n (?_)))))
      obtain ⟨m, hm, h⟩ := h
      exact ⟨m, hm, ⟨41, [(6, .osl 0 0), (7, vi (x6 - (1 : Int)))], [.row t_farkas_table x13 0]⟩, wk_ghosts hk (l := [.keep [6, 7], .keep [6, 7], .keep [6, 7]]) (by kernel_rfl), x6 - (1 : Int), x13, h, rfl⟩
  · replace h := h.2 (of_decide_eq_false hb)
    refine awp_exit (then_x (then_x (blk_h (then_n (spine_c ?_)))))
    refine awp_spine ?_
    refine awp_rc tab [4, 5] [] [] [] [] ⟨41, [(4, .osl 0 0), (5, vi (0 : Int))], [.row t_farkas_table x7 0]⟩ (by kernel_rfl) (trivial) ?_
    refine then_n (spine_c ?_)
    refine awp_ret (then_r (then_r (then_r (then_r (then_r (?_))))))
    exact ret_r (m := 0) (r := .tup [.d (.sl t_farkas_table) ((x7, 0).1), vi ((x7, 0).2)]) (objs := []) hk [.keep [4, 5], .freeze 0] ⟨41, [(4, .d (.sl t_farkas_table) x7), (5, vi (0 : Int))], [.dead]⟩ (by kernel_rfl) (by kernel_rfl) (Nat.le_refl 0) ⟨(x7, 0), rfl, rfl, h⟩
theorem ok_farkas_eliminated (a1 : (List api_Cond)) (a2 : Int) (h : farkas_eliminated.pre a1 a2) : OkC prog 26 [.d (.sl t_api_Cond) a1, vi a2] (.tup [.d (.sl t_farkas_table) ((farkas_eliminated.fn a1 a2).1), vi ((farkas_eliminated.fn a1 a2).2)]) :=
  OkC.of call_farkas_eliminated ((walk_farkas_eliminated a1 a2 _ (farkas_eliminated.spec a1 a2 h)).mono fun r o ⟨x, hr, ho, hx⟩ => ⟨by rw [hr, hx], ho⟩) rfl rfl (fun _ => rfl)

noncomputable abbrev Bslices_Clone_Sint_int : Code := bodyOf Try.f57
theorem call_slices_Clone_Sint_int : CallOk prog 57 := ⟨_, Try.func57, by kernel_rfl, by kernel_rfl⟩
theorem walk_slices_Clone_Sint_int (a1 : (List Int)) (Q : (List Int) → Prop) (h : slices_Clone_Sint_int.wp a1 Q) : VCalls prog 57 [.d (.sl (.int .i64)) a1] [] (fun r o => ∃ x, r = .osl 0 0 ∧ o = [.row (.int .i64) x 0] ∧ Q x) := by
  refine vcalls_body tab Try.func57 (c := (spine (subC [0] Bslices_Clone_Sint_int) [(spine (subC [1, 0, 0] Bslices_Clone_Sint_int) [(.cond (.tmp 4) (spine (subC [1, 0, 1, 0, 0] Bslices_Clone_Sint_int) [.ret]) .skip), (spine (subC [1, 1, 0] Bslices_Clone_Sint_int) [.ret])])])) (by kernel_rfl) (Nat.le_of_ble_eq_true (by kernel_rfl)) fun cx hd hi hk => ?_
  show AWp prog cx _ _ ⟨8, [(0, .d (.sl (.int .i64)) a1)], []⟩
  replace hk : cx.E.len = 0 := hk
  unfold slices_Clone_Sint_int.wp at h
  refine awp_spine ?_
  refine awp_rc tab [0] [] [] [] [] ⟨8, [(0, .d (.sl (.int .i64)) a1)], []⟩ (by kernel_rfl) (trivial) ?_
  refine then_n (spine_c ?_)
  refine awp_spine ?_
  refine awp_rgo (by kernel_rfl) ?_
  refine aops_eq (l' := [0, 1]) (by kernel_rfl) ?_
  refine aops_segc tab [0] [1] (by kernel_rfl) [0, 3] [] [] [] [] ⟨8, [(0, .d (.sl (.int .i64)) a1), (3, .d (.sl (.int .i64)) a1)], []⟩ (by kernel_rfl) (trivial) ?_
  refine aops_nilcmp tab (T := (.int .i64)) (xs := a1) (d := 4) (q := true) (by kernel_rfl) fun b1 hb1 => ?_
  replace h := h b1 hb1
  refine aops_segc tab [] [] (by kernel_rfl) [0, 4] [] [] [] [] ⟨8, [(0, .d (.sl (.int .i64)) a1), (4, vb b1)], []⟩ (by kernel_rfl) (trivial) (aops_nil ?_)
  refine then_n (spine_c ?_)
  refine awp_cond (b := b1) (by kernel_rfl) (fun hb => ?_) (fun hb => ?_)
  · replace h := h.1 (hb)
    refine awp_spine ?_
    refine awp_rc tab [2] [] [] [] [] ⟨8, [(2, .nils)], []⟩ (by kernel_rfl) (trivial) ?_
    refine then_n (spine_c ?_)
    refine awp_ret (then_r (then_r (then_r (?_))))
    exact ret_r (m := 1) (r := .osl 0 0) (objs := [.row (.int .i64) ([] : List Int) 0]) hk [.keep [2], .cut 0, .adopt 2 (.int .i64), .keep [2]] ⟨8, [(2, .osl 0 0)], [.row (.int .i64) ([] : List Int) 0]⟩ (by kernel_rfl) (by kernel_rfl) (Nat.zero_le _) ⟨([] : List Int), rfl, rfl, h⟩
  · replace h := h.2 (hb)
    refine awp_skip (then_n (spine_c ?_))
    refine awp_spine ?_
    obtain ⟨o1, h⟩ := h
    refine awp_rc tab [2] [] [] [] [0 * 1 ≤ 16777216, (([] : List Int).length + a1.length) * 8 ≤ 140737488355328 ∧ ([] : List Int).length + a1.length ≤ 9223372036854775807] ⟨8, [(2, .osl 0 1)], [.row (.int .i64) (([] : List Int) ++ a1) 1]⟩ (by kernel_rfl) (AllP.of (by decide) (AllP.of (o1) trivial)) ?_
    refine then_n (spine_c ?_)
    refine awp_ret (then_r (then_r (then_r (?_))))
    exact ret_r (m := 1) (r := .osl 0 0) (objs := [.row (.int .i64) (([] : List Int) ++ a1) 0]) hk [.keep [2], .reset 0, .keep [2]] ⟨8, [(2, .osl 0 0)], [.row (.int .i64) (([] : List Int) ++ a1) 0]⟩ (by kernel_rfl) (by kernel_rfl) (Nat.zero_le _) ⟨([] : List Int) ++ a1, rfl, rfl, h⟩
theorem ok_slices_Clone_Sint_int (a1 : (List Int)) (h : slices_Clone_Sint_int.pre a1) : OkO prog 57 [.d (.sl (.int .i64)) a1] (.int .i64) (slices_Clone_Sint_int.fn a1) :=
  OkO.of call_slices_Clone_Sint_int ((walk_slices_Clone_Sint_int a1 _ (slices_Clone_Sint_int.spec a1 h)).mono fun r o ⟨x, hr, ho, hx⟩ => ⟨hr, by rw [ho, hx]⟩) rfl

noncomputable abbrev Bfarkas_table_refuted : Code := bodyOf Try.f27
theorem call_farkas_table_refuted : CallOk prog 27 := ⟨_, Try.func27, by kernel_rfl, by kernel_rfl⟩
theorem walk_farkas_table_refuted (a1 : farkas_table) (Q : (List Int) × Bool → Prop) (h : farkas_table_refuted.wp a1 Q) : VCalls prog 27 [.agg [vi a1.1, .d (.sl t_farkas_row) a1.2]] [] (fun r o => ∃ x, r = .tup [.d (.sl (.int .i64)) x.1, vb x.2] ∧ o = [] ∧ Q x) := by
  refine vcalls_body tab Try.func27 (c := (spine (subC [0] Bfarkas_table_refuted) [(spine (subC [1, 0, 0] Bfarkas_table_refuted) [(.block 0 (.loop (spine (subC [1, 0, 1, 0, 0, 0] Bfarkas_table_refuted) [(spine (.cond (.tmp 13) .skip (.exit 0)) [(spine (.block 1 (spine (subC [1, 0, 1, 0, 0, 1, 1, 0, 0, 0] Bfarkas_table_refuted) [(spine (subC [1, 0, 1, 0, 0, 1, 1, 0, 0, 1, 0] Bfarkas_table_refuted) [(spine (subC [1, 0, 1, 0, 0, 1, 1, 0, 0, 1, 1, 0, 0] Bfarkas_table_refuted) [(.cond (.tmp 32) (.exit 1) .skip), (spine (subC [1, 0, 1, 0, 0, 1, 1, 0, 0, 1, 1, 1, 0] Bfarkas_table_refuted) [(spine (subC [1, 0, 1, 0, 0, 1, 1, 0, 0, 1, 1, 1, 1, 0, 0] Bfarkas_table_refuted) [(.cond (.tmp 41) (spine (subC [1, 0, 1, 0, 0, 1, 1, 0, 0, 1, 1, 1, 1, 0, 1, 0, 0] Bfarkas_table_refuted) [(.block 2 (.loop (spine (subC [1, 0, 1, 0, 0, 1, 1, 0, 0, 1, 1, 1, 1, 0, 1, 0, 1, 0, 0, 0] Bfarkas_table_refuted) [(spine (.cond (.tmp 45) .skip (.exit 2)) [(spine (.block 3 (spine (subC [1, 0, 1, 0, 0, 1, 1, 0, 0, 1, 1, 1, 1, 0, 1, 0, 1, 0, 0, 1, 1, 0, 0, 0] Bfarkas_table_refuted) [(subC [1, 0, 1, 0, 0, 1, 1, 0, 0, 1, 1, 1, 1, 0, 1, 0, 1, 0, 0, 1, 1, 0, 0, 1] Bfarkas_table_refuted)])) [(subC [1, 0, 1, 0, 0, 1, 1, 0, 0, 1, 1, 1, 1, 0, 1, 0, 1, 0, 0, 1, 1, 1] Bfarkas_table_refuted)])])])))]) .skip), (spine (subC [1, 0, 1, 0, 0, 1, 1, 0, 0, 1, 1, 1, 1, 1, 0] Bfarkas_table_refuted) [.ret])])])])])])) [(subC [1, 0, 1, 0, 0, 1, 1, 1] Bfarkas_table_refuted)])])]))), (spine (subC [1, 1, 0] Bfarkas_table_refuted) [.ret])])])) (by kernel_rfl) (Nat.le_of_ble_eq_true (by kernel_rfl)) fun cx hd hi hk => ?_
  show AWp prog cx _ _ ⟨58, [(0, .agg [vi a1.1, .d (.sl t_farkas_row) a1.2])], []⟩
  replace hk : cx.E.len = 0 := hk
  unfold farkas_table_refuted.wp at h
  refine awp_spine ?_
  refine awp_rc tab [1] [] [] [0] [] ⟨58, [(1, .er [vi a1.1, .d (.sl t_farkas_row) a1.2])], []⟩ (by kernel_rfl) (trivial) ?_
  refine then_n (spine_c ?_)
  refine awp_spine ?_
  refine awp_rc tab [1, 10, 11, 12] [] [] [] [] ⟨58, [(1, .er [vi a1.1, .d (.sl t_farkas_row) a1.2]), (10, .d (.sl t_farkas_row) a1.2), (11, vi (a1.2.length : Int)), (12, vi (0 : Int))], []⟩ (by kernel_rfl) (trivial) ?_
  refine then_n (spine_c ?_)
  refine awp_len 1 [1] (T := t_farkas_row) (l := a1.2) (by kernel_rfl) fun hl => ?_
  replace h := h hl
  refine awp_block ?_
  obtain ⟨I4, ⟨n4a, hz4⟩, hI4⟩ := h
  refine awp_loopN (fun n s => ∃ (x2 : Int), I4 n x2 ∧ s = ⟨58, [(1, .er [vi a1.1, .d (.sl t_farkas_row) a1.2]), (10, .d (.sl t_farkas_row) a1.2), (11, vi (a1.2.length : Int)), (12, vi x2)], []⟩) (n := n4a) (s0 := ⟨58, [(1, .er [vi a1.1, .d (.sl t_farkas_row) a1.2]), (10, .d (.sl t_farkas_row) a1.2), (11, vi (a1.2.length : Int)), (12, vi (0 : Int))], []⟩) (wk_ghosts hk (l := [.keep [1, 10, 11, 12], .keep [1, 10, 11, 12], .keep [1, 10, 11, 12], .keep [1, 10, 11, 12]]) (by kernel_rfl)) ⟨0, hz4, rfl⟩ ?_
  rintro n4 s ⟨x2, hx4, rfl⟩
  have h := hI4 n4 x2 hx4
  refine awp_spine ?_
  refine awp_rc tab [1, 10, 11, 12, 13] [] [] [] [] ⟨58, [(1, .er [vi a1.1, .d (.sl t_farkas_row) a1.2]), (10, .d (.sl t_farkas_row) a1.2), (11, vi (a1.2.length : Int)), (12, vi x2), (13, vb (decide (x2 < (a1.2.length : Int))))], []⟩ (by kernel_rfl) (trivial) ?_
  refine then_n (spine_c ?_)
  refine awp_spine ?_
  refine awp_cond (b := decide (x2 < (a1.2.length : Int))) (by kernel_rfl) (fun hb => ?_) (fun hb => ?_)
  · replace h := h.1 (of_decide_eq_true hb)
    refine awp_skip (then_n (spine_c ?_))
    refine awp_spine ?_
    refine awp_block ?_
    refine awp_spine ?_
    obtain ⟨o1, h⟩ := h
    refine awp_rc tab [1, 5, 10, 11, 12] [] [] [] [(0 : Int) ≤ x2 ∧ x2 < (a1.2.length : Int)] ⟨58, [(1, .er [vi a1.1, .d (.sl t_farkas_row) a1.2]), (5, .ref 0 0 0), (10, .d (.sl t_farkas_row) a1.2), (11, vi (a1.2.length : Int)), (12, vi x2)], [.box [vb ((a1.2.getD (Int.toNat x2) d_farkas_row).1), .d (.sl (.int .i64)) ((a1.2.getD (Int.toNat x2) d_farkas_row).2)]]⟩ (by kernel_rfl) (AllP.of (o1) trivial) ?_
    refine then_n (spine_c ?_)
    refine awp_abs (fun (x5 : farkas_row) => ⟨58, [(1, .er [vi a1.1, .d (.sl t_farkas_row) a1.2]), (5, .ref 0 0 0), (10, .d (.sl t_farkas_row) a1.2), (11, vi (a1.2.length : Int)), (12, vi x2)], [.box [vb x5.1, .d (.sl (.int .i64)) x5.2]]⟩) (a1.2.getD (Int.toNat x2) d_farkas_row) ?_
    intro x5 hx5
    replace h := h x5 hx5
    refine awp_spine ?_
    obtain ⟨o2, h⟩ := h
    refine awp_rc tab [1, 5, 6, 10, 11, 12] [] [] [] [(0 : Int) ≤ a1.1 ∧ a1.1 < (x5.2.length : Int)] ⟨58, [(1, .er [vi a1.1, .d (.sl t_farkas_row) a1.2]), (5, .ref 0 0 0), (6, vi (gI x5.2 a1.1)), (10, .d (.sl t_farkas_row) a1.2), (11, vi (a1.2.length : Int)), (12, vi x2)], [.box [vb x5.1, .d (.sl (.int .i64)) x5.2]]⟩ (by kernel_rfl) (AllP.of (o2) trivial) ?_
    refine then_n (spine_c ?_)
    refine awp_spine ?_
    refine awp_rc tab [1, 5, 6, 10, 11, 12, 32] [] [] [] [(decide ((gI x5.2 a1.1) ≥ (0 : Int))) = true → (decide ((gI x5.2 a1.1) ≥ (0 : Int))) = true ∧ True, (decide ((gI x5.2 a1.1) ≥ (0 : Int))) = true → (decide ((gI x5.2 a1.1) ≥ (0 : Int))) = true ∧ True, (decide ((gI x5.2 a1.1) ≥ (0 : Int))) = true → (decide ((gI x5.2 a1.1) ≥ (0 : Int))) = true ∧ True, ((decide ((gI x5.2 a1.1) ≥ (0 : Int))) && (!(!x5.1))) = true → ((decide ((gI x5.2 a1.1) ≥ (0 : Int))) && (!(!x5.1))) = true ∧ True, (decide ((gI x5.2 a1.1) ≥ (0 : Int))) = true → (decide ((gI x5.2 a1.1) ≥ (0 : Int))) = true ∧ ((!x5.1) = false → ((decide ((gI x5.2 a1.1) ≥ (0 : Int))) && (!(!x5.1))) = true), (decide ((gI x5.2 a1.1) ≥ (0 : Int))) = true → (decide ((gI x5.2 a1.1) ≥ (0 : Int))) = true] ⟨58, [(1, .er [vi a1.1, .d (.sl t_farkas_row) a1.2]), (5, .ref 0 0 0), (6, vi (gI x5.2 a1.1)), (10, .d (.sl t_farkas_row) a1.2), (11, vi (a1.2.length : Int)), (12, vi x2), (32, vb ((decide ((gI x5.2 a1.1) ≥ (0 : Int))) && ((!x5.1) || ((gI x5.2 a1.1) == (0 : Int)))))], [.box [vb x5.1, .d (.sl (.int .i64)) x5.2]]⟩ (by kernel_rfl) (AllP.of (fun hg => ⟨hg, trivial⟩) (AllP.of (fun hg => ⟨hg, trivial⟩) (AllP.of (fun hg => ⟨hg, trivial⟩) (AllP.of (fun hg => ⟨hg, trivial⟩) (AllP.of (fun hg => ⟨hg, fun hc => and_f hg hc⟩) (AllP.of (fun hc => hc) trivial)))))) ?_
    refine then_n (spine_c ?_)
    refine awp_cond (b := (decide ((gI x5.2 a1.1) ≥ (0 : Int))) && ((!x5.1) || ((gI x5.2 a1.1) == (0 : Int)))) (by kernel_rfl) (fun hb => ?_) (fun hb => ?_)
    · replace h := h.1 (hb)
      refine awp_exit (then_x (then_x (then_x (blk_h (then_n (spine_c ?_))))))
      obtain ⟨o3, h⟩ := h
      refine awp_rc tab [1, 10, 11, 12] [] [] [] [-9223372036854775808 ≤ x2 + (1 : Int) ∧ x2 + (1 : Int) ≤ 9223372036854775807] ⟨58, [(1, .er [vi a1.1, .d (.sl t_farkas_row) a1.2]), (10, .d (.sl t_farkas_row) a1.2), (11, vi (a1.2.length : Int)), (12, vi (x2 + (1 : Int)))], [.box [vb x5.1, .d (.sl (.int .i64)) x5.2]]⟩ (by kernel_rfl) (AllP.of (o3) trivial) ?_
      refine then_n (spine_e (then_n (spine_e (then_n (spine_e (then_n (?_)))))))
      obtain ⟨m, hm, h⟩ := h
      exact ⟨m, hm, ⟨58, [(1, .er [vi a1.1, .d (.sl t_farkas_row) a1.2]), (10, .d (.sl t_farkas_row) a1.2), (11, vi (a1.2.length : Int)), (12, vi (x2 + (1 : Int)))], []⟩, wk_ghosts hk (l := [.keep [1, 10, 11, 12], .keep [1, 10, 11, 12], .cut 0, .keep [1, 10, 11, 12]]) (by kernel_rfl), x2 + (1 : Int), h, rfl⟩
    · replace h := h.2 (hb)
      refine awp_skip (then_n (spine_c ?_))
      refine awp_spine ?_
      obtain ⟨o4, o5, o6, h⟩ := h
      refine awp_rc tab [6, 7] [] [(6, .own (.int .i64) (slices_Clone_Sint_int.fn (x5.2.drop (Int.toNat (a1.1 + (1 : Int))))))] [] [-9223372036854775808 ≤ a1.1 + (1 : Int) ∧ a1.1 + (1 : Int) ≤ 9223372036854775807, (0 : Int) ≤ (a1.1 + (1 : Int)) ∧ (a1.1 + (1 : Int)) ≤ (x5.2.length : Int), OkO prog 57 [.d (.sl (.int .i64)) (x5.2.drop (Int.toNat (a1.1 + (1 : Int))))] (.int .i64) (slices_Clone_Sint_int.fn (x5.2.drop (Int.toNat (a1.1 + (1 : Int)))))] ⟨58, [(6, vi (gI x5.2 a1.1)), (7, .osl 1 0)], [.box [vb x5.1, .d (.sl (.int .i64)) x5.2], .row (.int .i64) (slices_Clone_Sint_int.fn (x5.2.drop (Int.toNat (a1.1 + (1 : Int))))) 0]⟩ (by kernel_rfl) (AllP.of (o4) (AllP.of (o5) (AllP.of (ok_slices_Clone_Sint_int (x5.2.drop (Int.toNat (a1.1 + (1 : Int)))) (o6)) trivial))) ?_
      refine then_n (spine_c ?_)
      refine awp_abs (fun (x6 : (List Int)) => ⟨58, [(6, vi (gI x5.2 a1.1)), (7, .osl 1 0)], [.box [vb x5.1, .d (.sl (.int .i64)) x5.2], .row (.int .i64) x6 0]⟩) (slices_Clone_Sint_int.fn (x5.2.drop (Int.toNat (a1.1 + (1 : Int))))) ?_
      intro x6 hx6
      replace h := h x6 hx6
      refine awp_spine ?_
      refine awp_rc tab [7, 41] [] [] [] [] ⟨58, [(7, .osl 1 0), (41, vb (decide ((gI x5.2 a1.1) > (0 : Int))))], [.box [vb x5.1, .d (.sl (.int .i64)) x5.2], .row (.int .i64) x6 0]⟩ (by kernel_rfl) (trivial) ?_
      refine then_n (spine_c ?_)
      refine awp_cond (b := decide ((gI x5.2 a1.1) > (0 : Int))) (by kernel_rfl) (fun hb => ?_) (fun hb => ?_)
      · replace h := h.1 (of_decide_eq_true hb)
        refine awp_spine ?_
        refine awp_rc tab [7, 43, 44] [] [] [] [] ⟨58, [(7, .osl 1 0), (43, vi (x6.length : Int)), (44, vi (0 : Int))], [.box [vb x5.1, .d (.sl (.int .i64)) x5.2], .row (.int .i64) x6 0]⟩ (by kernel_rfl) (trivial) ?_
        refine then_n (spine_c ?_)
        refine awp_block ?_
        obtain ⟨I13, ⟨n13a, hz13⟩, hI13⟩ := h
        refine awp_loopN (fun n s => ∃ (x9 : Int) (x10 : (List Int)), I13 n x9 x10 ∧ s = ⟨58, [(7, .osl 1 0), (43, vi (x6.length : Int)), (44, vi x9)], [.box [vb x5.1, .d (.sl (.int .i64)) x5.2], .row (.int .i64) x10 0]⟩) (n := n13a) (s0 := ⟨58, [(7, .osl 1 0), (43, vi (x6.length : Int)), (44, vi (0 : Int))], [.box [vb x5.1, .d (.sl (.int .i64)) x5.2], .row (.int .i64) x6 0]⟩) (wk_ghosts hk (l := [.keep [7, 43, 44], .keep [7, 43, 44], .keep [7, 43, 44], .keep [7, 43, 44]]) (by kernel_rfl)) ⟨0, x6, hz13, rfl⟩ ?_
        rintro n13 s ⟨x9, x10, hx13, rfl⟩
        have h := hI13 n13 x9 x10 hx13
        refine awp_spine ?_
        refine awp_rc tab [7, 43, 44, 45] [] [] [] [] ⟨58, [(7, .osl 1 0), (43, vi (x6.length : Int)), (44, vi x9), (45, vb (decide (x9 < (x6.length : Int))))], [.box [vb x5.1, .d (.sl (.int .i64)) x5.2], .row (.int .i64) x10 0]⟩ (by kernel_rfl) (trivial) ?_
        refine then_n (spine_c ?_)
        refine awp_spine ?_
        refine awp_cond (b := decide (x9 < (x6.length : Int))) (by kernel_rfl) (fun hb => ?_) (fun hb => ?_)
        · replace h := h.1 (of_decide_eq_true hb)
          refine awp_skip (then_n (spine_c ?_))
          refine awp_spine ?_
          refine awp_block ?_
          refine awp_spine ?_
          refine awp_rc tab [7, 8, 43, 44] [] [] [] [] ⟨58, [(7, .osl 1 0), (8, vi x9), (43, vi (x6.length : Int)), (44, vi x9)], [.box [vb x5.1, .d (.sl (.int .i64)) x5.2], .row (.int .i64) x10 0]⟩ (by kernel_rfl) (trivial) ?_
          refine then_n (spine_c ?_)
          obtain ⟨o7, o8, o9, o10, o11, h⟩ := h
          refine awp_rc tab [7, 43, 44] [] [] [] [(0 : Int) ≤ x9 ∧ x9 < (x10.length : Int), Int.toNat x9 < x10.length, -9223372036854775808 ≤ -(x10.getD (Int.toNat x9) (0 : Int)) ∧ -(x10.getD (Int.toNat x9) (0 : Int)) ≤ 9223372036854775807, (0 : Int) ≤ x9 ∧ x9 < (x10.length : Int), Int.toNat x9 < x10.length] ⟨58, [(7, .osl 1 0), (43, vi (x6.length : Int)), (44, vi x9)], [.box [vb x5.1, .d (.sl (.int .i64)) x5.2], .row (.int .i64) (x10.set (Int.toNat x9) (-(x10.getD (Int.toNat x9) (0 : Int)))) 0]⟩ (by kernel_rfl) (AllP.of (o7) (AllP.of (o8) (AllP.of (o9) (AllP.of (o10) (AllP.of (o11) trivial))))) ?_
          refine then_n (spine_e (blk_n (then_n (spine_c ?_))))
          refine awp_abs (fun (x14 : (List Int)) => ⟨58, [(7, .osl 1 0), (43, vi (x6.length : Int)), (44, vi x9)], [.box [vb x5.1, .d (.sl (.int .i64)) x5.2], .row (.int .i64) x14 0]⟩) (x10.set (Int.toNat x9) (-(x10.getD (Int.toNat x9) (0 : Int)))) ?_
          intro x14 hx14
          replace h := h x14 hx14
          obtain ⟨o12, h⟩ := h
          refine awp_rc tab [7, 43, 44] [] [] [] [-9223372036854775808 ≤ x9 + (1 : Int) ∧ x9 + (1 : Int) ≤ 9223372036854775807] ⟨58, [(7, .osl 1 0), (43, vi (x6.length : Int)), (44, vi (x9 + (1 : Int)))], [.box [vb x5.1, .d (.sl (.int .i64)) x5.2], .row (.int .i64) x14 0]⟩ (by kernel_rfl) (AllP.of (o12) trivial) ?_
          refine then_n (spine_e (then_n (spine_e (then_n (spine_e (then_n (?_)))))))
          obtain ⟨m, hm, h⟩ := h
          exact ⟨m, hm, ⟨58, [(7, .osl 1 0), (43, vi (x6.length : Int)), (44, vi (x9 + (1 : Int)))], [.box [vb x5.1, .d (.sl (.int .i64)) x5.2], .row (.int .i64) x14 0]⟩, wk_ghosts hk (l := [.keep [7, 43, 44], .keep [7, 43, 44], .keep [7, 43, 44]]) (by kernel_rfl), x9 + (1 : Int), x14, h, rfl⟩
        · replace h := h.2 (of_decide_eq_false hb)
          refine awp_exit (then_x (then_x (then_x (blk_h (then_n (spine_e (then_n (spine_c ?_))))))))
          refine awp_spine ?_
          refine awp_rc tab [2, 3] [] [] [] [] ⟨58, [(2, .osl 1 0), (3, vb true)], [.box [vb x5.1, .d (.sl (.int .i64)) x5.2], .row (.int .i64) x10 0]⟩ (by kernel_rfl) (trivial) ?_
          refine then_n (spine_c ?_)
          refine awp_ret (then_r (then_r (then_r (then_r (then_r (then_r (blk_r (then_r (then_r (then_r (then_r (blk_r (then_r (then_r (?_)))))))))))))))
          exact ret_r (m := 0) (r := .tup [.d (.sl (.int .i64)) ((x10, true).1), vb ((x10, true).2)]) (objs := []) hk [.keep [2, 3], .freeze 1] ⟨58, [(2, .d (.sl (.int .i64)) x10), (3, vb true)], [.box [vb x5.1, .d (.sl (.int .i64)) x5.2], .dead]⟩ (by kernel_rfl) (by kernel_rfl) (Nat.le_refl 0) ⟨(x10, true), rfl, rfl, h⟩
      · replace h := h.2 (of_decide_eq_false hb)
        refine awp_skip (then_n (spine_c ?_))
        refine awp_spine ?_
        refine awp_rc tab [2, 3] [] [] [] [] ⟨58, [(2, .osl 1 0), (3, vb true)], [.box [vb x5.1, .d (.sl (.int .i64)) x5.2], .row (.int .i64) x6 0]⟩ (by kernel_rfl) (trivial) ?_
        refine then_n (spine_c ?_)
        refine awp_ret (then_r (then_r (then_r (then_r (then_r (then_r (blk_r (then_r (then_r (then_r (then_r (blk_r (then_r (then_r (?_)))))))))))))))
        exact ret_r (m := 0) (r := .tup [.d (.sl (.int .i64)) ((x6, true).1), vb ((x6, true).2)]) (objs := []) hk [.keep [2, 3], .freeze 1] ⟨58, [(2, .d (.sl (.int .i64)) x6), (3, vb true)], [.box [vb x5.1, .d (.sl (.int .i64)) x5.2], .dead]⟩ (by kernel_rfl) (by kernel_rfl) (Nat.le_refl 0) ⟨(x6, true), rfl, rfl, h⟩
  · replace h := h.2 (of_decide_eq_false hb)
    refine awp_exit (then_x (then_x (then_x (blk_h (then_n (spine_c ?_))))))
    refine awp_spine ?_
    refine awp_rc tab [2, 3] [] [] [] [] ⟨58, [(2, .nils), (3, vb false)], []⟩ (by kernel_rfl) (trivial) ?_
    refine then_n (spine_c ?_)
    refine awp_ret (then_r (then_r (then_r (?_))))
    exact ret_r (m := 0) (r := .tup [.d (.sl (.int .i64)) ((([] : List Int), false).1), vb ((([] : List Int), false).2)]) (objs := []) hk [.keep [2, 3], .nilAt 2 [] (.int .i64), .keep [2, 3]] ⟨58, [(2, .d (.sl (.int .i64)) ([] : List Int)), (3, vb false)], []⟩ (by kernel_rfl) (by kernel_rfl) (Nat.le_refl 0) ⟨(([] : List Int), false), rfl, rfl, h⟩
theorem ok_farkas_table_refuted (a1 : farkas_table) (h : farkas_table_refuted.pre a1) : OkC prog 27 [.agg [vi a1.1, .d (.sl t_farkas_row) a1.2]] (.tup [.d (.sl (.int .i64)) ((farkas_table_refuted.fn a1).1), vb ((farkas_table_refuted.fn a1).2)]) :=
  OkC.of call_farkas_table_refuted ((walk_farkas_table_refuted a1 _ (farkas_table_refuted.spec a1 h)).mono fun r o ⟨x, hr, ho, hx⟩ => ⟨by rw [hr, hx], ho⟩) rfl rfl (fun _ => rfl)

end Go.Proofs.Ytlncingakpelbaa
