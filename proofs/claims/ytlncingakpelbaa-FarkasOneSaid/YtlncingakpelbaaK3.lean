/- Part of a proof that a law of the program holds for every input: printed by a program of this work. No conditions. -/
import Derived.Test.YtlncingakpelbaaK2
namespace Go.Proofs.Ytlncingakpelbaa
open Go
set_option linter.unusedVariables false
set_option maxHeartbeats 4000000

noncomputable abbrev Bfarkas_vector_int_by : Code := bodyOf Try.f99
theorem call_farkas_vector_int_by : CallOk prog 99 := ⟨_, Try.func99, by kernel_rfl, by kernel_rfl⟩
theorem walk_farkas_vector_int_by (a1 : (List Int)) (a2 : Int) (Q : (List Int) → Prop) (h : farkas_vector_int_by.wp a1 a2 Q) : VCalls prog 99 [.d (.sl (.int .i64)) a1, vi a2] [] (fun r o => ∃ x, r = .d (.sl (.int .i64)) x ∧ o = [] ∧ Q x) := by
  refine vcalls_body tab Try.func99 (c := (spine (subC [0] Bfarkas_vector_int_by) [(spine (subC [1, 0] Bfarkas_vector_int_by) [(spine (subC [1, 1, 0] Bfarkas_vector_int_by) [(spine (subC [1, 1, 1, 0, 0] Bfarkas_vector_int_by) [(.block 0 (.loop (spine (subC [1, 1, 1, 0, 1, 0, 0, 0] Bfarkas_vector_int_by) [(spine (.cond (.tmp 16) .skip (.exit 0)) [(spine (.block 1 (spine (subC [1, 1, 1, 0, 1, 0, 0, 1, 1, 0, 0, 0] Bfarkas_vector_int_by) [(subC [1, 1, 1, 0, 1, 0, 0, 1, 1, 0, 0, 1] Bfarkas_vector_int_by)])) [(subC [1, 1, 1, 0, 1, 0, 0, 1, 1, 1] Bfarkas_vector_int_by)])])]))), (spine (subC [1, 1, 1, 1, 0] Bfarkas_vector_int_by) [.ret])])])])])) (by kernel_rfl) (Nat.le_of_ble_eq_true (by kernel_rfl)) fun cx hd hi hk => ?_
  show AWp prog cx _ _ ⟨27, [(0, .d (.sl (.int .i64)) a1), (1, vi a2)], []⟩
  replace hk : cx.E.len = 0 := hk
  unfold farkas_vector_int_by.wp at h
  refine awp_spine ?_
  refine awp_rc tab [0, 1] [] [] [] [] ⟨27, [(0, .d (.sl (.int .i64)) a1), (1, vi a2)], []⟩ (by kernel_rfl) (trivial) ?_
  refine then_n (spine_c ?_)
  refine awp_spine ?_
  obtain ⟨o1, h⟩ := h
  refine awp_rc tab [0, 1, 5] [] [] [] [(0 : Int) ≤ (a1.length : Int) ∧ (a1.length : Int) ≤ (a1.length : Int) ∧ (a1.length : Int) * 8 ≤ 140737488355328 ∧ (a1.length : Int) ≤ 9223372036854775807] ⟨27, [(0, .d (.sl (.int .i64)) a1), (1, vi a2), (5, .osl 0 0)], [.row (.int .i64) (List.replicate (Int.toNat (a1.length : Int)) (0 : Int)) 0]⟩ (by kernel_rfl) (AllP.of (o1) trivial) ?_
  refine then_n (spine_c ?_)
  refine awp_abs (fun (x1 : (List Int)) => ⟨27, [(0, .d (.sl (.int .i64)) a1), (1, vi a2), (5, .osl 0 0)], [.row (.int .i64) x1 0]⟩) (List.replicate (Int.toNat (a1.length : Int)) (0 : Int)) ?_
  intro x1 hx1
  replace h := h x1 hx1
  refine awp_len 0 [] (T := (.int .i64)) (l := a1) (by kernel_rfl) fun hl => ?_
  replace h := h hl
  refine awp_spine ?_
  refine awp_rc tab [1, 5] [] [] [] [] ⟨27, [(1, vi a2), (5, .osl 0 0)], [.row (.int .i64) (a1.take (min a1.length x1.length) ++ x1.drop (min a1.length x1.length)) 0]⟩ (by kernel_rfl) (trivial) ?_
  refine then_n (spine_c ?_)
  refine awp_abs (fun (x2 : (List Int)) => ⟨27, [(1, vi a2), (5, .osl 0 0)], [.row (.int .i64) x2 0]⟩) (a1.take (min a1.length x1.length) ++ x1.drop (min a1.length x1.length)) ?_
  intro x2 hx2
  replace h := h x2 hx2
  refine awp_spine ?_
  refine awp_rc tab [1, 5, 14, 15] [] [] [] [] ⟨27, [(1, vi a2), (5, .osl 0 0), (14, vi (x2.length : Int)), (15, vi (0 : Int))], [.row (.int .i64) x2 0]⟩ (by kernel_rfl) (trivial) ?_
  refine then_n (spine_c ?_)
  refine awp_block ?_
  obtain ⟨I9, ⟨n9a, hz9⟩, hI9⟩ := h
  refine awp_loopN (fun n s => ∃ (x5 : Int) (x6 : (List Int)), I9 n x5 x6 ∧ s = ⟨27, [(1, vi a2), (5, .osl 0 0), (14, vi (x2.length : Int)), (15, vi x5)], [.row (.int .i64) x6 0]⟩) (n := n9a) (s0 := ⟨27, [(1, vi a2), (5, .osl 0 0), (14, vi (x2.length : Int)), (15, vi (0 : Int))], [.row (.int .i64) x2 0]⟩) (wk_ghosts hk (l := [.keep [1, 5, 14, 15], .keep [1, 5, 14, 15], .keep [1, 5, 14, 15], .keep [1, 5, 14, 15]]) (by kernel_rfl)) ⟨0, x2, hz9, rfl⟩ ?_
  rintro n9 s ⟨x5, x6, hx9, rfl⟩
  have h := hI9 n9 x5 x6 hx9
  refine awp_spine ?_
  refine awp_rc tab [1, 5, 14, 15, 16] [] [] [] [] ⟨27, [(1, vi a2), (5, .osl 0 0), (14, vi (x2.length : Int)), (15, vi x5), (16, vb (decide (x5 < (x2.length : Int))))], [.row (.int .i64) x6 0]⟩ (by kernel_rfl) (trivial) ?_
  refine then_n (spine_c ?_)
  refine awp_spine ?_
  refine awp_cond (b := decide (x5 < (x2.length : Int))) (by kernel_rfl) (fun hb => ?_) (fun hb => ?_)
  · replace h := h.1 (of_decide_eq_true hb)
    refine awp_skip (then_n (spine_c ?_))
    refine awp_spine ?_
    refine awp_block ?_
    refine awp_spine ?_
    refine awp_rc tab [1, 5, 6, 14, 15] [] [] [] [] ⟨27, [(1, vi a2), (5, .osl 0 0), (6, vi x5), (14, vi (x2.length : Int)), (15, vi x5)], [.row (.int .i64) x6 0]⟩ (by kernel_rfl) (trivial) ?_
    refine then_n (spine_c ?_)
    obtain ⟨o2, o3, o4, o5, o6, h⟩ := h
    refine awp_rc tab [1, 5, 14, 15] [] [] [] [(0 : Int) ≤ x5 ∧ x5 < (x6.length : Int), Int.toNat x5 < x6.length, a2 ≠ 0 ∧ -9223372036854775808 ≤ Int.tdiv (x6.getD (Int.toNat x5) (0 : Int)) a2 ∧ Int.tdiv (x6.getD (Int.toNat x5) (0 : Int)) a2 ≤ 9223372036854775807, (0 : Int) ≤ x5 ∧ x5 < (x6.length : Int), Int.toNat x5 < x6.length] ⟨27, [(1, vi a2), (5, .osl 0 0), (14, vi (x2.length : Int)), (15, vi x5)], [.row (.int .i64) (x6.set (Int.toNat x5) (Int.tdiv (x6.getD (Int.toNat x5) (0 : Int)) a2)) 0]⟩ (by kernel_rfl) (AllP.of (o2) (AllP.of (o3) (AllP.of (o4) (AllP.of (o5) (AllP.of (o6) trivial))))) ?_
    refine then_n (spine_e (blk_n (then_n (spine_c ?_))))
    refine awp_abs (fun (x10 : (List Int)) => ⟨27, [(1, vi a2), (5, .osl 0 0), (14, vi (x2.length : Int)), (15, vi x5)], [.row (.int .i64) x10 0]⟩) (x6.set (Int.toNat x5) (Int.tdiv (x6.getD (Int.toNat x5) (0 : Int)) a2)) ?_
    intro x10 hx10
    replace h := h x10 hx10
    obtain ⟨o7, h⟩ := h
    refine awp_rc tab [1, 5, 14, 15] [] [] [] [-9223372036854775808 ≤ x5 + (1 : Int) ∧ x5 + (1 : Int) ≤ 9223372036854775807] ⟨27, [(1, vi a2), (5, .osl 0 0), (14, vi (x2.length : Int)), (15, vi (x5 + (1 : Int)))], [.row (.int .i64) x10 0]⟩ (by kernel_rfl) (AllP.of (o7) trivial) ?_
    refine then_n (spine_e (then_n (spine_e (then_n (spine_e (then_n (?_)))))))
    obtain ⟨m, hm, h⟩ := h
    exact ⟨m, hm, ⟨27, [(1, vi a2), (5, .osl 0 0), (14, vi (x2.length : Int)), (15, vi (x5 + (1 : Int)))], [.row (.int .i64) x10 0]⟩, wk_ghosts hk (l := [.keep [1, 5, 14, 15], .keep [1, 5, 14, 15], .keep [1, 5, 14, 15]]) (by kernel_rfl), x5 + (1 : Int), x10, h, rfl⟩
  · replace h := h.2 (of_decide_eq_false hb)
    refine awp_exit (then_x (then_x (then_x (blk_h (then_n (spine_c ?_))))))
    refine awp_spine ?_
    refine awp_rc tab [4] [] [] [] [] ⟨27, [(4, .osl 0 0)], [.row (.int .i64) x6 0]⟩ (by kernel_rfl) (trivial) ?_
    refine then_n (spine_c ?_)
    refine awp_ret (then_r (then_r (then_r (then_r (then_r (?_))))))
    exact ret_r (m := 0) (r := .d (.sl (.int .i64)) x6) (objs := []) hk [.keep [4], .freeze 0] ⟨27, [(4, .d (.sl (.int .i64)) x6)], [.dead]⟩ (by kernel_rfl) (by kernel_rfl) (Nat.le_refl 0) ⟨x6, rfl, rfl, h⟩
theorem ok_farkas_vector_int_by (a1 : (List Int)) (a2 : Int) (h : farkas_vector_int_by.pre a1 a2) : OkC prog 99 [.d (.sl (.int .i64)) a1, vi a2] (.d (.sl (.int .i64)) (farkas_vector_int_by.fn a1 a2)) :=
  OkC.of call_farkas_vector_int_by ((walk_farkas_vector_int_by a1 a2 _ (farkas_vector_int_by.spec a1 a2 h)).mono fun r o ⟨x, hr, ho, hx⟩ => ⟨by rw [hr, hx], ho⟩) rfl rfl (fun _ => rfl)

noncomputable abbrev Bnum_common : Code := bodyOf Try.f86
theorem call_num_common : CallOk prog 86 := ⟨_, Try.func86, by kernel_rfl, by kernel_rfl⟩
theorem walk_num_common (a1 : Int) (a2 : Int) (Q : Int → Prop) (h : num_common.wp a1 a2 Q) : VCalls prog 86 [.d (.int .u64) a1, .d (.int .u64) a2] [] (fun r o => ∃ x, r = .d (.int .u64) x ∧ o = [] ∧ Q x) := by
  refine vcalls_body tab Try.func86 (c := (spine (subC [0] Bnum_common) [(spine (.block 0 (.loop (spine (subC [1, 0, 0, 0, 0, 0] Bnum_common) [(.cond (.tmp 6) .skip (.exit 0)), (.block 1 (subC [1, 0, 0, 0, 1, 0] Bnum_common))]))) [(spine (subC [1, 1, 0] Bnum_common) [.ret])])])) (by kernel_rfl) (Nat.le_of_ble_eq_true (by kernel_rfl)) fun cx hd hi hk => ?_
  show AWp prog cx _ _ ⟨12, [(0, .d (.int .u64) a1), (1, .d (.int .u64) a2)], []⟩
  replace hk : cx.E.len = 0 := hk
  unfold num_common.wp at h
  refine awp_spine ?_
  refine awp_rc tab [0, 1] [] [] [] [] ⟨12, [(0, .d (.int .u64) a1), (1, .d (.int .u64) a2)], []⟩ (by kernel_rfl) (trivial) ?_
  refine then_n (spine_c ?_)
  refine awp_spine ?_
  refine awp_block ?_
  obtain ⟨I7, ⟨n7a, hz7⟩, hI7⟩ := h
  refine awp_loopN (fun n s => ∃ (x3 : Int) (x4 : Int), I7 n x3 x4 ∧ s = ⟨12, [(0, .d (.int .u64) x3), (1, .d (.int .u64) x4)], []⟩) (n := n7a) (s0 := ⟨12, [(0, .d (.int .u64) a1), (1, .d (.int .u64) a2)], []⟩) (wk_ghosts hk (l := [.keep [0, 1], .keep [0, 1], .keep [0, 1], .keep [0, 1]]) (by kernel_rfl)) ⟨a1, a2, hz7, rfl⟩ ?_
  rintro n7 s ⟨x3, x4, hx7, rfl⟩
  have h := hI7 n7 x3 x4 hx7
  refine awp_spine ?_
  refine awp_rc tab [0, 1, 6] [1] [] [] [] ⟨12, [(0, .d (.int .u64) x3), (1, .d (.int .u64) x4), (6, vb (decide (x4 > (0 : Int))))], []⟩ (by kernel_rfl) (trivial) ?_
  refine then_n (spine_c ?_)
  refine awp_cond (b := decide (x4 > (0 : Int))) (by kernel_rfl) (fun hb => ?_) (fun hb => ?_)
  · replace h := h.1 (of_decide_eq_true hb)
    refine awp_skip (then_n (spine_c ?_))
    refine awp_block ?_
    obtain ⟨o1, h⟩ := h
    refine awp_dr tab mixed [0, 1] [3] [] [] ⟨[[], [], [], [1, 2], [0, 1], [0, 1, 2, 3, 4]], [.d (.int .u64) x4, .d (.int .u64) x3, .d (.int .u64) x4, .d (.int .u64) (Int.tmod x3 x4), .d (.int .u64) x4, .d (.int .u64) (Int.tmod x3 x4)], [none, none, none, some (x4 ≠ 0), none, none], [], [([], [])]⟩ ⟨12, [(0, .d (.int .u64) x4), (1, .d (.int .u64) (Int.tmod x3 x4))], []⟩ (by kernel_rfl) (AllO.n (AllO.n (AllO.n (AllO.s (o1) (AllO.n (AllO.n (AllO.e))))))) ?_
    refine blk_n (then_n (spine_e (then_n (?_))))
    obtain ⟨m, hm, h⟩ := h
    exact ⟨m, hm, ⟨12, [(0, .d (.int .u64) x4), (1, .d (.int .u64) (Int.tmod x3 x4))], []⟩, wk_ghosts hk (l := [.keep [0, 1], .keep [0, 1], .keep [0, 1]]) (by kernel_rfl), x4, Int.tmod x3 x4, h, rfl⟩
  · replace h := h.2 (of_decide_eq_false hb)
    refine awp_exit (then_x (then_x (blk_h (then_n (spine_c ?_)))))
    refine awp_spine ?_
    refine awp_rc tab [4] [] [] [] [] ⟨12, [(4, .d (.int .u64) x3)], []⟩ (by kernel_rfl) (trivial) ?_
    refine then_n (spine_c ?_)
    refine awp_ret (then_r (then_r (then_r (?_))))
    exact ret_r (m := 0) (r := .d (.int .u64) x3) (objs := []) hk [.keep [4]] ⟨12, [(4, .d (.int .u64) x3)], []⟩ (by kernel_rfl) (by kernel_rfl) (Nat.le_refl 0) ⟨x3, rfl, rfl, h⟩
theorem ok_num_common (a1 : Int) (a2 : Int) (h : num_common.pre a1 a2) : OkC prog 86 [.d (.int .u64) a1, .d (.int .u64) a2] (.d (.int .u64) (num_common.fn a1 a2)) :=
  OkC.of call_num_common ((walk_num_common a1 a2 _ (num_common.spec a1 a2 h)).mono fun r o ⟨x, hr, ho, hx⟩ => ⟨by rw [hr, hx], ho⟩) rfl rfl (fun _ => rfl)

noncomputable abbrev Bnum_size : Code := bodyOf Try.f87
theorem call_num_size : CallOk prog 87 := ⟨_, Try.func87, by kernel_rfl, by kernel_rfl⟩
theorem walk_num_size (a1 : Int) (Q : Int → Prop) (h : num_size.wp a1 Q) : VCalls prog 87 [vi a1] [] (fun r o => ∃ x, r = .d (.int .u64) x ∧ o = [] ∧ Q x) := by
  refine vcalls_body tab Try.func87 (c := (spine (subC [0] Bnum_size) [(spine (subC [1, 0, 0] Bnum_size) [(.cond (.tmp 4) (spine (subC [1, 0, 1, 0, 0] Bnum_size) [.ret]) .skip), (spine (subC [1, 1, 0] Bnum_size) [.ret])])])) (by kernel_rfl) (Nat.le_of_ble_eq_true (by kernel_rfl)) fun cx hd hi hk => ?_
  show AWp prog cx _ _ ⟨10, [(0, vi a1)], []⟩
  replace hk : cx.E.len = 0 := hk
  unfold num_size.wp at h
  refine awp_spine ?_
  refine awp_rc tab [0] [] [] [] [] ⟨10, [(0, vi a1)], []⟩ (by kernel_rfl) (trivial) ?_
  refine then_n (spine_c ?_)
  refine awp_spine ?_
  refine awp_rc tab [0, 4] [] [] [] [] ⟨10, [(0, vi a1), (4, vb (decide (a1 < (0 : Int))))], []⟩ (by kernel_rfl) (trivial) ?_
  refine then_n (spine_c ?_)
  refine awp_cond (b := decide (a1 < (0 : Int))) (by kernel_rfl) (fun hb => ?_) (fun hb => ?_)
  · replace h := h.1 (of_decide_eq_true hb)
    refine awp_spine ?_
    refine awp_rc tab [2] [1, 2] [] [] [] ⟨10, [(2, .d (.int .u64) (IntKind.wrap .u64 (-(IntKind.wrap .u64 a1))))], []⟩ (by kernel_rfl) (trivial) ?_
    refine then_n (spine_c ?_)
    refine awp_abs (fun (x1 : Int) => ⟨10, [(2, .d (.int .u64) x1)], []⟩) (IntKind.wrap .u64 (-(IntKind.wrap .u64 a1))) ?_
    intro x1 hx1
    replace h := h x1 hx1
    refine awp_ret (then_r (then_r (then_r (?_))))
    exact ret_r (m := 0) (r := .d (.int .u64) x1) (objs := []) hk [.keep [2]] ⟨10, [(2, .d (.int .u64) x1)], []⟩ (by kernel_rfl) (by kernel_rfl) (Nat.le_refl 0) ⟨x1, rfl, rfl, h⟩
  · replace h := h.2 (of_decide_eq_false hb)
    refine awp_skip (then_n (spine_c ?_))
    refine awp_spine ?_
    refine awp_rc tab [2] [1] [] [] [] ⟨10, [(2, .d (.int .u64) (IntKind.wrap .u64 a1))], []⟩ (by kernel_rfl) (trivial) ?_
    refine then_n (spine_c ?_)
    refine awp_ret (then_r (then_r (then_r (?_))))
    exact ret_r (m := 0) (r := .d (.int .u64) (IntKind.wrap .u64 a1)) (objs := []) hk [.keep [2]] ⟨10, [(2, .d (.int .u64) (IntKind.wrap .u64 a1))], []⟩ (by kernel_rfl) (by kernel_rfl) (Nat.le_refl 0) ⟨IntKind.wrap .u64 a1, rfl, rfl, h⟩
theorem ok_num_size (a1 : Int) (h : num_size.pre a1) : OkC prog 87 [vi a1] (.d (.int .u64) (num_size.fn a1)) :=
  OkC.of call_num_size ((walk_num_size a1 _ (num_size.spec a1 h)).mono fun r o ⟨x, hr, ho, hx⟩ => ⟨by rw [hr, hx], ho⟩) rfl rfl (fun _ => rfl)

noncomputable abbrev Bnum_Gcd_1 : Code := bodyOf Try.f85
theorem call_num_Gcd_1 : CallOk prog 85 := ⟨_, Try.func85, by kernel_rfl, by kernel_rfl⟩
theorem walk_num_Gcd_1 (a1 : Int) (a2 : Int) (Q : Int → Prop) (h : num_Gcd_1.wp a1 a2 Q) : VCalls prog 85 [.d (.int .u64) a1, vi a2] [] (fun r o => ∃ x, r = .d (.int .u64) x ∧ o = [] ∧ Q x) := by
  refine vcalls_body tab Try.func85 (c := (spine (subC [0] Bnum_Gcd_1) [(spine (subC [1, 0] Bnum_Gcd_1) [.ret])])) (by kernel_rfl) (Nat.le_of_ble_eq_true (by kernel_rfl)) fun cx hd hi hk => ?_
  show AWp prog cx _ _ ⟨9, [(0, .d (.int .u64) a1), (1, vi a2)], []⟩
  replace hk : cx.E.len = 0 := hk
  unfold num_Gcd_1.wp at h
  refine awp_spine ?_
  refine awp_rc tab [0, 1] [] [] [] [] ⟨9, [(0, .d (.int .u64) a1), (1, vi a2)], []⟩ (by kernel_rfl) (trivial) ?_
  refine then_n (spine_c ?_)
  refine awp_spine ?_
  obtain ⟨o1, o2, h⟩ := h
  refine awp_rc tab [4] [] [(2, .dat (.d (.int .u64) (num_size.fn a2))), (3, .dat (.d (.int .u64) (num_common.fn a1 (num_size.fn a2))))] [] [OkC prog 87 [vi a2] (.d (.int .u64) (num_size.fn a2)), OkC prog 86 [.d (.int .u64) a1, .d (.int .u64) (num_size.fn a2)] (.d (.int .u64) (num_common.fn a1 (num_size.fn a2)))] ⟨9, [(4, .d (.int .u64) (num_common.fn a1 (num_size.fn a2)))], []⟩ (by kernel_rfl) (AllP.of (ok_num_size a2 (o1)) (AllP.of (ok_num_common a1 (num_size.fn a2) (o2)) trivial)) ?_
  refine then_n (spine_c ?_)
  refine awp_abs (fun (x1 : Int) => ⟨9, [(4, .d (.int .u64) (num_common.fn a1 x1))], []⟩) (num_size.fn a2) ?_
  intro x1 hx1
  replace h := h x1 hx1
  refine awp_abs (fun (x2 : Int) => ⟨9, [(4, .d (.int .u64) x2)], []⟩) (num_common.fn a1 x1) ?_
  intro x2 hx2
  replace h := h x2 hx2
  refine awp_ret (then_r (then_r (?_)))
  exact ret_r (m := 0) (r := .d (.int .u64) x2) (objs := []) hk [.keep [4]] ⟨9, [(4, .d (.int .u64) x2)], []⟩ (by kernel_rfl) (by kernel_rfl) (Nat.le_refl 0) ⟨x2, rfl, rfl, h⟩
theorem ok_num_Gcd_1 (a1 : Int) (a2 : Int) (h : num_Gcd_1.pre a1 a2) : OkC prog 85 [.d (.int .u64) a1, vi a2] (.d (.int .u64) (num_Gcd_1.fn a1 a2)) :=
  OkC.of call_num_Gcd_1 ((walk_num_Gcd_1 a1 a2 _ (num_Gcd_1.spec a1 a2 h)).mono fun r o ⟨x, hr, ho, hx⟩ => ⟨by rw [hr, hx], ho⟩) rfl rfl (fun _ => rfl)

noncomputable abbrev Bnum_fold_uint64__num_Gcd_1 : Code := bodyOf Try.f84
theorem call_num_fold_uint64__num_Gcd_1 : CallOk prog 84 := ⟨_, Try.func84, by kernel_rfl, by kernel_rfl⟩
theorem walk_num_fold_uint64__num_Gcd_1 (a1 : (List Int)) (a2 : Int) (Q : Int → Prop) (h : num_fold_uint64__num_Gcd_1.wp a1 a2 Q) : VCalls prog 84 [.d (.sl (.int .i64)) a1, .d (.int .u64) a2, .fn (.func 85) [] []] [] (fun r o => ∃ x, r = .d (.int .u64) x ∧ o = [] ∧ Q x) := by
  refine vcalls_body tab Try.func84 (c := (spine (subC [0] Bnum_fold_uint64__num_Gcd_1) [(spine (subC [1, 0, 0] Bnum_fold_uint64__num_Gcd_1) [(.block 0 (.loop (spine (subC [1, 0, 1, 0, 0, 0] Bnum_fold_uint64__num_Gcd_1) [(spine (.cond (.tmp 12) .skip (.exit 0)) [(spine (.block 1 (spine (subC [1, 0, 1, 0, 0, 1, 1, 0, 0, 0] Bnum_fold_uint64__num_Gcd_1) [(subC [1, 0, 1, 0, 0, 1, 1, 0, 0, 1] Bnum_fold_uint64__num_Gcd_1)])) [(subC [1, 0, 1, 0, 0, 1, 1, 1] Bnum_fold_uint64__num_Gcd_1)])])]))), (spine (subC [1, 1, 0] Bnum_fold_uint64__num_Gcd_1) [.ret])])])) (by kernel_rfl) (Nat.le_of_ble_eq_true (by kernel_rfl)) fun cx hd hi hk => ?_
  show AWp prog cx _ _ ⟨21, [(0, .d (.sl (.int .i64)) a1), (1, .d (.int .u64) a2), (2, .fn (.func 85) [] [])], []⟩
  replace hk : cx.E.len = 0 := hk
  unfold num_fold_uint64__num_Gcd_1.wp at h
  refine awp_spine ?_
  refine awp_rc tab [0, 1, 2] [] [] [] [] ⟨21, [(0, .d (.sl (.int .i64)) a1), (1, .d (.int .u64) a2), (2, .fn (.func 85) [] [])], []⟩ (by kernel_rfl) (trivial) ?_
  refine then_n (spine_c ?_)
  refine awp_spine ?_
  refine awp_rc tab [1, 2, 9, 10, 11] [] [] [] [] ⟨21, [(1, .d (.int .u64) a2), (2, .fn (.func 85) [] []), (9, .d (.sl (.int .i64)) a1), (10, vi (a1.length : Int)), (11, vi (0 : Int))], []⟩ (by kernel_rfl) (trivial) ?_
  refine then_n (spine_c ?_)
  refine awp_len 9 [] (T := (.int .i64)) (l := a1) (by kernel_rfl) fun hl => ?_
  replace h := h hl
  refine awp_block ?_
  obtain ⟨I7, ⟨n7a, hz7⟩, hI7⟩ := h
  refine awp_loopN (fun n s => ∃ (x3 : Int) (x4 : Int), I7 n x3 x4 ∧ s = ⟨21, [(1, .d (.int .u64) x3), (2, .fn (.func 85) [] []), (9, .d (.sl (.int .i64)) a1), (10, vi (a1.length : Int)), (11, vi x4)], []⟩) (n := n7a) (s0 := ⟨21, [(1, .d (.int .u64) a2), (2, .fn (.func 85) [] []), (9, .d (.sl (.int .i64)) a1), (10, vi (a1.length : Int)), (11, vi (0 : Int))], []⟩) (wk_ghosts hk (l := [.keep [1, 2, 9, 10, 11], .keep [1, 2, 9, 10, 11], .keep [1, 2, 9, 10, 11], .keep [1, 2, 9, 10, 11]]) (by kernel_rfl)) ⟨a2, 0, hz7, rfl⟩ ?_
  rintro n7 s ⟨x3, x4, hx7, rfl⟩
  have h := hI7 n7 x3 x4 hx7
  refine awp_spine ?_
  refine awp_rc tab [1, 2, 9, 10, 11, 12] [] [] [] [] ⟨21, [(1, .d (.int .u64) x3), (2, .fn (.func 85) [] []), (9, .d (.sl (.int .i64)) a1), (10, vi (a1.length : Int)), (11, vi x4), (12, vb (decide (x4 < (a1.length : Int))))], []⟩ (by kernel_rfl) (trivial) ?_
  refine then_n (spine_c ?_)
  refine awp_spine ?_
  refine awp_cond (b := decide (x4 < (a1.length : Int))) (by kernel_rfl) (fun hb => ?_) (fun hb => ?_)
  · replace h := h.1 (of_decide_eq_true hb)
    refine awp_skip (then_n (spine_c ?_))
    refine awp_spine ?_
    refine awp_block ?_
    refine awp_spine ?_
    obtain ⟨o1, h⟩ := h
    refine awp_rc tab [1, 2, 8, 9, 10, 11] [] [] [] [(0 : Int) ≤ x4 ∧ x4 < (a1.length : Int)] ⟨21, [(1, .d (.int .u64) x3), (2, .fn (.func 85) [] []), (8, vi (gI a1 x4)), (9, .d (.sl (.int .i64)) a1), (10, vi (a1.length : Int)), (11, vi x4)], []⟩ (by kernel_rfl) (AllP.of (o1) trivial) ?_
    refine then_n (spine_c ?_)
    obtain ⟨o2, h⟩ := h
    refine awp_rc tab [1, 2, 9, 10, 11] [] [(3, .dat (.d (.int .u64) (num_Gcd_1.fn x3 (gI a1 x4))))] [] [OkC prog 85 [.d (.int .u64) x3, vi (gI a1 x4)] (.d (.int .u64) (num_Gcd_1.fn x3 (gI a1 x4)))] ⟨21, [(1, .d (.int .u64) (num_Gcd_1.fn x3 (gI a1 x4))), (2, .fn (.func 85) [] []), (9, .d (.sl (.int .i64)) a1), (10, vi (a1.length : Int)), (11, vi x4)], []⟩ (by kernel_rfl) (AllP.of (ok_num_Gcd_1 x3 (gI a1 x4) (o2)) trivial) ?_
    refine then_n (spine_e (blk_n (then_n (spine_c ?_))))
    refine awp_abs (fun (x8 : Int) => ⟨21, [(1, .d (.int .u64) x8), (2, .fn (.func 85) [] []), (9, .d (.sl (.int .i64)) a1), (10, vi (a1.length : Int)), (11, vi x4)], []⟩) (num_Gcd_1.fn x3 (gI a1 x4)) ?_
    intro x8 hx8
    replace h := h x8 hx8
    obtain ⟨o3, h⟩ := h
    refine awp_rc tab [1, 2, 9, 10, 11] [] [] [] [-9223372036854775808 ≤ x4 + (1 : Int) ∧ x4 + (1 : Int) ≤ 9223372036854775807] ⟨21, [(1, .d (.int .u64) x8), (2, .fn (.func 85) [] []), (9, .d (.sl (.int .i64)) a1), (10, vi (a1.length : Int)), (11, vi (x4 + (1 : Int)))], []⟩ (by kernel_rfl) (AllP.of (o3) trivial) ?_
    refine then_n (spine_e (then_n (spine_e (then_n (spine_e (then_n (?_)))))))
    obtain ⟨m, hm, h⟩ := h
    exact ⟨m, hm, ⟨21, [(1, .d (.int .u64) x8), (2, .fn (.func 85) [] []), (9, .d (.sl (.int .i64)) a1), (10, vi (a1.length : Int)), (11, vi (x4 + (1 : Int)))], []⟩, wk_ghosts hk (l := [.keep [1, 2, 9, 10, 11], .keep [1, 2, 9, 10, 11], .keep [1, 2, 9, 10, 11]]) (by kernel_rfl), x8, x4 + (1 : Int), h, rfl⟩
  · replace h := h.2 (of_decide_eq_false hb)
    refine awp_exit (then_x (then_x (then_x (blk_h (then_n (spine_c ?_))))))
    refine awp_spine ?_
    refine awp_rc tab [6] [] [] [] [] ⟨21, [(6, .d (.int .u64) x3)], []⟩ (by kernel_rfl) (trivial) ?_
    refine then_n (spine_c ?_)
    refine awp_ret (then_r (then_r (then_r (?_))))
    exact ret_r (m := 0) (r := .d (.int .u64) x3) (objs := []) hk [.keep [6]] ⟨21, [(6, .d (.int .u64) x3)], []⟩ (by kernel_rfl) (by kernel_rfl) (Nat.le_refl 0) ⟨x3, rfl, rfl, h⟩
theorem ok_num_fold_uint64__num_Gcd_1 (a1 : (List Int)) (a2 : Int) (h : num_fold_uint64__num_Gcd_1.pre a1 a2) : OkC prog 84 [.d (.sl (.int .i64)) a1, .d (.int .u64) a2, .fn (.func 85) [] []] (.d (.int .u64) (num_fold_uint64__num_Gcd_1.fn a1 a2)) :=
  OkC.of call_num_fold_uint64__num_Gcd_1 ((walk_num_fold_uint64__num_Gcd_1 a1 a2 _ (num_fold_uint64__num_Gcd_1.spec a1 a2 h)).mono fun r o ⟨x, hr, ho, hx⟩ => ⟨by rw [hr, hx], ho⟩) rfl rfl (fun _ => rfl)

noncomputable abbrev Bnum_Gcd : Code := bodyOf Try.f59
theorem call_num_Gcd : CallOk prog 59 := ⟨_, Try.func59, by kernel_rfl, by kernel_rfl⟩
theorem walk_num_Gcd (a1 : (List Int)) (Q : Int × Int → Prop) (h : num_Gcd.wp a1 Q) : VCalls prog 59 [.d (.sl (.int .i64)) a1] [] (fun r o => ∃ x, r = .tup [vi x.1, vi x.2] ∧ o = [] ∧ Q x) := by
  refine vcalls_body tab Try.func59 (c := (spine (subC [0] Bnum_Gcd) [(spine (subC [1, 0] Bnum_Gcd) [(spine (subC [1, 1, 0, 0] Bnum_Gcd) [(.cond (.tmp 8) (spine (subC [1, 1, 0, 1, 0, 0] Bnum_Gcd) [.ret]) .skip), (spine (subC [1, 1, 1, 0] Bnum_Gcd) [.ret])])])])) (by kernel_rfl) (Nat.le_of_ble_eq_true (by kernel_rfl)) fun cx hd hi hk => ?_
  show AWp prog cx _ _ ⟨11, [(0, .d (.sl (.int .i64)) a1)], []⟩
  replace hk : cx.E.len = 0 := hk
  unfold num_Gcd.wp at h
  refine awp_spine ?_
  refine awp_rc tab [0] [] [] [] [] ⟨11, [(0, .d (.sl (.int .i64)) a1)], []⟩ (by kernel_rfl) (trivial) ?_
  refine then_n (spine_c ?_)
  refine awp_spine ?_
  obtain ⟨o1, h⟩ := h
  refine awp_rc tab [4] [] [(1, .dat (.d (.int .u64) (num_fold_uint64__num_Gcd_1.fn a1 (0 : Int))))] [] [OkC prog 84 [.d (.sl (.int .i64)) a1, .d (.int .u64) (0 : Int), .fn (.func 85) [] []] (.d (.int .u64) (num_fold_uint64__num_Gcd_1.fn a1 (0 : Int)))] ⟨11, [(4, .d (.int .u64) (num_fold_uint64__num_Gcd_1.fn a1 (0 : Int)))], []⟩ (by kernel_rfl) (AllP.of (ok_num_fold_uint64__num_Gcd_1 a1 (0 : Int) (o1)) trivial) ?_
  refine then_n (spine_c ?_)
  refine awp_abs (fun (x1 : Int) => ⟨11, [(4, .d (.int .u64) x1)], []⟩) (num_fold_uint64__num_Gcd_1.fn a1 (0 : Int)) ?_
  intro x1 hx1
  replace h := h x1 hx1
  refine awp_spine ?_
  refine awp_rc tab [4, 8] [1] [] [] [] ⟨11, [(4, .d (.int .u64) x1), (8, vb (decide (x1 > (9223372036854775807 : Int))))], []⟩ (by kernel_rfl) (trivial) ?_
  refine then_n (spine_c ?_)
  refine awp_cond (b := decide (x1 > (9223372036854775807 : Int))) (by kernel_rfl) (fun hb => ?_) (fun hb => ?_)
  · replace h := h.1 (of_decide_eq_true hb)
    refine awp_spine ?_
    refine awp_rc tab [2, 3] [] [] [] [] ⟨11, [(2, vi (0 : Int)), (3, vi (3 : Int))], []⟩ (by kernel_rfl) (trivial) ?_
    refine then_n (spine_c ?_)
    refine awp_ret (then_r (then_r (then_r (then_r (?_)))))
    exact ret_r (m := 0) (r := .tup [vi ((0, 3).1), vi ((0, 3).2)]) (objs := []) hk [.keep [2, 3]] ⟨11, [(2, vi (0 : Int)), (3, vi (3 : Int))], []⟩ (by kernel_rfl) (by kernel_rfl) (Nat.le_refl 0) ⟨(0, 3), rfl, rfl, h⟩
  · replace h := h.2 (of_decide_eq_false hb)
    refine awp_skip (then_n (spine_c ?_))
    refine awp_spine ?_
    obtain ⟨o2, h⟩ := h
    refine awp_rc tab [2, 3] [] [] [] [-9223372036854775808 ≤ x1 ∧ x1 ≤ 9223372036854775807] ⟨11, [(2, vi x1), (3, vi (0 : Int))], []⟩ (by kernel_rfl) (AllP.of (o2) trivial) ?_
    refine then_n (spine_c ?_)
    refine awp_ret (then_r (then_r (then_r (then_r (?_)))))
    exact ret_r (m := 0) (r := .tup [vi ((x1, 0).1), vi ((x1, 0).2)]) (objs := []) hk [.keep [2, 3]] ⟨11, [(2, vi x1), (3, vi (0 : Int))], []⟩ (by kernel_rfl) (by kernel_rfl) (Nat.le_refl 0) ⟨(x1, 0), rfl, rfl, h⟩
theorem ok_num_Gcd (a1 : (List Int)) (h : num_Gcd.pre a1) : OkC prog 59 [.d (.sl (.int .i64)) a1] (.tup [vi ((num_Gcd.fn a1).1), vi ((num_Gcd.fn a1).2)]) :=
  OkC.of call_num_Gcd ((walk_num_Gcd a1 _ (num_Gcd.spec a1 h)).mono fun r o ⟨x, hr, ho, hx⟩ => ⟨by rw [hr, hx], ho⟩) rfl rfl (fun _ => rfl)

noncomputable abbrev Bfarkas_row_reduced : Code := bodyOf Try.f92
theorem call_farkas_row_reduced : CallOk prog 92 := ⟨_, Try.func92, by kernel_rfl, by kernel_rfl⟩
theorem walk_farkas_row_reduced (a1 : farkas_row) (Q : farkas_row → Prop) (h : farkas_row_reduced.wp a1 Q) : VCalls prog 92 [.agg [vb a1.1, .d (.sl (.int .i64)) a1.2]] [] (fun r o => ∃ x, r = .agg [vb x.1, .d (.sl (.int .i64)) x.2] ∧ o = [] ∧ Q x) := by
  refine vcalls_body tab Try.func92 (c := (spine (subC [0] Bfarkas_row_reduced) [(spine (subC [1, 0] Bfarkas_row_reduced) [(spine (subC [1, 1, 0, 0] Bfarkas_row_reduced) [(.cond (.tmp 12) (subC [1, 1, 0, 1, 0] Bfarkas_row_reduced) .skip), (spine (subC [1, 1, 1, 0] Bfarkas_row_reduced) [.ret])])])])) (by kernel_rfl) (Nat.le_of_ble_eq_true (by kernel_rfl)) fun cx hd hi hk => ?_
  show AWp prog cx _ _ ⟨19, [(0, .agg [vb a1.1, .d (.sl (.int .i64)) a1.2])], []⟩
  replace hk : cx.E.len = 0 := hk
  unfold farkas_row_reduced.wp at h
  refine awp_spine ?_
  refine awp_rc tab [1, 2] [] [] [] [] ⟨19, [(1, .ref 0 0 0), (2, .ref 1 0 0)], [.box [vb a1.1, .d (.sl (.int .i64)) a1.2], .box [vb false, .nils]]⟩ (by kernel_rfl) (trivial) ?_
  refine then_n (spine_c ?_)
  refine awp_spine ?_
  obtain ⟨o1, h⟩ := h
  refine awp_rc tab [1, 2, 3] [] [(2, .dat (.tup [vi ((num_Gcd.fn a1.2).1), vi ((num_Gcd.fn a1.2).2)]))] [] [OkC prog 59 [.d (.sl (.int .i64)) a1.2] (.tup [vi ((num_Gcd.fn a1.2).1), vi ((num_Gcd.fn a1.2).2)])] ⟨19, [(1, .ref 0 0 0), (2, .ref 1 0 0), (3, vi ((num_Gcd.fn a1.2).1))], [.box [vb a1.1, .d (.sl (.int .i64)) a1.2], .box [vb false, .nils]]⟩ (by kernel_rfl) (AllP.of (ok_num_Gcd a1.2 (o1)) trivial) ?_
  refine then_n (spine_c ?_)
  refine awp_abs (fun (x1 : Int × Int) => ⟨19, [(1, .ref 0 0 0), (2, .ref 1 0 0), (3, vi x1.1)], [.box [vb a1.1, .d (.sl (.int .i64)) a1.2], .box [vb false, .nils]]⟩) (num_Gcd.fn a1.2) ?_
  intro x1 hx1
  replace h := h x1 hx1
  refine awp_spine ?_
  refine awp_rc tab [1, 2, 3, 12] [] [] [] [] ⟨19, [(1, .ref 0 0 0), (2, .ref 1 0 0), (3, vi x1.1), (12, vb (decide (x1.1 > (1 : Int))))], [.box [vb a1.1, .d (.sl (.int .i64)) a1.2], .box [vb false, .nils]]⟩ (by kernel_rfl) (trivial) ?_
  refine then_n (spine_c ?_)
  refine awp_cond (b := decide (x1.1 > (1 : Int))) (by kernel_rfl) (fun hb => ?_) (fun hb => ?_)
  · replace h := h.1 (of_decide_eq_true hb)
    obtain ⟨o2, h⟩ := h
    refine awp_rc tab [1, 2] [] [(3, .dat (.d (.sl (.int .i64)) (farkas_vector_int_by.fn a1.2 x1.1)))] [] [OkC prog 99 [.d (.sl (.int .i64)) a1.2, vi x1.1] (.d (.sl (.int .i64)) (farkas_vector_int_by.fn a1.2 x1.1))] ⟨19, [(1, .ref 0 0 0), (2, .ref 1 0 0)], [.box [vb a1.1, .d (.sl (.int .i64)) (farkas_vector_int_by.fn a1.2 x1.1)], .box [vb false, .nils]]⟩ (by kernel_rfl) (AllP.of (ok_farkas_vector_int_by a1.2 x1.1 (o2)) trivial) ?_
    refine then_n (spine_c ?_)
    refine awp_abs (fun (x2 : (List Int)) => ⟨19, [(1, .ref 0 0 0), (2, .ref 1 0 0)], [.box [vb a1.1, .d (.sl (.int .i64)) x2], .box [vb false, .nils]]⟩) (farkas_vector_int_by.fn a1.2 x1.1) ?_
    intro x2 hx2
    replace h := h x2 hx2
    refine awp_spine ?_
    refine awp_rc tab [2] [] [] [] [] ⟨19, [(2, .ref 1 0 0)], [.box [vb a1.1, .d (.sl (.int .i64)) x2], .box [vb a1.1, .d (.sl (.int .i64)) x2]]⟩ (by kernel_rfl) (trivial) ?_
    refine then_n (spine_c ?_)
    refine awp_ret (then_r (then_r (then_r (then_r (?_)))))
    exact ret_r (m := 0) (r := .agg [vb ((a1.1, x2).1), .d (.sl (.int .i64)) ((a1.1, x2).2)]) (objs := []) hk [.keep [2]] ⟨19, [(2, .ref 1 0 0)], [.box [vb a1.1, .d (.sl (.int .i64)) x2], .box [vb a1.1, .d (.sl (.int .i64)) x2]]⟩ (by kernel_rfl) (by kernel_rfl) (Nat.le_refl 0) ⟨(a1.1, x2), rfl, rfl, h⟩
  · replace h := h.2 (of_decide_eq_false hb)
    refine awp_skip (then_n (spine_c ?_))
    refine awp_spine ?_
    refine awp_rc tab [2] [] [] [] [] ⟨19, [(2, .ref 1 0 0)], [.box [vb a1.1, .d (.sl (.int .i64)) a1.2], .box [vb a1.1, .d (.sl (.int .i64)) a1.2]]⟩ (by kernel_rfl) (trivial) ?_
    refine then_n (spine_c ?_)
    refine awp_ret (then_r (then_r (then_r (then_r (?_)))))
    exact ret_r (m := 0) (r := .agg [vb a1.1, .d (.sl (.int .i64)) a1.2]) (objs := []) hk [.keep [2]] ⟨19, [(2, .ref 1 0 0)], [.box [vb a1.1, .d (.sl (.int .i64)) a1.2], .box [vb a1.1, .d (.sl (.int .i64)) a1.2]]⟩ (by kernel_rfl) (by kernel_rfl) (Nat.le_refl 0) ⟨a1, rfl, rfl, h⟩
theorem ok_farkas_row_reduced (a1 : farkas_row) (h : farkas_row_reduced.pre a1) : OkC prog 92 [.agg [vb a1.1, .d (.sl (.int .i64)) a1.2]] (.agg [vb ((farkas_row_reduced.fn a1).1), .d (.sl (.int .i64)) ((farkas_row_reduced.fn a1).2)]) :=
  OkC.of call_farkas_row_reduced ((walk_farkas_row_reduced a1 _ (farkas_row_reduced.spec a1 h)).mono fun r o ⟨x, hr, ho, hx⟩ => ⟨by rw [hr, hx], ho⟩) rfl rfl (fun _ => rfl)

noncomputable abbrev Bslices_Equal_farkas_vector_int_int : Code := bodyOf Try.f95
theorem call_slices_Equal_farkas_vector_int_int : CallOk prog 95 := ⟨_, Try.func95, by kernel_rfl, by kernel_rfl⟩
theorem walk_slices_Equal_farkas_vector_int_int (a1 : (List Int)) (a2 : (List Int)) (Q : Bool → Prop) (h : slices_Equal_farkas_vector_int_int.wp a1 a2 Q) : VCalls prog 95 [.d (.sl (.int .i64)) a1, .d (.sl (.int .i64)) a2] [] (fun r o => ∃ x, r = vb x ∧ o = [] ∧ Q x) := by
  refine vcalls_body tab Try.func95 (c := (spine (subC [0] Bslices_Equal_farkas_vector_int_int) [(spine (subC [1, 0, 0] Bslices_Equal_farkas_vector_int_int) [(.cond (.tmp 10) (spine (subC [1, 0, 1, 0, 0] Bslices_Equal_farkas_vector_int_int) [.ret]) .skip), (spine (subC [1, 1, 0, 0] Bslices_Equal_farkas_vector_int_int) [(.block 0 (.loop (spine (subC [1, 1, 0, 1, 0, 0, 0] Bslices_Equal_farkas_vector_int_int) [(spine (.cond (.tmp 14) .skip (.exit 0)) [(spine (.block 1 (spine (subC [1, 1, 0, 1, 0, 0, 1, 1, 0, 0, 0] Bslices_Equal_farkas_vector_int_int) [(spine (subC [1, 1, 0, 1, 0, 0, 1, 1, 0, 0, 1, 0] Bslices_Equal_farkas_vector_int_int) [(.cond (.tmp 24) (spine (subC [1, 1, 0, 1, 0, 0, 1, 1, 0, 0, 1, 1, 0, 0] Bslices_Equal_farkas_vector_int_int) [.ret]) .skip)])])) [(subC [1, 1, 0, 1, 0, 0, 1, 1, 1] Bslices_Equal_farkas_vector_int_int)])])]))), (spine (subC [1, 1, 1, 0] Bslices_Equal_farkas_vector_int_int) [.ret])])])])) (by kernel_rfl) (Nat.le_of_ble_eq_true (by kernel_rfl)) fun cx hd hi hk => ?_
  show AWp prog cx _ _ ⟨26, [(0, .d (.sl (.int .i64)) a1), (1, .d (.sl (.int .i64)) a2)], []⟩
  replace hk : cx.E.len = 0 := hk
  unfold slices_Equal_farkas_vector_int_int.wp at h
  refine awp_spine ?_
  refine awp_rc tab [0, 1] [] [] [] [] ⟨26, [(0, .d (.sl (.int .i64)) a1), (1, .d (.sl (.int .i64)) a2)], []⟩ (by kernel_rfl) (trivial) ?_
  refine then_n (spine_c ?_)
  refine awp_spine ?_
  refine awp_rc tab [0, 1, 10] [] [] [] [] ⟨26, [(0, .d (.sl (.int .i64)) a1), (1, .d (.sl (.int .i64)) a2), (10, vb ((a1.length : Int) != (a2.length : Int)))], []⟩ (by kernel_rfl) (trivial) ?_
  refine then_n (spine_c ?_)
  refine awp_len 0 [] (T := (.int .i64)) (l := a1) (by kernel_rfl) fun hl => ?_
  replace h := h hl
  refine awp_len 1 [] (T := (.int .i64)) (l := a2) (by kernel_rfl) fun hl => ?_
  replace h := h hl
  refine awp_cond (b := (a1.length : Int) != (a2.length : Int)) (by kernel_rfl) (fun hb => ?_) (fun hb => ?_)
  · replace h := h.1 (bne_iff_ne.mp hb)
    refine awp_spine ?_
    refine awp_rc tab [4] [] [] [] [] ⟨26, [(4, vb false)], []⟩ (by kernel_rfl) (trivial) ?_
    refine then_n (spine_c ?_)
    refine awp_ret (then_r (then_r (then_r (?_))))
    exact ret_r (m := 0) (r := vb false) (objs := []) hk [.keep [4]] ⟨26, [(4, vb false)], []⟩ (by kernel_rfl) (by kernel_rfl) (Nat.le_refl 0) ⟨false, rfl, rfl, h⟩
  · replace h := h.2 (bne_f hb)
    refine awp_skip (then_n (spine_c ?_))
    refine awp_spine ?_
    refine awp_rc tab [0, 1, 12, 13] [] [] [] [] ⟨26, [(0, .d (.sl (.int .i64)) a1), (1, .d (.sl (.int .i64)) a2), (12, vi (a1.length : Int)), (13, vi (0 : Int))], []⟩ (by kernel_rfl) (trivial) ?_
    refine then_n (spine_c ?_)
    refine awp_len 0 [] (T := (.int .i64)) (l := a1) (by kernel_rfl) fun hl => ?_
    replace h := h hl
    refine awp_block ?_
    obtain ⟨I4, ⟨n4a, hz4⟩, hI4⟩ := h
    refine awp_loopN (fun n s => ∃ (x2 : Int), I4 n x2 ∧ s = ⟨26, [(0, .d (.sl (.int .i64)) a1), (1, .d (.sl (.int .i64)) a2), (12, vi (a1.length : Int)), (13, vi x2)], []⟩) (n := n4a) (s0 := ⟨26, [(0, .d (.sl (.int .i64)) a1), (1, .d (.sl (.int .i64)) a2), (12, vi (a1.length : Int)), (13, vi (0 : Int))], []⟩) (wk_ghosts hk (l := [.keep [0, 1, 12, 13], .keep [0, 1, 12, 13], .keep [0, 1, 12, 13], .keep [0, 1, 12, 13]]) (by kernel_rfl)) ⟨0, hz4, rfl⟩ ?_
    rintro n4 s ⟨x2, hx4, rfl⟩
    have h := hI4 n4 x2 hx4
    refine awp_spine ?_
    refine awp_rc tab [0, 1, 12, 13, 14] [] [] [] [] ⟨26, [(0, .d (.sl (.int .i64)) a1), (1, .d (.sl (.int .i64)) a2), (12, vi (a1.length : Int)), (13, vi x2), (14, vb (decide (x2 < (a1.length : Int))))], []⟩ (by kernel_rfl) (trivial) ?_
    refine then_n (spine_c ?_)
    refine awp_spine ?_
    refine awp_cond (b := decide (x2 < (a1.length : Int))) (by kernel_rfl) (fun hb => ?_) (fun hb => ?_)
    · replace h := h.1 (of_decide_eq_true hb)
      refine awp_skip (then_n (spine_c ?_))
      refine awp_spine ?_
      refine awp_block ?_
      refine awp_spine ?_
      refine awp_rc tab [0, 1, 5, 12, 13] [] [] [] [] ⟨26, [(0, .d (.sl (.int .i64)) a1), (1, .d (.sl (.int .i64)) a2), (5, vi x2), (12, vi (a1.length : Int)), (13, vi x2)], []⟩ (by kernel_rfl) (trivial) ?_
      refine then_n (spine_c ?_)
      refine awp_spine ?_
      obtain ⟨o1, o2, h⟩ := h
      refine awp_dr tab mixed [0, 1, 12, 13, 24] [] [] [] ⟨[[], [], [0, 1], [0, 1, 2], [], [], [4, 5], [4, 5, 6], [0, 1, 2, 3, 4, 5, 6, 7]], [.d (.sl (.int .i64)) a1, vi x2, .er [vi (gI a1 x2)], vi (gI a1 x2), .d (.sl (.int .i64)) a2, vi x2, .er [vi (gI a2 x2)], vi (gI a2 x2), vb ((gI a1 x2) != (gI a2 x2))], [none, none, some ((0 : Int) ≤ x2 ∧ x2 < (a1.length : Int)), none, none, none, some ((0 : Int) ≤ x2 ∧ x2 < (a2.length : Int)), none, none], [], [([], [])]⟩ ⟨26, [(0, .d (.sl (.int .i64)) a1), (1, .d (.sl (.int .i64)) a2), (12, vi (a1.length : Int)), (13, vi x2), (24, vb ((gI a1 x2) != (gI a2 x2)))], []⟩ (by kernel_rfl) (AllO.n (AllO.n (AllO.s (o1) (AllO.n (AllO.n (AllO.n (AllO.s (o2) (AllO.n (AllO.n (AllO.e)))))))))) ?_
      refine then_n (spine_c ?_)
      refine awp_cond (b := (gI a1 x2) != (gI a2 x2)) (by kernel_rfl) (fun hb => ?_) (fun hb => ?_)
      · replace h := h.1 (bne_iff_ne.mp hb)
        refine awp_spine ?_
        refine awp_rc tab [4] [] [] [] [] ⟨26, [(4, vb false)], []⟩ (by kernel_rfl) (trivial) ?_
        refine then_n (spine_c ?_)
        refine awp_ret (then_r (then_r (then_r (blk_r (then_r (then_r (then_r (then_r (blk_r (then_r (then_r (then_r (?_)))))))))))))
        exact ret_r (m := 0) (r := vb false) (objs := []) hk [.keep [4]] ⟨26, [(4, vb false)], []⟩ (by kernel_rfl) (by kernel_rfl) (Nat.le_refl 0) ⟨false, rfl, rfl, h⟩
      · replace h := h.2 (bne_f hb)
        refine awp_skip (then_n (spine_e (then_n (spine_e (blk_n (then_n (spine_c ?_)))))))
        obtain ⟨o3, h⟩ := h
        refine awp_rc tab [0, 1, 12, 13] [] [] [] [-9223372036854775808 ≤ x2 + (1 : Int) ∧ x2 + (1 : Int) ≤ 9223372036854775807] ⟨26, [(0, .d (.sl (.int .i64)) a1), (1, .d (.sl (.int .i64)) a2), (12, vi (a1.length : Int)), (13, vi (x2 + (1 : Int)))], []⟩ (by kernel_rfl) (AllP.of (o3) trivial) ?_
        refine then_n (spine_e (then_n (spine_e (then_n (spine_e (then_n (?_)))))))
        obtain ⟨m, hm, h⟩ := h
        exact ⟨m, hm, ⟨26, [(0, .d (.sl (.int .i64)) a1), (1, .d (.sl (.int .i64)) a2), (12, vi (a1.length : Int)), (13, vi (x2 + (1 : Int)))], []⟩, wk_ghosts hk (l := [.keep [0, 1, 12, 13], .keep [0, 1, 12, 13], .keep [0, 1, 12, 13]]) (by kernel_rfl), x2 + (1 : Int), h, rfl⟩
    · replace h := h.2 (of_decide_eq_false hb)
      refine awp_exit (then_x (then_x (then_x (blk_h (then_n (spine_c ?_))))))
      refine awp_spine ?_
      refine awp_rc tab [4] [] [] [] [] ⟨26, [(4, vb true)], []⟩ (by kernel_rfl) (trivial) ?_
      refine then_n (spine_c ?_)
      refine awp_ret (then_r (then_r (then_r (then_r (?_)))))
      exact ret_r (m := 0) (r := vb true) (objs := []) hk [.keep [4]] ⟨26, [(4, vb true)], []⟩ (by kernel_rfl) (by kernel_rfl) (Nat.le_refl 0) ⟨true, rfl, rfl, h⟩
theorem ok_slices_Equal_farkas_vector_int_int (a1 : (List Int)) (a2 : (List Int)) : OkC prog 95 [.d (.sl (.int .i64)) a1, .d (.sl (.int .i64)) a2] (vb (slices_Equal_farkas_vector_int_int.fn a1 a2)) :=
  OkC.of call_slices_Equal_farkas_vector_int_int ((walk_slices_Equal_farkas_vector_int_int a1 a2 _ (slices_Equal_farkas_vector_int_int.spec a1 a2)).mono fun r o ⟨x, hr, ho, hx⟩ => ⟨by rw [hr, hx], ho⟩) rfl rfl (fun _ => rfl)

end Go.Proofs.Ytlncingakpelbaa
