/- Part of a proof that a law of the program holds for every input: printed by a program of this work. No conditions. -/
import Derived.Test.YtlncingakpelbaaK7
namespace Go.Proofs.Ytlncingakpelbaa
open Go
set_option linter.unusedVariables false
set_option maxHeartbeats 4000000

noncomputable abbrev Bref01_Gcd : Code := bodyOf Try.f98
theorem call_ref01_Gcd : CallOk prog 98 := ⟨_, Try.func98, by kernel_rfl, by kernel_rfl⟩
theorem walk_ref01_Gcd (a1 : (List Int)) (Q : Int × Int → Prop) (h : ref01_Gcd.wp a1 Q) : VCalls prog 98 [.d (.sl (.int .i64)) a1] [] (fun r o => ∃ x, r = .tup [vi x.1, vi x.2] ∧ o = [] ∧ Q x) := by
  refine vcalls_body tab Try.func98 (c := (spine (subC [0] Bref01_Gcd) [(spine (subC [1, 0] Bref01_Gcd) [(spine (subC [1, 1, 0, 0] Bref01_Gcd) [(.block 0 (.loop (spine (subC [1, 1, 0, 1, 0, 0, 0] Bref01_Gcd) [(spine (.cond (.tmp 11) .skip (.exit 0)) [(spine (.block 1 (spine (subC [1, 1, 0, 1, 0, 0, 1, 1, 0, 0, 0] Bref01_Gcd) [(spine (subC [1, 1, 0, 1, 0, 0, 1, 1, 0, 0, 1, 0] Bref01_Gcd) [(.block 2 (.loop (spine (subC [1, 1, 0, 1, 0, 0, 1, 1, 0, 0, 1, 1, 0, 0, 0, 0] Bref01_Gcd) [(.cond (.tmp 17) .skip (.exit 2)), (.block 3 (subC [1, 1, 0, 1, 0, 0, 1, 1, 0, 0, 1, 1, 0, 0, 1, 0] Bref01_Gcd))])))])])) [(subC [1, 1, 0, 1, 0, 0, 1, 1, 1] Bref01_Gcd)])])]))), (spine (subC [1, 1, 1, 0, 0] Bref01_Gcd) [(.cond (.tmp 24) (spine (subC [1, 1, 1, 0, 1, 0, 0] Bref01_Gcd) [.ret]) .skip), (spine (subC [1, 1, 1, 1, 0] Bref01_Gcd) [.ret])])])])])) (by kernel_rfl) (Nat.le_of_ble_eq_true (by kernel_rfl)) fun cx hd hi hk => ?_
  show AWp prog cx _ _ ⟨27, [(0, .d (.sl (.int .i64)) a1)], []⟩
  replace hk : cx.E.len = 0 := hk
  unfold ref01_Gcd.wp at h
  refine awp_spine ?_
  refine awp_rc tab [0] [] [] [] [] ⟨27, [(0, .d (.sl (.int .i64)) a1)], []⟩ (by kernel_rfl) (trivial) ?_
  refine then_n (spine_c ?_)
  refine awp_spine ?_
  refine awp_rc tab [0, 4] [] [] [] [] ⟨27, [(0, .d (.sl (.int .i64)) a1), (4, .d (.int .u64) (0 : Int))], []⟩ (by kernel_rfl) (trivial) ?_
  refine then_n (spine_c ?_)
  refine awp_spine ?_
  refine awp_rc tab [4, 8, 9, 10] [] [] [] [] ⟨27, [(4, .d (.int .u64) (0 : Int)), (8, .d (.sl (.int .i64)) a1), (9, vi (a1.length : Int)), (10, vi (0 : Int))], []⟩ (by kernel_rfl) (trivial) ?_
  refine then_n (spine_c ?_)
  refine awp_len 8 [] (T := (.int .i64)) (l := a1) (by kernel_rfl) fun hl => ?_
  replace h := h hl
  refine awp_block ?_
  obtain ⟨I7, ⟨n7a, hz7⟩, hI7⟩ := h
  refine awp_loopN (fun n s => ∃ (x3 : Int) (x4 : Int), I7 n x3 x4 ∧ s = ⟨27, [(4, .d (.int .u64) x3), (8, .d (.sl (.int .i64)) a1), (9, vi (a1.length : Int)), (10, vi x4)], []⟩) (n := n7a) (s0 := ⟨27, [(4, .d (.int .u64) (0 : Int)), (8, .d (.sl (.int .i64)) a1), (9, vi (a1.length : Int)), (10, vi (0 : Int))], []⟩) (wk_ghosts hk (l := [.keep [4, 8, 9, 10], .keep [4, 8, 9, 10], .keep [4, 8, 9, 10], .keep [4, 8, 9, 10]]) (by kernel_rfl)) ⟨0, 0, hz7, rfl⟩ ?_
  rintro n7 s ⟨x3, x4, hx7, rfl⟩
  have h := hI7 n7 x3 x4 hx7
  refine awp_spine ?_
  refine awp_rc tab [4, 8, 9, 10, 11] [] [] [] [] ⟨27, [(4, .d (.int .u64) x3), (8, .d (.sl (.int .i64)) a1), (9, vi (a1.length : Int)), (10, vi x4), (11, vb (decide (x4 < (a1.length : Int))))], []⟩ (by kernel_rfl) (trivial) ?_
  refine then_n (spine_c ?_)
  refine awp_spine ?_
  refine awp_cond (b := decide (x4 < (a1.length : Int))) (by kernel_rfl) (fun hb => ?_) (fun hb => ?_)
  · replace h := h.1 (of_decide_eq_true hb)
    refine awp_skip (then_n (spine_c ?_))
    refine awp_spine ?_
    refine awp_block ?_
    refine awp_spine ?_
    obtain ⟨o1, h⟩ := h
    refine awp_rc tab [4, 6, 8, 9, 10] [] [] [] [(0 : Int) ≤ x4 ∧ x4 < (a1.length : Int)] ⟨27, [(4, .d (.int .u64) x3), (6, vi (gI a1 x4)), (8, .d (.sl (.int .i64)) a1), (9, vi (a1.length : Int)), (10, vi x4)], []⟩ (by kernel_rfl) (AllP.of (o1) trivial) ?_
    refine then_n (spine_c ?_)
    refine awp_spine ?_
    obtain ⟨o2, h⟩ := h
    refine awp_rc tab [4, 7, 8, 9, 10] [] [(1, .dat (.d (.int .u64) (ref01_size.fn (gI a1 x4))))] [] [OkC prog 102 [vi (gI a1 x4)] (.d (.int .u64) (ref01_size.fn (gI a1 x4)))] ⟨27, [(4, .d (.int .u64) x3), (7, .d (.int .u64) (ref01_size.fn (gI a1 x4))), (8, .d (.sl (.int .i64)) a1), (9, vi (a1.length : Int)), (10, vi x4)], []⟩ (by kernel_rfl) (AllP.of (ok_ref01_size (gI a1 x4) (o2)) trivial) ?_
    refine then_n (spine_c ?_)
    refine awp_abs (fun (x8 : Int) => ⟨27, [(4, .d (.int .u64) x3), (7, .d (.int .u64) x8), (8, .d (.sl (.int .i64)) a1), (9, vi (a1.length : Int)), (10, vi x4)], []⟩) (ref01_size.fn (gI a1 x4)) ?_
    intro x8 hx8
    replace h := h x8 hx8
    refine awp_block ?_
    obtain ⟨I15, ⟨n15a, hz15⟩, hI15⟩ := h
    refine awp_loopN (fun n s => ∃ (x11 : Int) (x12 : Int), I15 n x11 x12 ∧ s = ⟨27, [(4, .d (.int .u64) x11), (7, .d (.int .u64) x12), (8, .d (.sl (.int .i64)) a1), (9, vi (a1.length : Int)), (10, vi x4)], []⟩) (n := n15a) (s0 := ⟨27, [(4, .d (.int .u64) x3), (7, .d (.int .u64) x8), (8, .d (.sl (.int .i64)) a1), (9, vi (a1.length : Int)), (10, vi x4)], []⟩) (wk_ghosts hk (l := [.keep [4, 7, 8, 9, 10], .keep [4, 7, 8, 9, 10], .keep [4, 7, 8, 9, 10], .keep [4, 7, 8, 9, 10]]) (by kernel_rfl)) ⟨x3, x8, hz15, rfl⟩ ?_
    rintro n15 s ⟨x11, x12, hx15, rfl⟩
    have h := hI15 n15 x11 x12 hx15
    refine awp_spine ?_
    refine awp_rc tab [4, 7, 8, 9, 10, 17] [1] [] [] [] ⟨27, [(4, .d (.int .u64) x11), (7, .d (.int .u64) x12), (8, .d (.sl (.int .i64)) a1), (9, vi (a1.length : Int)), (10, vi x4), (17, vb (x12 != (0 : Int)))], []⟩ (by kernel_rfl) (trivial) ?_
    refine then_n (spine_c ?_)
    refine awp_cond (b := x12 != (0 : Int)) (by kernel_rfl) (fun hb => ?_) (fun hb => ?_)
    · replace h := h.1 (bne_iff_ne.mp hb)
      refine awp_skip (then_n (spine_c ?_))
      refine awp_block ?_
      obtain ⟨o3, h⟩ := h
      refine awp_dr tab mixed [4, 7, 8, 9, 10] [3] [] [] ⟨[[], [], [], [1, 2], [0, 1], [0, 1, 2, 3, 4]], [.d (.int .u64) x12, .d (.int .u64) x11, .d (.int .u64) x12, .d (.int .u64) (Int.tmod x11 x12), .d (.int .u64) x12, .d (.int .u64) (Int.tmod x11 x12)], [none, none, none, some (x12 ≠ 0), none, none], [], [([], [])]⟩ ⟨27, [(4, .d (.int .u64) x12), (7, .d (.int .u64) (Int.tmod x11 x12)), (8, .d (.sl (.int .i64)) a1), (9, vi (a1.length : Int)), (10, vi x4)], []⟩ (by kernel_rfl) (AllO.n (AllO.n (AllO.n (AllO.s (o3) (AllO.n (AllO.n (AllO.e))))))) ?_
      refine blk_n (then_n (spine_e (then_n (?_))))
      obtain ⟨m, hm, h⟩ := h
      exact ⟨m, hm, ⟨27, [(4, .d (.int .u64) x12), (7, .d (.int .u64) (Int.tmod x11 x12)), (8, .d (.sl (.int .i64)) a1), (9, vi (a1.length : Int)), (10, vi x4)], []⟩, wk_ghosts hk (l := [.keep [4, 7, 8, 9, 10], .keep [4, 7, 8, 9, 10], .keep [4, 7, 8, 9, 10]]) (by kernel_rfl), x12, Int.tmod x11 x12, h, rfl⟩
    · replace h := h.2 (bne_f hb)
      refine awp_exit (then_x (then_x (blk_h (then_n (spine_e (then_n (spine_e (blk_n (then_n (spine_c ?_))))))))))
      obtain ⟨o4, h⟩ := h
      refine awp_rc tab [4, 8, 9, 10] [] [] [] [-9223372036854775808 ≤ x4 + (1 : Int) ∧ x4 + (1 : Int) ≤ 9223372036854775807] ⟨27, [(4, .d (.int .u64) x11), (8, .d (.sl (.int .i64)) a1), (9, vi (a1.length : Int)), (10, vi (x4 + (1 : Int)))], []⟩ (by kernel_rfl) (AllP.of (o4) trivial) ?_
      refine then_n (spine_e (then_n (spine_e (then_n (spine_e (then_n (?_)))))))
      obtain ⟨m, hm, h⟩ := h
      exact ⟨m, hm, ⟨27, [(4, .d (.int .u64) x11), (8, .d (.sl (.int .i64)) a1), (9, vi (a1.length : Int)), (10, vi (x4 + (1 : Int)))], []⟩, wk_ghosts hk (l := [.keep [4, 8, 9, 10], .keep [4, 8, 9, 10], .keep [4, 8, 9, 10]]) (by kernel_rfl), x11, x4 + (1 : Int), h, rfl⟩
  · replace h := h.2 (of_decide_eq_false hb)
    refine awp_exit (then_x (then_x (then_x (blk_h (then_n (spine_c ?_))))))
    refine awp_spine ?_
    refine awp_rc tab [4, 24] [1] [] [] [] ⟨27, [(4, .d (.int .u64) x3), (24, vb (x3 == (9223372036854775808 : Int)))], []⟩ (by kernel_rfl) (trivial) ?_
    refine then_n (spine_c ?_)
    refine awp_cond (b := x3 == (9223372036854775808 : Int)) (by kernel_rfl) (fun hb => ?_) (fun hb => ?_)
    · replace h := h.1 (eq_of_beq hb)
      refine awp_spine ?_
      refine awp_rc tab [2, 3] [] [] [] [] ⟨27, [(2, vi (0 : Int)), (3, vi (3 : Int))], []⟩ (by kernel_rfl) (trivial) ?_
      refine then_n (spine_c ?_)
      refine awp_ret (then_r (then_r (then_r (then_r (then_r (?_))))))
      exact ret_r (m := 0) (r := .tup [vi ((0, 3).1), vi ((0, 3).2)]) (objs := []) hk [.keep [2, 3]] ⟨27, [(2, vi (0 : Int)), (3, vi (3 : Int))], []⟩ (by kernel_rfl) (by kernel_rfl) (Nat.le_refl 0) ⟨(0, 3), rfl, rfl, h⟩
    · replace h := h.2 (ne_of_beq_false hb)
      refine awp_skip (then_n (spine_c ?_))
      refine awp_spine ?_
      obtain ⟨o5, h⟩ := h
      refine awp_rc tab [2, 3] [] [] [] [-9223372036854775808 ≤ x3 ∧ x3 ≤ 9223372036854775807] ⟨27, [(2, vi x3), (3, vi (0 : Int))], []⟩ (by kernel_rfl) (AllP.of (o5) trivial) ?_
      refine then_n (spine_c ?_)
      refine awp_ret (then_r (then_r (then_r (then_r (then_r (?_))))))
      exact ret_r (m := 0) (r := .tup [vi ((x3, 0).1), vi ((x3, 0).2)]) (objs := []) hk [.keep [2, 3]] ⟨27, [(2, vi x3), (3, vi (0 : Int))], []⟩ (by kernel_rfl) (by kernel_rfl) (Nat.le_refl 0) ⟨(x3, 0), rfl, rfl, h⟩
theorem ok_ref01_Gcd (a1 : (List Int)) (h : ref01_Gcd.pre a1) : OkC prog 98 [.d (.sl (.int .i64)) a1] (.tup [vi ((ref01_Gcd.fn a1).1), vi ((ref01_Gcd.fn a1).2)]) :=
  OkC.of call_ref01_Gcd ((walk_ref01_Gcd a1 _ (ref01_Gcd.spec a1 h)).mono fun r o ⟨x, hr, ho, hx⟩ => ⟨by rw [hr, hx], ho⟩) rfl rfl (fun _ => rfl)

noncomputable abbrev Bref09_mix : Code := bodyOf Try.f81
theorem call_ref09_mix : CallOk prog 81 := ⟨_, Try.func81, by kernel_rfl, by kernel_rfl⟩
theorem walk_ref09_mix (a1 : Int) (a2 : ref09_Row) (a3 : Int) (a4 : ref09_Row) (Q : ref09_Row → Prop) (h : ref09_mix.wp a1 a2 a3 a4 Q) : VCalls prog 81 [vi a1, .agg [.d (.sl (.int .i64)) a2.1.1, vi a2.1.2, vb a2.2.1, .d (.sl (.int .i64)) a2.2.2], vi a3, .agg [.d (.sl (.int .i64)) a4.1.1, vi a4.1.2, vb a4.2.1, .d (.sl (.int .i64)) a4.2.2]] [] (fun r o => ∃ x, r = .agg [.d (.sl (.int .i64)) x.1.1, vi x.1.2, vb x.2.1, .d (.sl (.int .i64)) x.2.2] ∧ o = [] ∧ Q x) := by
  refine vcalls_body tab Try.func81 (c := (spine (subC [0] Bref09_mix) [(spine (subC [1, 0] Bref09_mix) [(spine (subC [1, 1, 0] Bref09_mix) [(spine (subC [1, 1, 1, 0, 0] Bref09_mix) [(.block 0 (.loop (spine (subC [1, 1, 1, 0, 1, 0, 0, 0] Bref09_mix) [(spine (.cond (.tmp 27) .skip (.exit 0)) [(spine (.block 1 (spine (subC [1, 1, 1, 0, 1, 0, 0, 1, 1, 0, 0, 0] Bref09_mix) [(subC [1, 1, 1, 0, 1, 0, 0, 1, 1, 0, 0, 1] Bref09_mix)])) [(subC [1, 1, 1, 0, 1, 0, 0, 1, 1, 1] Bref09_mix)])])]))), (spine (subC [1, 1, 1, 1, 0, 0] Bref09_mix) [(spine (subC [1, 1, 1, 1, 0, 1, 0] Bref09_mix) [(.cond (.tmp 52) (spine (subC [1, 1, 1, 1, 0, 1, 1, 0, 0] Bref09_mix) [(.block 2 (.loop (spine (subC [1, 1, 1, 1, 0, 1, 1, 0, 1, 0, 0, 0] Bref09_mix) [(spine (.cond (.tmp 56) .skip (.exit 2)) [(spine (.block 3 (spine (subC [1, 1, 1, 1, 0, 1, 1, 0, 1, 0, 0, 1, 1, 0, 0, 0] Bref09_mix) [(subC [1, 1, 1, 1, 0, 1, 1, 0, 1, 0, 0, 1, 1, 0, 0, 1] Bref09_mix)])) [(subC [1, 1, 1, 1, 0, 1, 1, 0, 1, 0, 0, 1, 1, 1] Bref09_mix)])])])))]) .skip)]), (spine (subC [1, 1, 1, 1, 1, 0] Bref09_mix) [(spine (subC [1, 1, 1, 1, 1, 1, 0] Bref09_mix) [.ret])])])])])])])) (by kernel_rfl) (Nat.le_of_ble_eq_true (by kernel_rfl)) fun cx hd hi hk => ?_
  show AWp prog cx _ _ ⟨85, [(0, vi a1), (1, .agg [.d (.sl (.int .i64)) a2.1.1, vi a2.1.2, vb a2.2.1, .d (.sl (.int .i64)) a2.2.2]), (2, vi a3), (3, .agg [.d (.sl (.int .i64)) a4.1.1, vi a4.1.2, vb a4.2.1, .d (.sl (.int .i64)) a4.2.2])], []⟩
  replace hk : cx.E.len = 0 := hk
  unfold ref09_mix.wp at h
  refine awp_spine ?_
  refine awp_rc tab [0, 2, 5, 7, 8] [] [] [0, 1] [] ⟨85, [(0, vi a1), (2, vi a3), (5, .er [.d (.sl (.int .i64)) a2.1.1, vi a2.1.2, vb a2.2.1, .d (.sl (.int .i64)) a2.2.2]), (7, .er [.d (.sl (.int .i64)) a4.1.1, vi a4.1.2, vb a4.2.1, .d (.sl (.int .i64)) a4.2.2]), (8, .ref 0 0 0)], [.box [.nils, vi (0 : Int), vb false, .nils]]⟩ (by kernel_rfl) (trivial) ?_
  refine then_n (spine_c ?_)
  refine awp_spine ?_
  obtain ⟨o1, o2, h⟩ := h
  refine awp_dr tab mixed [0, 2, 5, 8, 9, 10] [] [(1, .dat (.d (.sl (.int .i64)) (ref09_Row_numbers.fn a2))), (3, .dat (.d (.sl (.int .i64)) (ref09_Row_numbers.fn a4)))] [] ⟨[[], [0], [], [0, 1, 2], [0, 1, 2, 3], [0, 1, 2, 3, 4]], [.agg [.d (.sl (.int .i64)) a2.1.1, vi a2.1.2, vb a2.2.1, .d (.sl (.int .i64)) a2.2.2], .d (.sl (.int .i64)) (ref09_Row_numbers.fn a2), .agg [.d (.sl (.int .i64)) a4.1.1, vi a4.1.2, vb a4.2.1, .d (.sl (.int .i64)) a4.2.2], .d (.sl (.int .i64)) (ref09_Row_numbers.fn a4), .d (.sl (.int .i64)) (ref09_Row_numbers.fn a2), .d (.sl (.int .i64)) (ref09_Row_numbers.fn a4)], [none, some (OkC prog 83 [.agg [.d (.sl (.int .i64)) a2.1.1, vi a2.1.2, vb a2.2.1, .d (.sl (.int .i64)) a2.2.2]] (.d (.sl (.int .i64)) (ref09_Row_numbers.fn a2))), none, some (OkC prog 83 [.agg [.d (.sl (.int .i64)) a4.1.1, vi a4.1.2, vb a4.2.1, .d (.sl (.int .i64)) a4.2.2]] (.d (.sl (.int .i64)) (ref09_Row_numbers.fn a4))), none, none], [], [([], [.box [.nils, vi (0 : Int), vb false, .nils]])]⟩ ⟨85, [(0, vi a1), (2, vi a3), (5, .er [.d (.sl (.int .i64)) a2.1.1, vi a2.1.2, vb a2.2.1, .d (.sl (.int .i64)) a2.2.2]), (8, .ref 0 0 0), (9, .d (.sl (.int .i64)) (ref09_Row_numbers.fn a2)), (10, .d (.sl (.int .i64)) (ref09_Row_numbers.fn a4))], [.box [.nils, vi (0 : Int), vb false, .nils]]⟩ (by kernel_rfl) (AllO.n (AllO.s (ok_ref09_Row_numbers a2 (o1)) (AllO.n (AllO.s (ok_ref09_Row_numbers a4 (o2)) (AllO.n (AllO.n (AllO.e))))))) ?_
  refine then_n (spine_c ?_)
  refine awp_abs (fun (x1 : (List Int)) => ⟨85, [(0, vi a1), (2, vi a3), (5, .er [.d (.sl (.int .i64)) a2.1.1, vi a2.1.2, vb a2.2.1, .d (.sl (.int .i64)) a2.2.2]), (8, .ref 0 0 0), (9, .d (.sl (.int .i64)) x1), (10, .d (.sl (.int .i64)) (ref09_Row_numbers.fn a4))], [.box [.nils, vi (0 : Int), vb false, .nils]]⟩) (ref09_Row_numbers.fn a2) ?_
  intro x1 hx1
  replace h := h x1 hx1
  refine awp_abs (fun (x2 : (List Int)) => ⟨85, [(0, vi a1), (2, vi a3), (5, .er [.d (.sl (.int .i64)) a2.1.1, vi a2.1.2, vb a2.2.1, .d (.sl (.int .i64)) a2.2.2]), (8, .ref 0 0 0), (9, .d (.sl (.int .i64)) x1), (10, .d (.sl (.int .i64)) x2)], [.box [.nils, vi (0 : Int), vb false, .nils]]⟩) (ref09_Row_numbers.fn a4) ?_
  intro x2 hx2
  replace h := h x2 hx2
  refine awp_spine ?_
  obtain ⟨o3, h⟩ := h
  refine awp_rc tab [0, 2, 5, 8, 9, 10, 11] [] [] [] [(0 : Int) ≤ (x1.length : Int) ∧ (x1.length : Int) ≤ (x1.length : Int) ∧ (x1.length : Int) * 8 ≤ 140737488355328 ∧ (x1.length : Int) ≤ 9223372036854775807] ⟨85, [(0, vi a1), (2, vi a3), (5, .er [.d (.sl (.int .i64)) a2.1.1, vi a2.1.2, vb a2.2.1, .d (.sl (.int .i64)) a2.2.2]), (8, .ref 0 0 0), (9, .d (.sl (.int .i64)) x1), (10, .d (.sl (.int .i64)) x2), (11, .osl 1 0)], [.box [.nils, vi (0 : Int), vb false, .nils], .row (.int .i64) (List.replicate (Int.toNat (x1.length : Int)) (0 : Int)) 0]⟩ (by kernel_rfl) (AllP.of (o3) trivial) ?_
  refine then_n (spine_c ?_)
  refine awp_abs (fun (x3 : (List Int)) => ⟨85, [(0, vi a1), (2, vi a3), (5, .er [.d (.sl (.int .i64)) a2.1.1, vi a2.1.2, vb a2.2.1, .d (.sl (.int .i64)) a2.2.2]), (8, .ref 0 0 0), (9, .d (.sl (.int .i64)) x1), (10, .d (.sl (.int .i64)) x2), (11, .osl 1 0)], [.box [.nils, vi (0 : Int), vb false, .nils], .row (.int .i64) x3 0]⟩) (List.replicate (Int.toNat (x1.length : Int)) (0 : Int)) ?_
  intro x3 hx3
  replace h := h x3 hx3
  refine awp_len 9 [] (T := (.int .i64)) (l := x1) (by kernel_rfl) fun hl => ?_
  replace h := h hl
  refine awp_spine ?_
  refine awp_rc tab [0, 2, 5, 8, 9, 10, 11, 25, 26] [] [] [] [] ⟨85, [(0, vi a1), (2, vi a3), (5, .er [.d (.sl (.int .i64)) a2.1.1, vi a2.1.2, vb a2.2.1, .d (.sl (.int .i64)) a2.2.2]), (8, .ref 0 0 0), (9, .d (.sl (.int .i64)) x1), (10, .d (.sl (.int .i64)) x2), (11, .osl 1 0), (25, vi (x1.length : Int)), (26, vi (0 : Int))], [.box [.nils, vi (0 : Int), vb false, .nils], .row (.int .i64) x3 0]⟩ (by kernel_rfl) (trivial) ?_
  refine then_n (spine_c ?_)
  refine awp_len 9 [] (T := (.int .i64)) (l := x1) (by kernel_rfl) fun hl => ?_
  replace h := h hl
  refine awp_block ?_
  obtain ⟨I10, ⟨n10a, hz10⟩, hI10⟩ := h
  refine awp_loopN (fun n s => ∃ (x6 : Int) (x7 : (List Int)), I10 n x6 x7 ∧ s = ⟨85, [(0, vi a1), (2, vi a3), (5, .er [.d (.sl (.int .i64)) a2.1.1, vi a2.1.2, vb a2.2.1, .d (.sl (.int .i64)) a2.2.2]), (8, .ref 0 0 0), (9, .d (.sl (.int .i64)) x1), (10, .d (.sl (.int .i64)) x2), (11, .osl 1 0), (25, vi (x1.length : Int)), (26, vi x6)], [.box [.nils, vi (0 : Int), vb false, .nils], .row (.int .i64) x7 0]⟩) (n := n10a) (s0 := ⟨85, [(0, vi a1), (2, vi a3), (5, .er [.d (.sl (.int .i64)) a2.1.1, vi a2.1.2, vb a2.2.1, .d (.sl (.int .i64)) a2.2.2]), (8, .ref 0 0 0), (9, .d (.sl (.int .i64)) x1), (10, .d (.sl (.int .i64)) x2), (11, .osl 1 0), (25, vi (x1.length : Int)), (26, vi (0 : Int))], [.box [.nils, vi (0 : Int), vb false, .nils], .row (.int .i64) x3 0]⟩) (wk_ghosts hk (l := [.keep [0, 2, 5, 8, 9, 10, 11, 25, 26], .keep [0, 2, 5, 8, 9, 10, 11, 25, 26], .keep [0, 2, 5, 8, 9, 10, 11, 25, 26], .keep [0, 2, 5, 8, 9, 10, 11, 25, 26]]) (by kernel_rfl)) ⟨0, x3, hz10, rfl⟩ ?_
  rintro n10 s ⟨x6, x7, hx10, rfl⟩
  have h := hI10 n10 x6 x7 hx10
  refine awp_spine ?_
  refine awp_rc tab [0, 2, 5, 8, 9, 10, 11, 25, 26, 27] [] [] [] [] ⟨85, [(0, vi a1), (2, vi a3), (5, .er [.d (.sl (.int .i64)) a2.1.1, vi a2.1.2, vb a2.2.1, .d (.sl (.int .i64)) a2.2.2]), (8, .ref 0 0 0), (9, .d (.sl (.int .i64)) x1), (10, .d (.sl (.int .i64)) x2), (11, .osl 1 0), (25, vi (x1.length : Int)), (26, vi x6), (27, vb (decide (x6 < (x1.length : Int))))], [.box [.nils, vi (0 : Int), vb false, .nils], .row (.int .i64) x7 0]⟩ (by kernel_rfl) (trivial) ?_
  refine then_n (spine_c ?_)
  refine awp_spine ?_
  refine awp_cond (b := decide (x6 < (x1.length : Int))) (by kernel_rfl) (fun hb => ?_) (fun hb => ?_)
  · replace h := h.1 (of_decide_eq_true hb)
    refine awp_skip (then_n (spine_c ?_))
    refine awp_spine ?_
    refine awp_block ?_
    refine awp_spine ?_
    refine awp_rc tab [0, 2, 5, 8, 9, 10, 11, 12, 25, 26] [] [] [] [] ⟨85, [(0, vi a1), (2, vi a3), (5, .er [.d (.sl (.int .i64)) a2.1.1, vi a2.1.2, vb a2.2.1, .d (.sl (.int .i64)) a2.2.2]), (8, .ref 0 0 0), (9, .d (.sl (.int .i64)) x1), (10, .d (.sl (.int .i64)) x2), (11, .osl 1 0), (12, vi x6), (25, vi (x1.length : Int)), (26, vi x6)], [.box [.nils, vi (0 : Int), vb false, .nils], .row (.int .i64) x7 0]⟩ (by kernel_rfl) (trivial) ?_
    refine then_n (spine_c ?_)
    obtain ⟨o4, o5, o6, o7, o8, o9, o10, h⟩ := h
    refine awp_dr tab mixed [0, 2, 5, 8, 9, 10, 11, 25, 26] [] [] [] ⟨[[], [], [], [], [], [3, 4], [3, 4, 5], [2, 3, 4, 5, 6], [], [], [], [9, 10], [9, 10, 11], [8, 9, 10, 11, 12], [2, 3, 4, 5, 6, 7, 8, 9, 10, 11, 12, 13], [0, 1, 2, 3, 4, 5, 6, 7, 8, 9, 10, 11, 12, 13, 14], [0, 1, 2, 3, 4, 5, 6, 7, 8, 9, 10, 11, 12, 13, 14, 15]], [.osl 1 0, vi x6, vi a1, .d (.sl (.int .i64)) x1, vi x6, .er [vi (gI x1 x6)], vi (gI x1 x6), vi (a1 * (gI x1 x6)), vi a3, .d (.sl (.int .i64)) x2, vi x6, .er [vi (gI x2 x6)], vi (gI x2 x6), vi (a3 * (gI x2 x6)), vi ((a1 * (gI x1 x6)) + (a3 * (gI x2 x6))), .rref 1 0 (Int.toNat x6) 0, .tup []], [none, none, none, none, none, some ((0 : Int) ≤ x6 ∧ x6 < (x1.length : Int)), none, some (-9223372036854775808 ≤ a1 * (gI x1 x6) ∧ a1 * (gI x1 x6) ≤ 9223372036854775807), none, none, none, some ((0 : Int) ≤ x6 ∧ x6 < (x2.length : Int)), none, some (-9223372036854775808 ≤ a3 * (gI x2 x6) ∧ a3 * (gI x2 x6) ≤ 9223372036854775807), some (-9223372036854775808 ≤ (a1 * (gI x1 x6)) + (a3 * (gI x2 x6)) ∧ (a1 * (gI x1 x6)) + (a3 * (gI x2 x6)) ≤ 9223372036854775807), some ((0 : Int) ≤ x6 ∧ x6 < (x7.length : Int)), some (Int.toNat x6 < x7.length)], [16], [([], [.box [.nils, vi (0 : Int), vb false, .nils], .row (.int .i64) x7 0]), ([16], [.box [.nils, vi (0 : Int), vb false, .nils], .row (.int .i64) (x7.set (Int.toNat x6) ((a1 * (gI x1 x6)) + (a3 * (gI x2 x6)))) 0])]⟩ ⟨85, [(0, vi a1), (2, vi a3), (5, .er [.d (.sl (.int .i64)) a2.1.1, vi a2.1.2, vb a2.2.1, .d (.sl (.int .i64)) a2.2.2]), (8, .ref 0 0 0), (9, .d (.sl (.int .i64)) x1), (10, .d (.sl (.int .i64)) x2), (11, .osl 1 0), (25, vi (x1.length : Int)), (26, vi x6)], [.box [.nils, vi (0 : Int), vb false, .nils], .row (.int .i64) (x7.set (Int.toNat x6) ((a1 * (gI x1 x6)) + (a3 * (gI x2 x6)))) 0]⟩ (by kernel_rfl) (AllO.n (AllO.n (AllO.n (AllO.n (AllO.n (AllO.s (o4) (AllO.n (AllO.s (o5) (AllO.n (AllO.n (AllO.n (AllO.s (o6) (AllO.n (AllO.s (o7) (AllO.s (o8) (AllO.s (o9) (AllO.s (o10) (AllO.e)))))))))))))))))) ?_
    refine then_n (spine_e (blk_n (then_n (spine_c ?_))))
    refine awp_abs (fun (x11 : (List Int)) => ⟨85, [(0, vi a1), (2, vi a3), (5, .er [.d (.sl (.int .i64)) a2.1.1, vi a2.1.2, vb a2.2.1, .d (.sl (.int .i64)) a2.2.2]), (8, .ref 0 0 0), (9, .d (.sl (.int .i64)) x1), (10, .d (.sl (.int .i64)) x2), (11, .osl 1 0), (25, vi (x1.length : Int)), (26, vi x6)], [.box [.nils, vi (0 : Int), vb false, .nils], .row (.int .i64) x11 0]⟩) (x7.set (Int.toNat x6) ((a1 * (gI x1 x6)) + (a3 * (gI x2 x6)))) ?_
    intro x11 hx11
    replace h := h x11 hx11
    obtain ⟨o11, h⟩ := h
    refine awp_rc tab [0, 2, 5, 8, 9, 10, 11, 25, 26] [] [] [] [-9223372036854775808 ≤ x6 + (1 : Int) ∧ x6 + (1 : Int) ≤ 9223372036854775807] ⟨85, [(0, vi a1), (2, vi a3), (5, .er [.d (.sl (.int .i64)) a2.1.1, vi a2.1.2, vb a2.2.1, .d (.sl (.int .i64)) a2.2.2]), (8, .ref 0 0 0), (9, .d (.sl (.int .i64)) x1), (10, .d (.sl (.int .i64)) x2), (11, .osl 1 0), (25, vi (x1.length : Int)), (26, vi (x6 + (1 : Int)))], [.box [.nils, vi (0 : Int), vb false, .nils], .row (.int .i64) x11 0]⟩ (by kernel_rfl) (AllP.of (o11) trivial) ?_
    refine then_n (spine_e (then_n (spine_e (then_n (spine_e (then_n (?_)))))))
    obtain ⟨m, hm, h⟩ := h
    exact ⟨m, hm, ⟨85, [(0, vi a1), (2, vi a3), (5, .er [.d (.sl (.int .i64)) a2.1.1, vi a2.1.2, vb a2.2.1, .d (.sl (.int .i64)) a2.2.2]), (8, .ref 0 0 0), (9, .d (.sl (.int .i64)) x1), (10, .d (.sl (.int .i64)) x2), (11, .osl 1 0), (25, vi (x1.length : Int)), (26, vi (x6 + (1 : Int)))], [.box [.nils, vi (0 : Int), vb false, .nils], .row (.int .i64) x11 0]⟩, wk_ghosts hk (l := [.keep [0, 2, 5, 8, 9, 10, 11, 25, 26], .keep [0, 2, 5, 8, 9, 10, 11, 25, 26], .keep [0, 2, 5, 8, 9, 10, 11, 25, 26]]) (by kernel_rfl), x6 + (1 : Int), x11, h, rfl⟩
  · replace h := h.2 (of_decide_eq_false hb)
    refine awp_exit (then_x (then_x (then_x (blk_h (then_n (spine_c ?_))))))
    refine awp_spine ?_
    obtain ⟨o12, h⟩ := h
    refine awp_rc tab [5, 8, 11, 13] [] [(1, .dat (.tup [vi ((ref01_Gcd.fn x7).1), vi ((ref01_Gcd.fn x7).2)]))] [] [OkA prog 98 [.osl 1 0] [.box [.nils, vi (0 : Int), vb false, .nils], .row (.int .i64) x7 0] (.tup [vi ((ref01_Gcd.fn x7).1), vi ((ref01_Gcd.fn x7).2)])] ⟨85, [(5, .er [.d (.sl (.int .i64)) a2.1.1, vi a2.1.2, vb a2.2.1, .d (.sl (.int .i64)) a2.2.2]), (8, .ref 0 0 0), (11, .osl 1 0), (13, vi ((ref01_Gcd.fn x7).1))], [.box [.nils, vi (0 : Int), vb false, .nils], .row (.int .i64) x7 0]⟩ (by kernel_rfl) (AllP.of (OkC.lent 1 (by kernel_rfl) rfl rfl (ok_ref01_Gcd x7 (o12))) trivial) ?_
    refine then_n (spine_c ?_)
    refine awp_abs (fun (x12 : Int × Int) => ⟨85, [(5, .er [.d (.sl (.int .i64)) a2.1.1, vi a2.1.2, vb a2.2.1, .d (.sl (.int .i64)) a2.2.2]), (8, .ref 0 0 0), (11, .osl 1 0), (13, vi x12.1)], [.box [.nils, vi (0 : Int), vb false, .nils], .row (.int .i64) x7 0]⟩) (ref01_Gcd.fn x7) ?_
    intro x12 hx12
    replace h := h x12 hx12
    obtain ⟨R14, hA14, hB14⟩ := h
    refine awp_meet (fun s' => ∃ (x13 : (List Int)), R14 x13 ∧ Wk cx s' ⟨85, [(5, .er [.d (.sl (.int .i64)) a2.1.1, vi a2.1.2, vb a2.2.1, .d (.sl (.int .i64)) a2.2.2]), (8, .ref 0 0 0), (11, .osl 1 0)], [.box [.nils, vi (0 : Int), vb false, .nils], .row (.int .i64) x13 0]⟩) ?_ ?_
    · have h := hA14
      refine awp_spine ?_
      refine awp_rc tab [5, 8, 11, 13, 52] [] [] [] [] ⟨85, [(5, .er [.d (.sl (.int .i64)) a2.1.1, vi a2.1.2, vb a2.2.1, .d (.sl (.int .i64)) a2.2.2]), (8, .ref 0 0 0), (11, .osl 1 0), (13, vi x12.1), (52, vb (decide (x12.1 > (1 : Int))))], [.box [.nils, vi (0 : Int), vb false, .nils], .row (.int .i64) x7 0]⟩ (by kernel_rfl) (trivial) ?_
      refine then_n (spine_c ?_)
      refine awp_cond (b := decide (x12.1 > (1 : Int))) (by kernel_rfl) (fun hb => ?_) (fun hb => ?_)
      · replace h := h.1 (of_decide_eq_true hb)
        refine awp_spine ?_
        refine awp_rc tab [5, 8, 11, 13, 54, 55] [] [] [] [] ⟨85, [(5, .er [.d (.sl (.int .i64)) a2.1.1, vi a2.1.2, vb a2.2.1, .d (.sl (.int .i64)) a2.2.2]), (8, .ref 0 0 0), (11, .osl 1 0), (13, vi x12.1), (54, vi (x7.length : Int)), (55, vi (0 : Int))], [.box [.nils, vi (0 : Int), vb false, .nils], .row (.int .i64) x7 0]⟩ (by kernel_rfl) (trivial) ?_
        refine then_n (spine_c ?_)
        refine awp_block ?_
        obtain ⟨I21, ⟨n21a, hz21⟩, hI21⟩ := h
        refine awp_loopN (fun n s => ∃ (x17 : Int) (x18 : (List Int)), I21 n x17 x18 ∧ s = ⟨85, [(5, .er [.d (.sl (.int .i64)) a2.1.1, vi a2.1.2, vb a2.2.1, .d (.sl (.int .i64)) a2.2.2]), (8, .ref 0 0 0), (11, .osl 1 0), (13, vi x12.1), (54, vi (x7.length : Int)), (55, vi x17)], [.box [.nils, vi (0 : Int), vb false, .nils], .row (.int .i64) x18 0]⟩) (n := n21a) (s0 := ⟨85, [(5, .er [.d (.sl (.int .i64)) a2.1.1, vi a2.1.2, vb a2.2.1, .d (.sl (.int .i64)) a2.2.2]), (8, .ref 0 0 0), (11, .osl 1 0), (13, vi x12.1), (54, vi (x7.length : Int)), (55, vi (0 : Int))], [.box [.nils, vi (0 : Int), vb false, .nils], .row (.int .i64) x7 0]⟩) (wk_ghosts hk (l := [.keep [5, 8, 11, 13, 54, 55], .keep [5, 8, 11, 13, 54, 55], .keep [5, 8, 11, 13, 54, 55], .keep [5, 8, 11, 13, 54, 55]]) (by kernel_rfl)) ⟨0, x7, hz21, rfl⟩ ?_
        rintro n21 s ⟨x17, x18, hx21, rfl⟩
        have h := hI21 n21 x17 x18 hx21
        refine awp_spine ?_
        refine awp_rc tab [5, 8, 11, 13, 54, 55, 56] [] [] [] [] ⟨85, [(5, .er [.d (.sl (.int .i64)) a2.1.1, vi a2.1.2, vb a2.2.1, .d (.sl (.int .i64)) a2.2.2]), (8, .ref 0 0 0), (11, .osl 1 0), (13, vi x12.1), (54, vi (x7.length : Int)), (55, vi x17), (56, vb (decide (x17 < (x7.length : Int))))], [.box [.nils, vi (0 : Int), vb false, .nils], .row (.int .i64) x18 0]⟩ (by kernel_rfl) (trivial) ?_
        refine then_n (spine_c ?_)
        refine awp_spine ?_
        refine awp_cond (b := decide (x17 < (x7.length : Int))) (by kernel_rfl) (fun hb => ?_) (fun hb => ?_)
        · replace h := h.1 (of_decide_eq_true hb)
          refine awp_skip (then_n (spine_c ?_))
          refine awp_spine ?_
          refine awp_block ?_
          refine awp_spine ?_
          refine awp_rc tab [5, 8, 11, 13, 15, 54, 55] [] [] [] [] ⟨85, [(5, .er [.d (.sl (.int .i64)) a2.1.1, vi a2.1.2, vb a2.2.1, .d (.sl (.int .i64)) a2.2.2]), (8, .ref 0 0 0), (11, .osl 1 0), (13, vi x12.1), (15, vi x17), (54, vi (x7.length : Int)), (55, vi x17)], [.box [.nils, vi (0 : Int), vb false, .nils], .row (.int .i64) x18 0]⟩ (by kernel_rfl) (trivial) ?_
          refine then_n (spine_c ?_)
          obtain ⟨o13, o14, o15, o16, o17, h⟩ := h
          refine awp_rc tab [5, 8, 11, 13, 54, 55] [] [] [] [(0 : Int) ≤ x17 ∧ x17 < (x18.length : Int), Int.toNat x17 < x18.length, x12.1 ≠ 0 ∧ -9223372036854775808 ≤ Int.tdiv (x18.getD (Int.toNat x17) (0 : Int)) x12.1 ∧ Int.tdiv (x18.getD (Int.toNat x17) (0 : Int)) x12.1 ≤ 9223372036854775807, (0 : Int) ≤ x17 ∧ x17 < (x18.length : Int), Int.toNat x17 < x18.length] ⟨85, [(5, .er [.d (.sl (.int .i64)) a2.1.1, vi a2.1.2, vb a2.2.1, .d (.sl (.int .i64)) a2.2.2]), (8, .ref 0 0 0), (11, .osl 1 0), (13, vi x12.1), (54, vi (x7.length : Int)), (55, vi x17)], [.box [.nils, vi (0 : Int), vb false, .nils], .row (.int .i64) (x18.set (Int.toNat x17) (Int.tdiv (x18.getD (Int.toNat x17) (0 : Int)) x12.1)) 0]⟩ (by kernel_rfl) (AllP.of (o13) (AllP.of (o14) (AllP.of (o15) (AllP.of (o16) (AllP.of (o17) trivial))))) ?_
          refine then_n (spine_e (blk_n (then_n (spine_c ?_))))
          refine awp_abs (fun (x22 : (List Int)) => ⟨85, [(5, .er [.d (.sl (.int .i64)) a2.1.1, vi a2.1.2, vb a2.2.1, .d (.sl (.int .i64)) a2.2.2]), (8, .ref 0 0 0), (11, .osl 1 0), (13, vi x12.1), (54, vi (x7.length : Int)), (55, vi x17)], [.box [.nils, vi (0 : Int), vb false, .nils], .row (.int .i64) x22 0]⟩) (x18.set (Int.toNat x17) (Int.tdiv (x18.getD (Int.toNat x17) (0 : Int)) x12.1)) ?_
          intro x22 hx22
          replace h := h x22 hx22
          obtain ⟨o18, h⟩ := h
          refine awp_rc tab [5, 8, 11, 13, 54, 55] [] [] [] [-9223372036854775808 ≤ x17 + (1 : Int) ∧ x17 + (1 : Int) ≤ 9223372036854775807] ⟨85, [(5, .er [.d (.sl (.int .i64)) a2.1.1, vi a2.1.2, vb a2.2.1, .d (.sl (.int .i64)) a2.2.2]), (8, .ref 0 0 0), (11, .osl 1 0), (13, vi x12.1), (54, vi (x7.length : Int)), (55, vi (x17 + (1 : Int)))], [.box [.nils, vi (0 : Int), vb false, .nils], .row (.int .i64) x22 0]⟩ (by kernel_rfl) (AllP.of (o18) trivial) ?_
          refine then_n (spine_e (then_n (spine_e (then_n (spine_e (then_n (?_)))))))
          obtain ⟨m, hm, h⟩ := h
          exact ⟨m, hm, ⟨85, [(5, .er [.d (.sl (.int .i64)) a2.1.1, vi a2.1.2, vb a2.2.1, .d (.sl (.int .i64)) a2.2.2]), (8, .ref 0 0 0), (11, .osl 1 0), (13, vi x12.1), (54, vi (x7.length : Int)), (55, vi (x17 + (1 : Int)))], [.box [.nils, vi (0 : Int), vb false, .nils], .row (.int .i64) x22 0]⟩, wk_ghosts hk (l := [.keep [5, 8, 11, 13, 54, 55], .keep [5, 8, 11, 13, 54, 55], .keep [5, 8, 11, 13, 54, 55]]) (by kernel_rfl), x17 + (1 : Int), x22, h, rfl⟩
        · replace h := h.2 (of_decide_eq_false hb)
          refine awp_exit (then_x (then_x (then_x (blk_h (then_n (spine_e (then_n (spine_e (then_n (?_))))))))))
          exact ⟨x18, h, wk_ghosts hk (l := [.keep [5, 8, 11], .keep [5, 8, 11], .keep [5, 8, 11]]) (by kernel_rfl)⟩
      · replace h := h.2 (of_decide_eq_false hb)
        refine awp_skip (then_n (spine_e (then_n (?_))))
        exact ⟨x7, h, wk_ghosts hk (l := [.keep [5, 8, 11], .keep [5, 8, 11], .keep [5, 8, 11]]) (by kernel_rfl)⟩
    · rintro s' ⟨x13, hx14, hw14⟩
      have h := hB14 x13 hx14
      refine spine_c (awp_wk hw14 ?_)
      refine awp_spine ?_
      refine awp_rc tab [5, 8, 11, 16] [] [] [] [] ⟨85, [(5, .er [.d (.sl (.int .i64)) a2.1.1, vi a2.1.2, vb a2.2.1, .d (.sl (.int .i64)) a2.2.2]), (8, .ref 0 0 0), (11, .osl 1 0), (16, vi (a2.1.1.length : Int))], [.box [.nils, vi (0 : Int), vb false, .nils], .row (.int .i64) x13 0]⟩ (by kernel_rfl) (trivial) ?_
      refine then_n (spine_c ?_)
      refine awp_len 5 [0] (T := (.int .i64)) (l := a2.1.1) (by kernel_rfl) fun hl => ?_
      replace h := h hl
      refine awp_spine ?_
      refine awp_gh hk [.freeze 1, .keep [5, 8, 11, 16]] ⟨85, [(5, .er [.d (.sl (.int .i64)) a2.1.1, vi a2.1.2, vb a2.2.1, .d (.sl (.int .i64)) a2.2.2]), (8, .ref 0 0 0), (11, .d (.sl (.int .i64)) x13), (16, vi (a2.1.1.length : Int))], [.box [.nils, vi (0 : Int), vb false, .nils], .dead]⟩ (by kernel_rfl) ?_
      obtain ⟨o19, o20, o21, o22, h⟩ := h
      refine awp_dr tab mixed [8] [] [] [] ⟨[[], [], [0, 1], [], [], [3, 4], [3, 4, 5], [0, 1, 2, 3, 4, 5, 6], [], [8], [], [], [11], [10, 11, 12], [0, 1, 2, 3, 4, 5, 6, 7, 8, 9, 10, 11, 12, 13], [0, 1, 2, 3, 4, 5, 6, 7, 8, 9, 10, 11, 12, 13, 14]], [.d (.sl (.int .i64)) x13, vi (a2.1.1.length : Int), .d (.sl (.int .i64)) (x13.take (Int.toNat (a2.1.1.length : Int))), .d (.sl (.int .i64)) x13, vi (a2.1.1.length : Int), .er [vi (gI x13 (a2.1.1.length : Int))], vi (gI x13 (a2.1.1.length : Int)), .agg [.d (.sl (.int .i64)) (x13.take (Int.toNat (a2.1.1.length : Int))), vi (gI x13 (a2.1.1.length : Int))], .er [vb a2.2.1, .d (.sl (.int .i64)) a2.2.2], vb a2.2.1, .d (.sl (.int .i64)) x13, vi (a2.1.1.length : Int), vi ((a2.1.1.length : Int) + (1 : Int)), .d (.sl (.int .i64)) (x13.drop (Int.toNat ((a2.1.1.length : Int) + (1 : Int)))), .agg [.d (.sl (.int .i64)) (x13.take (Int.toNat (a2.1.1.length : Int))), vi (gI x13 (a2.1.1.length : Int)), vb a2.2.1, .d (.sl (.int .i64)) (x13.drop (Int.toNat ((a2.1.1.length : Int) + (1 : Int))))], .tup []], [none, none, some ((0 : Int) ≤ (a2.1.1.length : Int) ∧ (a2.1.1.length : Int) ≤ (x13.length : Int)), none, none, some ((0 : Int) ≤ (a2.1.1.length : Int) ∧ (a2.1.1.length : Int) < (x13.length : Int)), none, none, none, none, none, none, some (-9223372036854775808 ≤ (a2.1.1.length : Int) + (1 : Int) ∧ (a2.1.1.length : Int) + (1 : Int) ≤ 9223372036854775807), some ((0 : Int) ≤ ((a2.1.1.length : Int) + (1 : Int)) ∧ ((a2.1.1.length : Int) + (1 : Int)) ≤ (x13.length : Int)), none, none], [15], [([], [.box [.nils, vi (0 : Int), vb false, .nils], .dead]), ([15], [.box [.d (.sl (.int .i64)) (x13.take (Int.toNat (a2.1.1.length : Int))), vi (gI x13 (a2.1.1.length : Int)), vb a2.2.1, .d (.sl (.int .i64)) (x13.drop (Int.toNat ((a2.1.1.length : Int) + (1 : Int))))], .dead])]⟩ ⟨85, [(8, .ref 0 0 0)], [.box [.d (.sl (.int .i64)) (x13.take (Int.toNat (a2.1.1.length : Int))), vi (gI x13 (a2.1.1.length : Int)), vb a2.2.1, .d (.sl (.int .i64)) (x13.drop (Int.toNat ((a2.1.1.length : Int) + (1 : Int))))], .dead]⟩ (by kernel_rfl) (AllO.n (AllO.n (AllO.s (o19) (AllO.n (AllO.n (AllO.s (o20) (AllO.n (AllO.n (AllO.n (AllO.n (AllO.n (AllO.n (AllO.s (o21) (AllO.s (o22) (AllO.n (AllO.n (AllO.e))))))))))))))))) ?_
      refine then_n (spine_c ?_)
      refine awp_abs (fun (x23 : (List Int)) => ⟨85, [(8, .ref 0 0 0)], [.box [.d (.sl (.int .i64)) x23, vi (gI x13 (a2.1.1.length : Int)), vb a2.2.1, .d (.sl (.int .i64)) (x13.drop (Int.toNat ((a2.1.1.length : Int) + (1 : Int))))], .dead]⟩) (x13.take (Int.toNat (a2.1.1.length : Int))) ?_
      intro x23 hx23
      replace h := h x23 hx23
      refine awp_abs (fun (x24 : (List Int)) => ⟨85, [(8, .ref 0 0 0)], [.box [.d (.sl (.int .i64)) x23, vi (gI x13 (a2.1.1.length : Int)), vb a2.2.1, .d (.sl (.int .i64)) x24], .dead]⟩) (x13.drop (Int.toNat ((a2.1.1.length : Int) + (1 : Int)))) ?_
      intro x24 hx24
      replace h := h x24 hx24
      refine awp_ret (then_r (then_r (then_r (then_r (then_r (then_r (then_r (?_))))))))
      exact ret_r (m := 0) (r := .agg [.d (.sl (.int .i64)) ((((x23, gI x13 (a2.1.1.length : Int)), a2.2.1, x24).1).1), vi ((((x23, gI x13 (a2.1.1.length : Int)), a2.2.1, x24).1).2), vb (((x23, gI x13 (a2.1.1.length : Int)), a2.2.1, x24).2.1), .d (.sl (.int .i64)) (((x23, gI x13 (a2.1.1.length : Int)), a2.2.1, x24).2.2)]) (objs := []) hk [.keep [8]] ⟨85, [(8, .ref 0 0 0)], [.box [.d (.sl (.int .i64)) x23, vi (gI x13 (a2.1.1.length : Int)), vb a2.2.1, .d (.sl (.int .i64)) x24], .dead]⟩ (by kernel_rfl) (by kernel_rfl) (Nat.le_refl 0) ⟨((x23, gI x13 (a2.1.1.length : Int)), a2.2.1, x24), rfl, rfl, h⟩
theorem ok_ref09_mix (a1 : Int) (a2 : ref09_Row) (a3 : Int) (a4 : ref09_Row) (h : ref09_mix.pre a1 a2 a3 a4) : OkC prog 81 [vi a1, .agg [.d (.sl (.int .i64)) a2.1.1, vi a2.1.2, vb a2.2.1, .d (.sl (.int .i64)) a2.2.2], vi a3, .agg [.d (.sl (.int .i64)) a4.1.1, vi a4.1.2, vb a4.2.1, .d (.sl (.int .i64)) a4.2.2]] (.agg [.d (.sl (.int .i64)) (((ref09_mix.fn a1 a2 a3 a4).1).1), vi (((ref09_mix.fn a1 a2 a3 a4).1).2), vb ((ref09_mix.fn a1 a2 a3 a4).2.1), .d (.sl (.int .i64)) ((ref09_mix.fn a1 a2 a3 a4).2.2)]) :=
  OkC.of call_ref09_mix ((walk_ref09_mix a1 a2 a3 a4 _ (ref09_mix.spec a1 a2 a3 a4 h)).mono fun r o ⟨x, hr, ho, hx⟩ => ⟨by rw [hr, hx], ho⟩) rfl rfl (fun _ => rfl)

noncomputable abbrev Bref09_same : Code := bodyOf Try.f82
theorem call_ref09_same : CallOk prog 82 := ⟨_, Try.func82, by kernel_rfl, by kernel_rfl⟩
theorem walk_ref09_same (a1 : ref09_Row) (a2 : ref09_Row) (Q : Bool → Prop) (h : ref09_same.wp a1 a2 Q) : VCalls prog 82 [.agg [.d (.sl (.int .i64)) a1.1.1, vi a1.1.2, vb a1.2.1, .d (.sl (.int .i64)) a1.2.2], .agg [.d (.sl (.int .i64)) a2.1.1, vi a2.1.2, vb a2.2.1, .d (.sl (.int .i64)) a2.2.2]] [] (fun r o => ∃ x, r = vb x ∧ o = [] ∧ Q x) := by
  refine vcalls_body tab Try.func82 (c := (spine (subC [0] Bref09_same) [(spine (subC [1, 0, 0] Bref09_same) [(.cond (.tmp 19) (spine (subC [1, 0, 1, 0, 0] Bref09_same) [.ret]) .skip), (spine (subC [1, 1, 0, 0] Bref09_same) [(.block 0 (.loop (spine (subC [1, 1, 0, 1, 0, 0, 0] Bref09_same) [(spine (.cond (.tmp 25) .skip (.exit 0)) [(spine (.block 1 (spine (subC [1, 1, 0, 1, 0, 0, 1, 1, 0, 0, 0] Bref09_same) [(spine (subC [1, 1, 0, 1, 0, 0, 1, 1, 0, 0, 1, 0] Bref09_same) [(.cond (.tmp 39) (spine (subC [1, 1, 0, 1, 0, 0, 1, 1, 0, 0, 1, 1, 0, 0] Bref09_same) [.ret]) .skip)])])) [(subC [1, 1, 0, 1, 0, 0, 1, 1, 1] Bref09_same)])])]))), (spine (subC [1, 1, 1, 0] Bref09_same) [.ret])])])])) (by kernel_rfl) (Nat.le_of_ble_eq_true (by kernel_rfl)) fun cx hd hi hk => ?_
  show AWp prog cx _ _ ⟨41, [(0, .agg [.d (.sl (.int .i64)) a1.1.1, vi a1.1.2, vb a1.2.1, .d (.sl (.int .i64)) a1.2.2]), (1, .agg [.d (.sl (.int .i64)) a2.1.1, vi a2.1.2, vb a2.2.1, .d (.sl (.int .i64)) a2.2.2])], []⟩
  replace hk : cx.E.len = 0 := hk
  unfold ref09_same.wp at h
  refine awp_spine ?_
  refine awp_rc tab [2, 3] [] [] [0, 1] [] ⟨41, [(2, .er [.d (.sl (.int .i64)) a1.1.1, vi a1.1.2, vb a1.2.1, .d (.sl (.int .i64)) a1.2.2]), (3, .er [.d (.sl (.int .i64)) a2.1.1, vi a2.1.2, vb a2.2.1, .d (.sl (.int .i64)) a2.2.2])], []⟩ (by kernel_rfl) (trivial) ?_
  refine then_n (spine_c ?_)
  refine awp_spine ?_
  refine awp_rc tab [2, 3, 19] [] [] [] [(!(a1.2.1 != a2.2.1)) = true → (!(a1.2.1 != a2.2.1)) = true ∧ True, (!(a1.2.1 != a2.2.1)) = true → (!(a1.2.1 != a2.2.1)) = true ∧ True, (!(a1.2.1 != a2.2.1)) = true → (!(a1.2.1 != a2.2.1)) = true ∧ True, (!(a1.2.1 != a2.2.1)) = true → (!(a1.2.1 != a2.2.1)) = true ∧ True, (!(a1.2.1 != a2.2.1)) = true → (!(a1.2.1 != a2.2.1)) = true ∧ ((!(a1.2.1 != a2.2.1)) = true ∧ True), (a1.2.1 != a2.2.1) = false → (!(a1.2.1 != a2.2.1)) = true] ⟨41, [(2, .er [.d (.sl (.int .i64)) a1.1.1, vi a1.1.2, vb a1.2.1, .d (.sl (.int .i64)) a1.2.2]), (3, .er [.d (.sl (.int .i64)) a2.1.1, vi a2.1.2, vb a2.2.1, .d (.sl (.int .i64)) a2.2.2]), (19, vb ((a1.2.1 != a2.2.1) || (a1.1.2 != a2.1.2)))], []⟩ (by kernel_rfl) (AllP.of (fun hg => ⟨hg, trivial⟩) (AllP.of (fun hg => ⟨hg, trivial⟩) (AllP.of (fun hg => ⟨hg, trivial⟩) (AllP.of (fun hg => ⟨hg, trivial⟩) (AllP.of (fun hg => ⟨hg, hg, trivial⟩) (AllP.of (fun hc => not_f hc) trivial)))))) ?_
  refine then_n (spine_c ?_)
  refine awp_cond (b := (a1.2.1 != a2.2.1) || (a1.1.2 != a2.1.2)) (by kernel_rfl) (fun hb => ?_) (fun hb => ?_)
  · replace h := h.1 (hb)
    refine awp_spine ?_
    refine awp_rc tab [4] [] [] [] [] ⟨41, [(4, vb false)], []⟩ (by kernel_rfl) (trivial) ?_
    refine then_n (spine_c ?_)
    refine awp_ret (then_r (then_r (then_r (?_))))
    exact ret_r (m := 0) (r := vb false) (objs := []) hk [.keep [4]] ⟨41, [(4, vb false)], []⟩ (by kernel_rfl) (by kernel_rfl) (Nat.le_refl 0) ⟨false, rfl, rfl, h⟩
  · replace h := h.2 (hb)
    refine awp_skip (then_n (spine_c ?_))
    refine awp_spine ?_
    refine awp_rc tab [2, 3, 23, 24] [] [] [] [] ⟨41, [(2, .er [.d (.sl (.int .i64)) a1.1.1, vi a1.1.2, vb a1.2.1, .d (.sl (.int .i64)) a1.2.2]), (3, .er [.d (.sl (.int .i64)) a2.1.1, vi a2.1.2, vb a2.2.1, .d (.sl (.int .i64)) a2.2.2]), (23, vi (a1.1.1.length : Int)), (24, vi (0 : Int))], []⟩ (by kernel_rfl) (trivial) ?_
    refine then_n (spine_c ?_)
    refine awp_len 2 [0] (T := (.int .i64)) (l := a1.1.1) (by kernel_rfl) fun hl => ?_
    replace h := h hl
    refine awp_block ?_
    obtain ⟨I4, ⟨n4a, hz4⟩, hI4⟩ := h
    refine awp_loopN (fun n s => ∃ (x2 : Int), I4 n x2 ∧ s = ⟨41, [(2, .er [.d (.sl (.int .i64)) a1.1.1, vi a1.1.2, vb a1.2.1, .d (.sl (.int .i64)) a1.2.2]), (3, .er [.d (.sl (.int .i64)) a2.1.1, vi a2.1.2, vb a2.2.1, .d (.sl (.int .i64)) a2.2.2]), (23, vi (a1.1.1.length : Int)), (24, vi x2)], []⟩) (n := n4a) (s0 := ⟨41, [(2, .er [.d (.sl (.int .i64)) a1.1.1, vi a1.1.2, vb a1.2.1, .d (.sl (.int .i64)) a1.2.2]), (3, .er [.d (.sl (.int .i64)) a2.1.1, vi a2.1.2, vb a2.2.1, .d (.sl (.int .i64)) a2.2.2]), (23, vi (a1.1.1.length : Int)), (24, vi (0 : Int))], []⟩) (wk_ghosts hk (l := [.keep [2, 3, 23, 24], .keep [2, 3, 23, 24], .keep [2, 3, 23, 24], .keep [2, 3, 23, 24]]) (by kernel_rfl)) ⟨0, hz4, rfl⟩ ?_
    rintro n4 s ⟨x2, hx4, rfl⟩
    have h := hI4 n4 x2 hx4
    refine awp_spine ?_
    refine awp_rc tab [2, 3, 23, 24, 25] [] [] [] [] ⟨41, [(2, .er [.d (.sl (.int .i64)) a1.1.1, vi a1.1.2, vb a1.2.1, .d (.sl (.int .i64)) a1.2.2]), (3, .er [.d (.sl (.int .i64)) a2.1.1, vi a2.1.2, vb a2.2.1, .d (.sl (.int .i64)) a2.2.2]), (23, vi (a1.1.1.length : Int)), (24, vi x2), (25, vb (decide (x2 < (a1.1.1.length : Int))))], []⟩ (by kernel_rfl) (trivial) ?_
    refine then_n (spine_c ?_)
    refine awp_spine ?_
    refine awp_cond (b := decide (x2 < (a1.1.1.length : Int))) (by kernel_rfl) (fun hb => ?_) (fun hb => ?_)
    · replace h := h.1 (of_decide_eq_true hb)
      refine awp_skip (then_n (spine_c ?_))
      refine awp_spine ?_
      refine awp_block ?_
      refine awp_spine ?_
      refine awp_rc tab [2, 3, 5, 23, 24] [] [] [] [] ⟨41, [(2, .er [.d (.sl (.int .i64)) a1.1.1, vi a1.1.2, vb a1.2.1, .d (.sl (.int .i64)) a1.2.2]), (3, .er [.d (.sl (.int .i64)) a2.1.1, vi a2.1.2, vb a2.2.1, .d (.sl (.int .i64)) a2.2.2]), (5, vi x2), (23, vi (a1.1.1.length : Int)), (24, vi x2)], []⟩ (by kernel_rfl) (trivial) ?_
      refine then_n (spine_c ?_)
      refine awp_spine ?_
      obtain ⟨o1, o2, h⟩ := h
      refine awp_dr tab mixed [2, 3, 23, 24, 39] [] [] [] ⟨[[], [0], [0, 1], [], [0, 1, 2, 3], [0, 1, 2, 3, 4], [], [6], [6, 7], [], [6, 7, 8, 9], [6, 7, 8, 9, 10], [0, 1, 2, 3, 4, 5, 6, 7, 8, 9, 10, 11]], [.er [.d (.sl (.int .i64)) a1.1.1, vi a1.1.2, vb a1.2.1, .d (.sl (.int .i64)) a1.2.2], .er [.d (.sl (.int .i64)) a1.1.1, vi a1.1.2, vb a1.2.1, .d (.sl (.int .i64)) a1.2.2], .d (.sl (.int .i64)) a1.1.1, vi x2, .er [vi (gI a1.1.1 x2)], vi (gI a1.1.1 x2), .er [.d (.sl (.int .i64)) a2.1.1, vi a2.1.2, vb a2.2.1, .d (.sl (.int .i64)) a2.2.2], .er [.d (.sl (.int .i64)) a2.1.1, vi a2.1.2, vb a2.2.1, .d (.sl (.int .i64)) a2.2.2], .d (.sl (.int .i64)) a2.1.1, vi x2, .er [vi (gI a2.1.1 x2)], vi (gI a2.1.1 x2), vb ((gI a1.1.1 x2) != (gI a2.1.1 x2))], [none, none, none, none, some ((0 : Int) ≤ x2 ∧ x2 < (a1.1.1.length : Int)), none, none, none, none, none, some ((0 : Int) ≤ x2 ∧ x2 < (a2.1.1.length : Int)), none, none], [], [([], [])]⟩ ⟨41, [(2, .er [.d (.sl (.int .i64)) a1.1.1, vi a1.1.2, vb a1.2.1, .d (.sl (.int .i64)) a1.2.2]), (3, .er [.d (.sl (.int .i64)) a2.1.1, vi a2.1.2, vb a2.2.1, .d (.sl (.int .i64)) a2.2.2]), (23, vi (a1.1.1.length : Int)), (24, vi x2), (39, vb ((gI a1.1.1 x2) != (gI a2.1.1 x2)))], []⟩ (by kernel_rfl) (AllO.n (AllO.n (AllO.n (AllO.n (AllO.s (o1) (AllO.n (AllO.n (AllO.n (AllO.n (AllO.n (AllO.s (o2) (AllO.n (AllO.n (AllO.e)))))))))))))) ?_
      refine then_n (spine_c ?_)
      refine awp_cond (b := (gI a1.1.1 x2) != (gI a2.1.1 x2)) (by kernel_rfl) (fun hb => ?_) (fun hb => ?_)
      · replace h := h.1 (bne_iff_ne.mp hb)
        refine awp_spine ?_
        refine awp_rc tab [4] [] [] [] [] ⟨41, [(4, vb false)], []⟩ (by kernel_rfl) (trivial) ?_
        refine then_n (spine_c ?_)
        refine awp_ret (then_r (then_r (then_r (blk_r (then_r (then_r (then_r (then_r (blk_r (then_r (then_r (then_r (?_)))))))))))))
        exact ret_r (m := 0) (r := vb false) (objs := []) hk [.keep [4]] ⟨41, [(4, vb false)], []⟩ (by kernel_rfl) (by kernel_rfl) (Nat.le_refl 0) ⟨false, rfl, rfl, h⟩
      · replace h := h.2 (bne_f hb)
        refine awp_skip (then_n (spine_e (then_n (spine_e (blk_n (then_n (spine_c ?_)))))))
        obtain ⟨o3, h⟩ := h
        refine awp_rc tab [2, 3, 23, 24] [] [] [] [-9223372036854775808 ≤ x2 + (1 : Int) ∧ x2 + (1 : Int) ≤ 9223372036854775807] ⟨41, [(2, .er [.d (.sl (.int .i64)) a1.1.1, vi a1.1.2, vb a1.2.1, .d (.sl (.int .i64)) a1.2.2]), (3, .er [.d (.sl (.int .i64)) a2.1.1, vi a2.1.2, vb a2.2.1, .d (.sl (.int .i64)) a2.2.2]), (23, vi (a1.1.1.length : Int)), (24, vi (x2 + (1 : Int)))], []⟩ (by kernel_rfl) (AllP.of (o3) trivial) ?_
        refine then_n (spine_e (then_n (spine_e (then_n (spine_e (then_n (?_)))))))
        obtain ⟨m, hm, h⟩ := h
        exact ⟨m, hm, ⟨41, [(2, .er [.d (.sl (.int .i64)) a1.1.1, vi a1.1.2, vb a1.2.1, .d (.sl (.int .i64)) a1.2.2]), (3, .er [.d (.sl (.int .i64)) a2.1.1, vi a2.1.2, vb a2.2.1, .d (.sl (.int .i64)) a2.2.2]), (23, vi (a1.1.1.length : Int)), (24, vi (x2 + (1 : Int)))], []⟩, wk_ghosts hk (l := [.keep [2, 3, 23, 24], .keep [2, 3, 23, 24], .keep [2, 3, 23, 24]]) (by kernel_rfl), x2 + (1 : Int), h, rfl⟩
    · replace h := h.2 (of_decide_eq_false hb)
      refine awp_exit (then_x (then_x (then_x (blk_h (then_n (spine_c ?_))))))
      refine awp_spine ?_
      refine awp_rc tab [4] [] [] [] [] ⟨41, [(4, vb true)], []⟩ (by kernel_rfl) (trivial) ?_
      refine then_n (spine_c ?_)
      refine awp_ret (then_r (then_r (then_r (then_r (?_)))))
      exact ret_r (m := 0) (r := vb true) (objs := []) hk [.keep [4]] ⟨41, [(4, vb true)], []⟩ (by kernel_rfl) (by kernel_rfl) (Nat.le_refl 0) ⟨true, rfl, rfl, h⟩
theorem ok_ref09_same (a1 : ref09_Row) (a2 : ref09_Row) (h : ref09_same.pre a1 a2) : OkC prog 82 [.agg [.d (.sl (.int .i64)) a1.1.1, vi a1.1.2, vb a1.2.1, .d (.sl (.int .i64)) a1.2.2], .agg [.d (.sl (.int .i64)) a2.1.1, vi a2.1.2, vb a2.2.1, .d (.sl (.int .i64)) a2.2.2]] (vb (ref09_same.fn a1 a2)) :=
  OkC.of call_ref09_same ((walk_ref09_same a1 a2 _ (ref09_same.spec a1 a2 h)).mono fun r o ⟨x, hr, ho, hx⟩ => ⟨by rw [hr, hx], ho⟩) rfl rfl (fun _ => rfl)

noncomputable abbrev Bref09_Eliminate : Code := bodyOf Try.f58
theorem call_ref09_Eliminate : CallOk prog 58 := ⟨_, Try.func58, by kernel_rfl, by kernel_rfl⟩
theorem walk_ref09_Eliminate (a1 : (List ref09_Row)) (a2 : Int) (Q : (List ref09_Row) × Int → Prop) (h : ref09_Eliminate.wp a1 a2 Q) : VCalls prog 58 [.d (.sl t_ref09_Row) a1, vi a2] [] (fun r o => ∃ x, r = .tup [.d (.sl t_ref09_Row) x.1, vi x.2] ∧ o = [] ∧ Q x) := by
  refine vcalls_body tab Try.func58 (c := (spine (subC [0] Bref09_Eliminate) [(spine (subC [1, 0] Bref09_Eliminate) [(spine (subC [1, 1, 0, 0] Bref09_Eliminate) [(.block 0 (.loop (spine (subC [1, 1, 0, 1, 0, 0, 0] Bref09_Eliminate) [(spine (.cond (.tmp 35) .skip (.exit 0)) [(spine (.block 1 (spine (subC [1, 1, 0, 1, 0, 0, 1, 1, 0, 0, 0] Bref09_Eliminate) [(spine (subC [1, 1, 0, 1, 0, 0, 1, 1, 0, 0, 1, 0] Bref09_Eliminate) [(spine (subC [1, 1, 0, 1, 0, 0, 1, 1, 0, 0, 1, 1, 0] Bref09_Eliminate) [(.cond (.tmp 81) (subC [1, 1, 0, 1, 0, 0, 1, 1, 0, 0, 1, 1, 1, 0] Bref09_Eliminate) .skip)])])])) [(subC [1, 1, 0, 1, 0, 0, 1, 1, 1] Bref09_Eliminate)])])]))), (spine (subC [1, 1, 1, 0] Bref09_Eliminate) [(spine (subC [1, 1, 1, 1, 0, 0] Bref09_Eliminate) [(.cond (.tmp 85) (spine (subC [1, 1, 1, 1, 0, 1, 0, 0] Bref09_Eliminate) [(spine (subC [1, 1, 1, 1, 0, 1, 0, 1, 0] Bref09_Eliminate) [(spine (subC [1, 1, 1, 1, 0, 1, 0, 1, 1, 0] Bref09_Eliminate) [(spine (subC [1, 1, 1, 1, 0, 1, 0, 1, 1, 1, 0, 0] Bref09_Eliminate) [(.cond (.tmp 97) (subC [1, 1, 1, 1, 0, 1, 0, 1, 1, 1, 0, 1, 0] Bref09_Eliminate) .skip), (spine (subC [1, 1, 1, 1, 0, 1, 0, 1, 1, 1, 1, 0] Bref09_Eliminate) [(.block 2 (.loop (spine (subC [1, 1, 1, 1, 0, 1, 0, 1, 1, 1, 1, 1, 0, 0, 0] Bref09_Eliminate) [(spine (.cond (.tmp 101) .skip (.exit 2)) [(spine (.block 3 (spine (subC [1, 1, 1, 1, 0, 1, 0, 1, 1, 1, 1, 1, 0, 0, 1, 1, 0, 0, 0] Bref09_Eliminate) [(.block 4 (spine (subC [1, 1, 1, 1, 0, 1, 0, 1, 1, 1, 1, 1, 0, 0, 1, 1, 0, 0, 1, 0, 0] Bref09_Eliminate) [(.cond (.tmp 124) .skip (spine (subC [1, 1, 1, 1, 0, 1, 0, 1, 1, 1, 1, 1, 0, 0, 1, 1, 0, 0, 1, 0, 1, 1, 0] Bref09_Eliminate) [(.cond (.tmp 128) (subC [1, 1, 1, 1, 0, 1, 0, 1, 1, 1, 1, 1, 0, 0, 1, 1, 0, 0, 1, 0, 1, 1, 1, 0] Bref09_Eliminate) (subC [1, 1, 1, 1, 0, 1, 0, 1, 1, 1, 1, 1, 0, 0, 1, 1, 0, 0, 1, 0, 1, 1, 1, 1] Bref09_Eliminate))]))]))])) [(subC [1, 1, 1, 1, 0, 1, 0, 1, 1, 1, 1, 1, 0, 0, 1, 1, 1] Bref09_Eliminate)])])])))])])])])]) (spine (subC [1, 1, 1, 1, 0, 1, 1, 0, 0] Bref09_Eliminate) [(.block 5 (.loop (spine (subC [1, 1, 1, 1, 0, 1, 1, 0, 1, 0, 0, 0] Bref09_Eliminate) [(spine (.cond (.tmp 144) .skip (.exit 5)) [(spine (.block 6 (spine (subC [1, 1, 1, 1, 0, 1, 1, 0, 1, 0, 0, 1, 1, 0, 0, 0] Bref09_Eliminate) [(spine (subC [1, 1, 1, 1, 0, 1, 1, 0, 1, 0, 0, 1, 1, 0, 0, 1, 0] Bref09_Eliminate) [(.cond (.tmp 153) (subC [1, 1, 1, 1, 0, 1, 1, 0, 1, 0, 0, 1, 1, 0, 0, 1, 1, 0] Bref09_Eliminate) .skip)])])) [(subC [1, 1, 1, 1, 0, 1, 1, 0, 1, 0, 0, 1, 1, 1] Bref09_Eliminate)])])]))), (spine (subC [1, 1, 1, 1, 0, 1, 1, 1, 0] Bref09_Eliminate) [(.block 7 (.loop (spine (subC [1, 1, 1, 1, 0, 1, 1, 1, 1, 0, 0, 0] Bref09_Eliminate) [(spine (.cond (.tmp 162) .skip (.exit 7)) [(spine (.block 8 (spine (subC [1, 1, 1, 1, 0, 1, 1, 1, 1, 0, 0, 1, 1, 0, 0, 0] Bref09_Eliminate) [(spine (subC [1, 1, 1, 1, 0, 1, 1, 1, 1, 0, 0, 1, 1, 0, 0, 1, 0, 0] Bref09_Eliminate) [(.cond (.tmp 171) (.exit 8) .skip), (spine (subC [1, 1, 1, 1, 0, 1, 1, 1, 1, 0, 0, 1, 1, 0, 0, 1, 1, 0] Bref09_Eliminate) [(.block 9 (.loop (spine (subC [1, 1, 1, 1, 0, 1, 1, 1, 1, 0, 0, 1, 1, 0, 0, 1, 1, 1, 0, 0, 0] Bref09_Eliminate) [(spine (.cond (.tmp 175) .skip (.exit 9)) [(spine (.block 10 (spine (subC [1, 1, 1, 1, 0, 1, 1, 1, 1, 0, 0, 1, 1, 0, 0, 1, 1, 1, 0, 0, 1, 1, 0, 0, 0] Bref09_Eliminate) [(spine (subC [1, 1, 1, 1, 0, 1, 1, 1, 1, 0, 0, 1, 1, 0, 0, 1, 1, 1, 0, 0, 1, 1, 0, 0, 1, 0] Bref09_Eliminate) [(.cond (.tmp 184) (subC [1, 1, 1, 1, 0, 1, 1, 1, 1, 0, 0, 1, 1, 0, 0, 1, 1, 1, 0, 0, 1, 1, 0, 0, 1, 1, 0] Bref09_Eliminate) .skip)])])) [(subC [1, 1, 1, 1, 0, 1, 1, 1, 1, 0, 0, 1, 1, 0, 0, 1, 1, 1, 0, 0, 1, 1, 1] Bref09_Eliminate)])])])))])])])) [(subC [1, 1, 1, 1, 0, 1, 1, 1, 1, 0, 0, 1, 1, 1] Bref09_Eliminate)])])])))])])), (spine (subC [1, 1, 1, 1, 1, 0] Bref09_Eliminate) [(spine (subC [1, 1, 1, 1, 1, 1, 0, 0] Bref09_Eliminate) [(.block 11 (.loop (spine (subC [1, 1, 1, 1, 1, 1, 0, 1, 0, 0, 0] Bref09_Eliminate) [(spine (.cond (.tmp 209) .skip (.exit 11)) [(spine (.block 12 (spine (subC [1, 1, 1, 1, 1, 1, 0, 1, 0, 0, 1, 1, 0, 0, 0] Bref09_Eliminate) [(spine (subC [1, 1, 1, 1, 1, 1, 0, 1, 0, 0, 1, 1, 0, 0, 1, 0] Bref09_Eliminate) [(spine (subC [1, 1, 1, 1, 1, 1, 0, 1, 0, 0, 1, 1, 0, 0, 1, 1, 0, 0] Bref09_Eliminate) [(.block 13 (.loop (spine (subC [1, 1, 1, 1, 1, 1, 0, 1, 0, 0, 1, 1, 0, 0, 1, 1, 0, 1, 0, 0, 0] Bref09_Eliminate) [(spine (.cond (.tmp 215) .skip (.exit 13)) [(spine (.block 14 (spine (subC [1, 1, 1, 1, 1, 1, 0, 1, 0, 0, 1, 1, 0, 0, 1, 1, 0, 1, 0, 0, 1, 1, 0, 0, 0] Bref09_Eliminate) [(subC [1, 1, 1, 1, 1, 1, 0, 1, 0, 0, 1, 1, 0, 0, 1, 1, 0, 1, 0, 0, 1, 1, 0, 0, 1] Bref09_Eliminate)])) [(subC [1, 1, 1, 1, 1, 1, 0, 1, 0, 0, 1, 1, 0, 0, 1, 1, 0, 1, 0, 0, 1, 1, 1] Bref09_Eliminate)])])]))), (spine (subC [1, 1, 1, 1, 1, 1, 0, 1, 0, 0, 1, 1, 0, 0, 1, 1, 1, 0, 0] Bref09_Eliminate) [(.cond (.tmp 226) (subC [1, 1, 1, 1, 1, 1, 0, 1, 0, 0, 1, 1, 0, 0, 1, 1, 1, 0, 1, 0] Bref09_Eliminate) .skip), (spine (subC [1, 1, 1, 1, 1, 1, 0, 1, 0, 0, 1, 1, 0, 0, 1, 1, 1, 1, 0] Bref09_Eliminate) [(.cond (.tmp 233) (spine (subC [1, 1, 1, 1, 1, 1, 0, 1, 0, 0, 1, 1, 0, 0, 1, 1, 1, 1, 1, 0, 0] Bref09_Eliminate) [.ret]) .skip)])])])])])) [(subC [1, 1, 1, 1, 1, 1, 0, 1, 0, 0, 1, 1, 1] Bref09_Eliminate)])])]))), (spine (subC [1, 1, 1, 1, 1, 1, 1, 0, 0] Bref09_Eliminate) [(.block 15 (.loop (spine (subC [1, 1, 1, 1, 1, 1, 1, 0, 1, 0, 0, 0] Bref09_Eliminate) [(spine (.cond (.tmp 238) .skip (.exit 15)) [(spine (.block 16 (spine (subC [1, 1, 1, 1, 1, 1, 1, 0, 1, 0, 0, 1, 1, 0, 0, 0] Bref09_Eliminate) [(spine (subC [1, 1, 1, 1, 1, 1, 1, 0, 1, 0, 0, 1, 1, 0, 0, 1, 0] Bref09_Eliminate) [(.block 17 (.loop (spine (subC [1, 1, 1, 1, 1, 1, 1, 0, 1, 0, 0, 1, 1, 0, 0, 1, 1, 0, 0, 0] Bref09_Eliminate) [(spine (.cond (.tmp 245) .skip (.exit 17)) [(spine (.block 18 (spine (subC [1, 1, 1, 1, 1, 1, 1, 0, 1, 0, 0, 1, 1, 0, 0, 1, 1, 0, 0, 1, 1, 0, 0, 0] Bref09_Eliminate) [(spine (subC [1, 1, 1, 1, 1, 1, 1, 0, 1, 0, 0, 1, 1, 0, 0, 1, 1, 0, 0, 1, 1, 0, 0, 1, 0] Bref09_Eliminate) [(.cond (.tmp 253) (spine (subC [1, 1, 1, 1, 1, 1, 1, 0, 1, 0, 0, 1, 1, 0, 0, 1, 1, 0, 0, 1, 1, 0, 0, 1, 1, 0, 0] Bref09_Eliminate) [.ret]) .skip)])])) [(subC [1, 1, 1, 1, 1, 1, 1, 0, 1, 0, 0, 1, 1, 0, 0, 1, 1, 0, 0, 1, 1, 1] Bref09_Eliminate)])])])))])])) [(subC [1, 1, 1, 1, 1, 1, 1, 0, 1, 0, 0, 1, 1, 1] Bref09_Eliminate)])])]))), (spine (subC [1, 1, 1, 1, 1, 1, 1, 1, 0] Bref09_Eliminate) [.ret])])])])])])])])])) (by kernel_rfl) (Nat.le_of_ble_eq_true (by kernel_rfl)) fun cx hd hi hk => ?_
  show AWp prog cx _ _ ⟨257, [(0, .d (.sl t_ref09_Row) a1), (1, vi a2)], []⟩
  replace hk : cx.E.len = 0 := hk
  unfold ref09_Eliminate.wp at h
  refine awp_spine ?_
  refine awp_rc tab [0, 1] [] [] [] [] ⟨257, [(0, .d (.sl t_ref09_Row) a1), (1, vi a2)], []⟩ (by kernel_rfl) (trivial) ?_
  refine then_n (spine_c ?_)
  refine awp_spine ?_
  refine awp_rc tab [0, 1, 6] [] [] [] [] ⟨257, [(0, .d (.sl t_ref09_Row) a1), (1, vi a2), (6, vi (-1))], []⟩ (by kernel_rfl) (trivial) ?_
  refine then_n (spine_c ?_)
  refine awp_spine ?_
  refine awp_rc tab [0, 1, 6, 32, 33, 34] [] [] [] [] ⟨257, [(0, .d (.sl t_ref09_Row) a1), (1, vi a2), (6, vi (-1)), (32, .d (.sl t_ref09_Row) a1), (33, vi (a1.length : Int)), (34, vi (0 : Int))], []⟩ (by kernel_rfl) (trivial) ?_
  refine then_n (spine_c ?_)
  refine awp_len 0 [] (T := t_ref09_Row) (l := a1) (by kernel_rfl) fun hl => ?_
  replace h := h hl
  refine awp_block ?_
  obtain ⟨I7, ⟨n7a, hz7⟩, hI7⟩ := h
  refine awp_loopN (fun n s => ∃ (x3 : Int) (x4 : Int), I7 n x3 x4 ∧ s = ⟨257, [(0, .d (.sl t_ref09_Row) a1), (1, vi a2), (6, vi x3), (32, .d (.sl t_ref09_Row) a1), (33, vi (a1.length : Int)), (34, vi x4)], []⟩) (n := n7a) (s0 := ⟨257, [(0, .d (.sl t_ref09_Row) a1), (1, vi a2), (6, vi (-1)), (32, .d (.sl t_ref09_Row) a1), (33, vi (a1.length : Int)), (34, vi (0 : Int))], []⟩) (wk_ghosts hk (l := [.keep [0, 1, 6, 32, 33, 34], .keep [0, 1, 6, 32, 33, 34], .keep [0, 1, 6, 32, 33, 34], .keep [0, 1, 6, 32, 33, 34]]) (by kernel_rfl)) ⟨(-1), 0, hz7, rfl⟩ ?_
  rintro n7 s ⟨x3, x4, hx7, rfl⟩
  have h := hI7 n7 x3 x4 hx7
  refine awp_spine ?_
  refine awp_rc tab [0, 1, 6, 32, 33, 34, 35] [] [] [] [] ⟨257, [(0, .d (.sl t_ref09_Row) a1), (1, vi a2), (6, vi x3), (32, .d (.sl t_ref09_Row) a1), (33, vi (a1.length : Int)), (34, vi x4), (35, vb (decide (x4 < (a1.length : Int))))], []⟩ (by kernel_rfl) (trivial) ?_
  refine then_n (spine_c ?_)
  refine awp_spine ?_
  refine awp_cond (b := decide (x4 < (a1.length : Int))) (by kernel_rfl) (fun hb => ?_) (fun hb => ?_)
  · replace h := h.1 (of_decide_eq_true hb)
    refine awp_skip (then_n (spine_c ?_))
    refine awp_spine ?_
    refine awp_block ?_
    refine awp_spine ?_
    obtain ⟨o1, h⟩ := h
    refine awp_rc tab [0, 1, 6, 7, 8, 32, 33, 34] [] [] [] [(0 : Int) ≤ x4 ∧ x4 < (a1.length : Int)] ⟨257, [(0, .d (.sl t_ref09_Row) a1), (1, vi a2), (6, vi x3), (7, vi x4), (8, .ref 0 0 0), (32, .d (.sl t_ref09_Row) a1), (33, vi (a1.length : Int)), (34, vi x4)], [.box [.d (.sl (.int .i64)) (((a1.getD (Int.toNat x4) d_ref09_Row).1).1), vi (((a1.getD (Int.toNat x4) d_ref09_Row).1).2), vb ((a1.getD (Int.toNat x4) d_ref09_Row).2.1), .d (.sl (.int .i64)) ((a1.getD (Int.toNat x4) d_ref09_Row).2.2)]]⟩ (by kernel_rfl) (AllP.of (o1) trivial) ?_
    refine then_n (spine_c ?_)
    refine awp_abs (fun (x8 : ref09_Row) => ⟨257, [(0, .d (.sl t_ref09_Row) a1), (1, vi a2), (6, vi x3), (7, vi x4), (8, .ref 0 0 0), (32, .d (.sl t_ref09_Row) a1), (33, vi (a1.length : Int)), (34, vi x4)], [.box [.d (.sl (.int .i64)) x8.1.1, vi x8.1.2, vb x8.2.1, .d (.sl (.int .i64)) x8.2.2]]⟩) (a1.getD (Int.toNat x4) d_ref09_Row) ?_
    intro x8 hx8
    replace h := h x8 hx8
    refine awp_spine ?_
    obtain ⟨o2, h⟩ := h
    refine awp_rc tab [0, 1, 6, 7, 8, 9, 32, 33, 34] [] [] [] [(0 : Int) ≤ a2 ∧ a2 < (x8.1.1.length : Int)] ⟨257, [(0, .d (.sl t_ref09_Row) a1), (1, vi a2), (6, vi x3), (7, vi x4), (8, .ref 0 0 0), (9, vi (gI x8.1.1 a2)), (32, .d (.sl t_ref09_Row) a1), (33, vi (a1.length : Int)), (34, vi x4)], [.box [.d (.sl (.int .i64)) x8.1.1, vi x8.1.2, vb x8.2.1, .d (.sl (.int .i64)) x8.2.2]]⟩ (by kernel_rfl) (AllP.of (o2) trivial) ?_
    refine then_n (spine_c ?_)
    refine awp_spine ?_
    obtain ⟨o3, o4, o5, o6, o7, o8, h⟩ := h
    refine awp_dr tab mixed [0, 1, 6, 7, 32, 33, 34, 81] [] [] [] ⟨[[], [0], [0, 1], [0, 1, 2], [0, 1, 2, 3], [0, 1, 2, 3, 4], [0, 1, 2, 3, 4, 5], [0, 1, 2, 3, 4, 5, 6], [0, 1, 2, 3, 4, 5, 6, 7], [0, 1, 2, 3, 4, 5, 6, 7, 8], [0, 1, 2, 3, 4, 5, 6, 7, 8, 9], [0, 1, 2, 3, 4, 5, 6, 7, 8, 9], [0, 1, 2, 3, 4, 5, 6, 7, 8, 9, 11], [0, 1, 2, 3, 4, 5, 6, 7, 8, 9, 10, 11, 12], [0, 1, 2, 3, 4, 5, 6, 7, 8, 9], [0, 1, 2, 3, 4, 5, 6, 7, 8, 9], [0, 1, 2, 3, 4, 5, 6, 7, 8, 9, 14, 15], [0, 1, 2, 3, 4, 5, 6, 7, 8, 9, 14, 15, 16], [0, 1, 2, 3, 4, 5, 6, 7, 8, 9, 14, 15, 16, 17], [0, 1, 2, 3, 4, 5, 6, 7, 8, 9, 14, 15, 16, 17, 18], [0, 1, 2, 3, 4, 5, 6, 7, 8, 9], [0, 1, 2, 3, 4, 5, 6, 7, 8, 9, 14, 15, 16, 17, 18, 19, 20], [0, 1, 2, 3, 4, 5, 6, 7, 8, 9, 14, 15, 16, 17, 18, 19, 20, 21], [0, 1, 2, 3, 4, 5, 6, 7, 8, 9], [0, 1, 2, 3, 4, 5, 6, 7, 8, 9], [0, 1, 2, 3, 4, 5, 6, 7, 8, 9, 23, 24], [0, 1, 2, 3, 4, 5, 6, 7, 8, 9, 23, 24, 25], [0, 1, 2, 3, 4, 5, 6, 7, 8, 9, 23, 24, 25, 26], [0, 1, 2, 3, 4, 5, 6, 7, 8, 9, 23, 24, 25, 26, 27], [0, 1, 2, 3, 4, 5, 6, 7, 8, 9], [0, 1, 2, 3, 4, 5, 6, 7, 8, 9, 23, 24, 25, 26, 27, 28, 29], [0, 1, 2, 3, 4, 5, 6, 7, 8, 9, 23, 24, 25, 26, 27, 28, 29, 30], [0, 1, 2, 3, 4, 5, 6, 7, 8, 9, 23, 24, 25, 26, 27, 28, 29, 30, 31], [0, 1, 2, 3, 4, 5, 6, 7, 8, 9, 14, 15, 16, 17, 18, 19, 20, 21, 22, 23, 24, 25, 26, 27, 28, 29, 30, 31, 32], [0, 1, 2, 3, 4, 5, 6, 7, 8, 9, 10, 11, 12, 13, 14, 15, 16, 17, 18, 19, 20, 21, 22, 23, 24, 25, 26, 27, 28, 29, 30, 31, 32, 33], [0, 1, 2, 3, 4, 5, 6, 7, 8, 9, 10, 11, 12, 13, 14, 15, 16, 17, 18, 19, 20, 21, 22, 23, 24, 25, 26, 27, 28, 29, 30, 31, 32, 33, 34], [0, 1, 2, 3, 4, 5, 6, 7, 8, 9, 10, 11, 12, 13, 14, 15, 16, 17, 18, 19, 20, 21, 22, 23, 24, 25, 26, 27, 28, 29, 30, 31, 32, 33, 34, 35]], [.ref 0 0 2, vb x8.2.1, vb x8.2.1, .when x8.2.1 (vi (gI x8.1.1 a2)), .when x8.2.1 (vb ((gI x8.1.1 a2) != (0 : Int))), vb (x8.2.1 && ((gI x8.1.1 a2) != (0 : Int))), vb (x8.2.1 && ((gI x8.1.1 a2) != (0 : Int))), .when (x8.2.1 && ((gI x8.1.1 a2) != (0 : Int))) (vi x3), .when (x8.2.1 && ((gI x8.1.1 a2) != (0 : Int))) (vb (decide (x3 < (0 : Int)))), .when (x8.2.1 && ((gI x8.1.1 a2) != (0 : Int))) (vb (decide (x3 < (0 : Int)))), .when ((x8.2.1 && ((gI x8.1.1 a2) != (0 : Int))) && (!(decide (x3 < (0 : Int))))) (vi (gI x8.1.1 a2)), .when ((x8.2.1 && ((gI x8.1.1 a2) != (0 : Int))) && (!(decide (x3 < (0 : Int))))) (vi (gI x8.1.1 a2)), .when ((x8.2.1 && ((gI x8.1.1 a2) != (0 : Int))) && (!(decide (x3 < (0 : Int))))) (vi (-(gI x8.1.1 a2))), .when ((x8.2.1 && ((gI x8.1.1 a2) != (0 : Int))) && (!(decide (x3 < (0 : Int))))) (vi (if (-(gI x8.1.1 a2)) > (gI x8.1.1 a2) then (-(gI x8.1.1 a2)) else (gI x8.1.1 a2))), .when ((x8.2.1 && ((gI x8.1.1 a2) != (0 : Int))) && (!(decide (x3 < (0 : Int))))) (.d (.sl t_ref09_Row) a1), .when ((x8.2.1 && ((gI x8.1.1 a2) != (0 : Int))) && (!(decide (x3 < (0 : Int))))) (vi x3), .when ((x8.2.1 && ((gI x8.1.1 a2) != (0 : Int))) && (!(decide (x3 < (0 : Int))))) (.er [.d (.sl (.int .i64)) (((a1.getD (Int.toNat x3) d_ref09_Row).1).1), vi (((a1.getD (Int.toNat x3) d_ref09_Row).1).2), vb ((a1.getD (Int.toNat x3) d_ref09_Row).2.1), .d (.sl (.int .i64)) ((a1.getD (Int.toNat x3) d_ref09_Row).2.2)]), .when ((x8.2.1 && ((gI x8.1.1 a2) != (0 : Int))) && (!(decide (x3 < (0 : Int))))) (.er [.d (.sl (.int .i64)) (((a1.getD (Int.toNat x3) d_ref09_Row).1).1), vi (((a1.getD (Int.toNat x3) d_ref09_Row).1).2), vb ((a1.getD (Int.toNat x3) d_ref09_Row).2.1), .d (.sl (.int .i64)) ((a1.getD (Int.toNat x3) d_ref09_Row).2.2)]), .when ((x8.2.1 && ((gI x8.1.1 a2) != (0 : Int))) && (!(decide (x3 < (0 : Int))))) (.er [.d (.sl (.int .i64)) (((a1.getD (Int.toNat x3) d_ref09_Row).1).1), vi (((a1.getD (Int.toNat x3) d_ref09_Row).1).2), vb ((a1.getD (Int.toNat x3) d_ref09_Row).2.1), .d (.sl (.int .i64)) ((a1.getD (Int.toNat x3) d_ref09_Row).2.2)]), .when ((x8.2.1 && ((gI x8.1.1 a2) != (0 : Int))) && (!(decide (x3 < (0 : Int))))) (.d (.sl (.int .i64)) (((a1.getD (Int.toNat x3) d_ref09_Row).1).1)), .when ((x8.2.1 && ((gI x8.1.1 a2) != (0 : Int))) && (!(decide (x3 < (0 : Int))))) (vi a2), .when ((x8.2.1 && ((gI x8.1.1 a2) != (0 : Int))) && (!(decide (x3 < (0 : Int))))) (.er [vi (gI (((a1.getD (Int.toNat x3) d_ref09_Row).1).1) a2)]), .when ((x8.2.1 && ((gI x8.1.1 a2) != (0 : Int))) && (!(decide (x3 < (0 : Int))))) (vi (gI (((a1.getD (Int.toNat x3) d_ref09_Row).1).1) a2)), .when ((x8.2.1 && ((gI x8.1.1 a2) != (0 : Int))) && (!(decide (x3 < (0 : Int))))) (.d (.sl t_ref09_Row) a1), .when ((x8.2.1 && ((gI x8.1.1 a2) != (0 : Int))) && (!(decide (x3 < (0 : Int))))) (vi x3), .when ((x8.2.1 && ((gI x8.1.1 a2) != (0 : Int))) && (!(decide (x3 < (0 : Int))))) (.er [.d (.sl (.int .i64)) (((a1.getD (Int.toNat x3) d_ref09_Row).1).1), vi (((a1.getD (Int.toNat x3) d_ref09_Row).1).2), vb ((a1.getD (Int.toNat x3) d_ref09_Row).2.1), .d (.sl (.int .i64)) ((a1.getD (Int.toNat x3) d_ref09_Row).2.2)]), .when ((x8.2.1 && ((gI x8.1.1 a2) != (0 : Int))) && (!(decide (x3 < (0 : Int))))) (.er [.d (.sl (.int .i64)) (((a1.getD (Int.toNat x3) d_ref09_Row).1).1), vi (((a1.getD (Int.toNat x3) d_ref09_Row).1).2), vb ((a1.getD (Int.toNat x3) d_ref09_Row).2.1), .d (.sl (.int .i64)) ((a1.getD (Int.toNat x3) d_ref09_Row).2.2)]), .when ((x8.2.1 && ((gI x8.1.1 a2) != (0 : Int))) && (!(decide (x3 < (0 : Int))))) (.er [.d (.sl (.int .i64)) (((a1.getD (Int.toNat x3) d_ref09_Row).1).1), vi (((a1.getD (Int.toNat x3) d_ref09_Row).1).2), vb ((a1.getD (Int.toNat x3) d_ref09_Row).2.1), .d (.sl (.int .i64)) ((a1.getD (Int.toNat x3) d_ref09_Row).2.2)]), .when ((x8.2.1 && ((gI x8.1.1 a2) != (0 : Int))) && (!(decide (x3 < (0 : Int))))) (.d (.sl (.int .i64)) (((a1.getD (Int.toNat x3) d_ref09_Row).1).1)), .when ((x8.2.1 && ((gI x8.1.1 a2) != (0 : Int))) && (!(decide (x3 < (0 : Int))))) (vi a2), .when ((x8.2.1 && ((gI x8.1.1 a2) != (0 : Int))) && (!(decide (x3 < (0 : Int))))) (.er [vi (gI (((a1.getD (Int.toNat x3) d_ref09_Row).1).1) a2)]), .when ((x8.2.1 && ((gI x8.1.1 a2) != (0 : Int))) && (!(decide (x3 < (0 : Int))))) (vi (gI (((a1.getD (Int.toNat x3) d_ref09_Row).1).1) a2)), .when ((x8.2.1 && ((gI x8.1.1 a2) != (0 : Int))) && (!(decide (x3 < (0 : Int))))) (vi (-(gI (((a1.getD (Int.toNat x3) d_ref09_Row).1).1) a2))), .when ((x8.2.1 && ((gI x8.1.1 a2) != (0 : Int))) && (!(decide (x3 < (0 : Int))))) (vi (if (-(gI (((a1.getD (Int.toNat x3) d_ref09_Row).1).1) a2)) > (gI (((a1.getD (Int.toNat x3) d_ref09_Row).1).1) a2) then (-(gI (((a1.getD (Int.toNat x3) d_ref09_Row).1).1) a2)) else (gI (((a1.getD (Int.toNat x3) d_ref09_Row).1).1) a2))), .when ((x8.2.1 && ((gI x8.1.1 a2) != (0 : Int))) && (!(decide (x3 < (0 : Int))))) (vb (decide ((if (-(gI x8.1.1 a2)) > (gI x8.1.1 a2) then (-(gI x8.1.1 a2)) else (gI x8.1.1 a2)) < (if (-(gI (((a1.getD (Int.toNat x3) d_ref09_Row).1).1) a2)) > (gI (((a1.getD (Int.toNat x3) d_ref09_Row).1).1) a2) then (-(gI (((a1.getD (Int.toNat x3) d_ref09_Row).1).1) a2)) else (gI (((a1.getD (Int.toNat x3) d_ref09_Row).1).1) a2))))), .when (x8.2.1 && ((gI x8.1.1 a2) != (0 : Int))) (vb ((decide (x3 < (0 : Int))) || (decide ((if (-(gI x8.1.1 a2)) > (gI x8.1.1 a2) then (-(gI x8.1.1 a2)) else (gI x8.1.1 a2)) < (if (-(gI (((a1.getD (Int.toNat x3) d_ref09_Row).1).1) a2)) > (gI (((a1.getD (Int.toNat x3) d_ref09_Row).1).1) a2) then (-(gI (((a1.getD (Int.toNat x3) d_ref09_Row).1).1) a2)) else (gI (((a1.getD (Int.toNat x3) d_ref09_Row).1).1) a2)))))), vb ((x8.2.1 && ((gI x8.1.1 a2) != (0 : Int))) && ((decide (x3 < (0 : Int))) || (decide ((if (-(gI x8.1.1 a2)) > (gI x8.1.1 a2) then (-(gI x8.1.1 a2)) else (gI x8.1.1 a2)) < (if (-(gI (((a1.getD (Int.toNat x3) d_ref09_Row).1).1) a2)) > (gI (((a1.getD (Int.toNat x3) d_ref09_Row).1).1) a2) then (-(gI (((a1.getD (Int.toNat x3) d_ref09_Row).1).1) a2)) else (gI (((a1.getD (Int.toNat x3) d_ref09_Row).1).1) a2))))))], [none, none, none, none, some (x8.2.1 = true → x8.2.1 = true ∧ True), some (x8.2.1 = true → x8.2.1 = true), none, none, some ((x8.2.1 && ((gI x8.1.1 a2) != (0 : Int))) = true → (x8.2.1 && ((gI x8.1.1 a2) != (0 : Int))) = true ∧ True), some ((x8.2.1 && ((gI x8.1.1 a2) != (0 : Int))) = true → (x8.2.1 && ((gI x8.1.1 a2) != (0 : Int))) = true ∧ True), none, none, some (((x8.2.1 && ((gI x8.1.1 a2) != (0 : Int))) && (!(decide (x3 < (0 : Int))))) = true → ((x8.2.1 && ((gI x8.1.1 a2) != (0 : Int))) && (!(decide (x3 < (0 : Int))))) = true ∧ (-9223372036854775808 ≤ -(gI x8.1.1 a2) ∧ -(gI x8.1.1 a2) ≤ 9223372036854775807)), some (((x8.2.1 && ((gI x8.1.1 a2) != (0 : Int))) && (!(decide (x3 < (0 : Int))))) = true → ((x8.2.1 && ((gI x8.1.1 a2) != (0 : Int))) && (!(decide (x3 < (0 : Int))))) = true ∧ (((x8.2.1 && ((gI x8.1.1 a2) != (0 : Int))) && (!(decide (x3 < (0 : Int))))) = true ∧ True)), none, none, some (((x8.2.1 && ((gI x8.1.1 a2) != (0 : Int))) && (!(decide (x3 < (0 : Int))))) = true → ((x8.2.1 && ((gI x8.1.1 a2) != (0 : Int))) && (!(decide (x3 < (0 : Int))))) = true ∧ (((x8.2.1 && ((gI x8.1.1 a2) != (0 : Int))) && (!(decide (x3 < (0 : Int))))) = true ∧ ((0 : Int) ≤ x3 ∧ x3 < (a1.length : Int)))), some (((x8.2.1 && ((gI x8.1.1 a2) != (0 : Int))) && (!(decide (x3 < (0 : Int))))) = true → ((x8.2.1 && ((gI x8.1.1 a2) != (0 : Int))) && (!(decide (x3 < (0 : Int))))) = true ∧ True), some (((x8.2.1 && ((gI x8.1.1 a2) != (0 : Int))) && (!(decide (x3 < (0 : Int))))) = true → ((x8.2.1 && ((gI x8.1.1 a2) != (0 : Int))) && (!(decide (x3 < (0 : Int))))) = true ∧ True), some (((x8.2.1 && ((gI x8.1.1 a2) != (0 : Int))) && (!(decide (x3 < (0 : Int))))) = true → ((x8.2.1 && ((gI x8.1.1 a2) != (0 : Int))) && (!(decide (x3 < (0 : Int))))) = true ∧ True), none, some (((x8.2.1 && ((gI x8.1.1 a2) != (0 : Int))) && (!(decide (x3 < (0 : Int))))) = true → ((x8.2.1 && ((gI x8.1.1 a2) != (0 : Int))) && (!(decide (x3 < (0 : Int))))) = true ∧ (((x8.2.1 && ((gI x8.1.1 a2) != (0 : Int))) && (!(decide (x3 < (0 : Int))))) = true ∧ ((0 : Int) ≤ a2 ∧ a2 < ((((a1.getD (Int.toNat x3) d_ref09_Row).1).1).length : Int)))), some (((x8.2.1 && ((gI x8.1.1 a2) != (0 : Int))) && (!(decide (x3 < (0 : Int))))) = true → ((x8.2.1 && ((gI x8.1.1 a2) != (0 : Int))) && (!(decide (x3 < (0 : Int))))) = true ∧ True), none, none, some (((x8.2.1 && ((gI x8.1.1 a2) != (0 : Int))) && (!(decide (x3 < (0 : Int))))) = true → ((x8.2.1 && ((gI x8.1.1 a2) != (0 : Int))) && (!(decide (x3 < (0 : Int))))) = true ∧ (((x8.2.1 && ((gI x8.1.1 a2) != (0 : Int))) && (!(decide (x3 < (0 : Int))))) = true ∧ ((0 : Int) ≤ x3 ∧ x3 < (a1.length : Int)))), some (((x8.2.1 && ((gI x8.1.1 a2) != (0 : Int))) && (!(decide (x3 < (0 : Int))))) = true → ((x8.2.1 && ((gI x8.1.1 a2) != (0 : Int))) && (!(decide (x3 < (0 : Int))))) = true ∧ True), some (((x8.2.1 && ((gI x8.1.1 a2) != (0 : Int))) && (!(decide (x3 < (0 : Int))))) = true → ((x8.2.1 && ((gI x8.1.1 a2) != (0 : Int))) && (!(decide (x3 < (0 : Int))))) = true ∧ True), some (((x8.2.1 && ((gI x8.1.1 a2) != (0 : Int))) && (!(decide (x3 < (0 : Int))))) = true → ((x8.2.1 && ((gI x8.1.1 a2) != (0 : Int))) && (!(decide (x3 < (0 : Int))))) = true ∧ True), none, some (((x8.2.1 && ((gI x8.1.1 a2) != (0 : Int))) && (!(decide (x3 < (0 : Int))))) = true → ((x8.2.1 && ((gI x8.1.1 a2) != (0 : Int))) && (!(decide (x3 < (0 : Int))))) = true ∧ (((x8.2.1 && ((gI x8.1.1 a2) != (0 : Int))) && (!(decide (x3 < (0 : Int))))) = true ∧ ((0 : Int) ≤ a2 ∧ a2 < ((((a1.getD (Int.toNat x3) d_ref09_Row).1).1).length : Int)))), some (((x8.2.1 && ((gI x8.1.1 a2) != (0 : Int))) && (!(decide (x3 < (0 : Int))))) = true → ((x8.2.1 && ((gI x8.1.1 a2) != (0 : Int))) && (!(decide (x3 < (0 : Int))))) = true ∧ True), some (((x8.2.1 && ((gI x8.1.1 a2) != (0 : Int))) && (!(decide (x3 < (0 : Int))))) = true → ((x8.2.1 && ((gI x8.1.1 a2) != (0 : Int))) && (!(decide (x3 < (0 : Int))))) = true ∧ (-9223372036854775808 ≤ -(gI (((a1.getD (Int.toNat x3) d_ref09_Row).1).1) a2) ∧ -(gI (((a1.getD (Int.toNat x3) d_ref09_Row).1).1) a2) ≤ 9223372036854775807)), some (((x8.2.1 && ((gI x8.1.1 a2) != (0 : Int))) && (!(decide (x3 < (0 : Int))))) = true → ((x8.2.1 && ((gI x8.1.1 a2) != (0 : Int))) && (!(decide (x3 < (0 : Int))))) = true ∧ (((x8.2.1 && ((gI x8.1.1 a2) != (0 : Int))) && (!(decide (x3 < (0 : Int))))) = true ∧ True)), some (((x8.2.1 && ((gI x8.1.1 a2) != (0 : Int))) && (!(decide (x3 < (0 : Int))))) = true → ((x8.2.1 && ((gI x8.1.1 a2) != (0 : Int))) && (!(decide (x3 < (0 : Int))))) = true ∧ (((x8.2.1 && ((gI x8.1.1 a2) != (0 : Int))) && (!(decide (x3 < (0 : Int))))) = true ∧ True)), some ((x8.2.1 && ((gI x8.1.1 a2) != (0 : Int))) = true → (x8.2.1 && ((gI x8.1.1 a2) != (0 : Int))) = true ∧ ((decide (x3 < (0 : Int))) = false → ((x8.2.1 && ((gI x8.1.1 a2) != (0 : Int))) && (!(decide (x3 < (0 : Int))))) = true)), some ((x8.2.1 && ((gI x8.1.1 a2) != (0 : Int))) = true → (x8.2.1 && ((gI x8.1.1 a2) != (0 : Int))) = true)], [], [([], [.box [.d (.sl (.int .i64)) x8.1.1, vi x8.1.2, vb x8.2.1, .d (.sl (.int .i64)) x8.2.2]])]⟩ ⟨257, [(0, .d (.sl t_ref09_Row) a1), (1, vi a2), (6, vi x3), (7, vi x4), (32, .d (.sl t_ref09_Row) a1), (33, vi (a1.length : Int)), (34, vi x4), (81, vb ((x8.2.1 && ((gI x8.1.1 a2) != (0 : Int))) && ((decide (x3 < (0 : Int))) || (decide ((if (-(gI x8.1.1 a2)) > (gI x8.1.1 a2) then (-(gI x8.1.1 a2)) else (gI x8.1.1 a2)) < (if (-(gI (((a1.getD (Int.toNat x3) d_ref09_Row).1).1) a2)) > (gI (((a1.getD (Int.toNat x3) d_ref09_Row).1).1) a2) then (-(gI (((a1.getD (Int.toNat x3) d_ref09_Row).1).1) a2)) else (gI (((a1.getD (Int.toNat x3) d_ref09_Row).1).1) a2)))))))], [.box [.d (.sl (.int .i64)) x8.1.1, vi x8.1.2, vb x8.2.1, .d (.sl (.int .i64)) x8.2.2]]⟩ (by kernel_rfl) (AllO.n (AllO.n (AllO.n (AllO.n (AllO.s (fun hg => ⟨hg, trivial⟩) (AllO.s (fun hc => hc) (AllO.n (AllO.n (AllO.s (fun hg => ⟨hg, trivial⟩) (AllO.s (fun hg => ⟨hg, trivial⟩) (AllO.n (AllO.n (AllO.s (fun hg => ⟨hg, (o3 hg)⟩) (AllO.s (fun hg => ⟨hg, hg, trivial⟩) (AllO.n (AllO.n (AllO.s (fun hg => ⟨hg, hg, (o4 hg)⟩) (AllO.s (fun hg => ⟨hg, trivial⟩) (AllO.s (fun hg => ⟨hg, trivial⟩) (AllO.s (fun hg => ⟨hg, trivial⟩) (AllO.n (AllO.s (fun hg => ⟨hg, hg, (o5 hg)⟩) (AllO.s (fun hg => ⟨hg, trivial⟩) (AllO.n (AllO.n (AllO.s (fun hg => ⟨hg, hg, (o6 hg)⟩) (AllO.s (fun hg => ⟨hg, trivial⟩) (AllO.s (fun hg => ⟨hg, trivial⟩) (AllO.s (fun hg => ⟨hg, trivial⟩) (AllO.n (AllO.s (fun hg => ⟨hg, hg, (o7 hg)⟩) (AllO.s (fun hg => ⟨hg, trivial⟩) (AllO.s (fun hg => ⟨hg, (o8 hg)⟩) (AllO.s (fun hg => ⟨hg, hg, trivial⟩) (AllO.s (fun hg => ⟨hg, hg, trivial⟩) (AllO.s (fun hg => ⟨hg, fun hc => and_f hg hc⟩) (AllO.s (fun hc => hc) (AllO.e)))))))))))))))))))))))))))))))))))))) ?_
    refine then_n (spine_c ?_)
    refine awp_cond (b := (x8.2.1 && ((gI x8.1.1 a2) != (0 : Int))) && ((decide (x3 < (0 : Int))) || (decide ((if (-(gI x8.1.1 a2)) > (gI x8.1.1 a2) then (-(gI x8.1.1 a2)) else (gI x8.1.1 a2)) < (if (-(gI (((a1.getD (Int.toNat x3) d_ref09_Row).1).1) a2)) > (gI (((a1.getD (Int.toNat x3) d_ref09_Row).1).1) a2) then (-(gI (((a1.getD (Int.toNat x3) d_ref09_Row).1).1) a2)) else (gI (((a1.getD (Int.toNat x3) d_ref09_Row).1).1) a2)))))) (by kernel_rfl) (fun hb => ?_) (fun hb => ?_)
    · replace h := h.1 (hb)
      refine awp_rc tab [0, 1, 6, 32, 33, 34] [] [] [] [] ⟨257, [(0, .d (.sl t_ref09_Row) a1), (1, vi a2), (6, vi x4), (32, .d (.sl t_ref09_Row) a1), (33, vi (a1.length : Int)), (34, vi x4)], [.box [.d (.sl (.int .i64)) x8.1.1, vi x8.1.2, vb x8.2.1, .d (.sl (.int .i64)) x8.2.2]]⟩ (by kernel_rfl) (trivial) ?_
      refine then_n (spine_e (then_n (spine_e (then_n (spine_e (blk_n (then_n (spine_c ?_))))))))
      obtain ⟨o9, h⟩ := h
      refine awp_rc tab [0, 1, 6, 32, 33, 34] [] [] [] [-9223372036854775808 ≤ x4 + (1 : Int) ∧ x4 + (1 : Int) ≤ 9223372036854775807] ⟨257, [(0, .d (.sl t_ref09_Row) a1), (1, vi a2), (6, vi x4), (32, .d (.sl t_ref09_Row) a1), (33, vi (a1.length : Int)), (34, vi (x4 + (1 : Int)))], [.box [.d (.sl (.int .i64)) x8.1.1, vi x8.1.2, vb x8.2.1, .d (.sl (.int .i64)) x8.2.2]]⟩ (by kernel_rfl) (AllP.of (o9) trivial) ?_
      refine then_n (spine_e (then_n (spine_e (then_n (spine_e (then_n (?_)))))))
      obtain ⟨m, hm, h⟩ := h
      exact ⟨m, hm, ⟨257, [(0, .d (.sl t_ref09_Row) a1), (1, vi a2), (6, vi x4), (32, .d (.sl t_ref09_Row) a1), (33, vi (a1.length : Int)), (34, vi (x4 + (1 : Int)))], []⟩, wk_ghosts hk (l := [.keep [0, 1, 6, 32, 33, 34], .keep [0, 1, 6, 32, 33, 34], .cut 0, .keep [0, 1, 6, 32, 33, 34]]) (by kernel_rfl), x4, x4 + (1 : Int), h, rfl⟩
    · replace h := h.2 (hb)
      refine awp_skip (then_n (spine_e (then_n (spine_e (then_n (spine_e (blk_n (then_n (spine_c ?_)))))))))
      obtain ⟨o10, h⟩ := h
      refine awp_rc tab [0, 1, 6, 32, 33, 34] [] [] [] [-9223372036854775808 ≤ x4 + (1 : Int) ∧ x4 + (1 : Int) ≤ 9223372036854775807] ⟨257, [(0, .d (.sl t_ref09_Row) a1), (1, vi a2), (6, vi x3), (32, .d (.sl t_ref09_Row) a1), (33, vi (a1.length : Int)), (34, vi (x4 + (1 : Int)))], [.box [.d (.sl (.int .i64)) x8.1.1, vi x8.1.2, vb x8.2.1, .d (.sl (.int .i64)) x8.2.2]]⟩ (by kernel_rfl) (AllP.of (o10) trivial) ?_
      refine then_n (spine_e (then_n (spine_e (then_n (spine_e (then_n (?_)))))))
      obtain ⟨m, hm, h⟩ := h
      exact ⟨m, hm, ⟨257, [(0, .d (.sl t_ref09_Row) a1), (1, vi a2), (6, vi x3), (32, .d (.sl t_ref09_Row) a1), (33, vi (a1.length : Int)), (34, vi (x4 + (1 : Int)))], []⟩, wk_ghosts hk (l := [.keep [0, 1, 6, 32, 33, 34], .keep [0, 1, 6, 32, 33, 34], .cut 0, .keep [0, 1, 6, 32, 33, 34]]) (by kernel_rfl), x3, x4 + (1 : Int), h, rfl⟩
  · replace h := h.2 (of_decide_eq_false hb)
    refine awp_exit (then_x (then_x (then_x (blk_h (then_n (spine_c ?_))))))
    refine awp_spine ?_
    refine awp_rc tab [0, 1, 6, 10] [] [] [] [] ⟨257, [(0, .d (.sl t_ref09_Row) a1), (1, vi a2), (6, vi x3), (10, .nils)], []⟩ (by kernel_rfl) (trivial) ?_
    refine then_n (spine_c ?_)
    refine awp_spine ?_
    refine awp_rc tab [0, 1, 6, 10, 85] [] [] [] [] ⟨257, [(0, .d (.sl t_ref09_Row) a1), (1, vi a2), (6, vi x3), (10, .nils), (85, vb (decide (x3 ≥ (0 : Int))))], []⟩ (by kernel_rfl) (trivial) ?_
    refine then_n (spine_c ?_)
    obtain ⟨R10, hA10, hB10⟩ := h
    refine awp_meet (fun s' => ∃ (x9 : (List ref09_Row)), R10 x9 ∧ Wk cx s' ⟨257, [(10, .d (.sl t_ref09_Row) x9)], []⟩) ?_ ?_
    · have h := hA10
      refine awp_cond (b := decide (x3 ≥ (0 : Int))) (by kernel_rfl) (fun hb => ?_) (fun hb => ?_)
      · replace h := h.1 (of_decide_eq_true hb)
        refine awp_spine ?_
        obtain ⟨o11, h⟩ := h
        refine awp_rc tab [0, 1, 6, 10, 11] [] [] [] [(0 : Int) ≤ x3 ∧ x3 < (a1.length : Int)] ⟨257, [(0, .d (.sl t_ref09_Row) a1), (1, vi a2), (6, vi x3), (10, .nils), (11, .ref 0 0 0)], [.box [.d (.sl (.int .i64)) (((a1.getD (Int.toNat x3) d_ref09_Row).1).1), vi (((a1.getD (Int.toNat x3) d_ref09_Row).1).2), vb ((a1.getD (Int.toNat x3) d_ref09_Row).2.1), .d (.sl (.int .i64)) ((a1.getD (Int.toNat x3) d_ref09_Row).2.2)]]⟩ (by kernel_rfl) (AllP.of (o11) trivial) ?_
        refine then_n (spine_c ?_)
        refine awp_abs (fun (x11 : ref09_Row) => ⟨257, [(0, .d (.sl t_ref09_Row) a1), (1, vi a2), (6, vi x3), (10, .nils), (11, .ref 0 0 0)], [.box [.d (.sl (.int .i64)) x11.1.1, vi x11.1.2, vb x11.2.1, .d (.sl (.int .i64)) x11.2.2]]⟩) (a1.getD (Int.toNat x3) d_ref09_Row) ?_
        intro x11 hx11
        replace h := h x11 hx11
        refine awp_spine ?_
        obtain ⟨o12, h⟩ := h
        refine awp_rc tab [0, 1, 6, 10, 11, 12] [] [] [] [(0 : Int) ≤ a2 ∧ a2 < (x11.1.1.length : Int)] ⟨257, [(0, .d (.sl t_ref09_Row) a1), (1, vi a2), (6, vi x3), (10, .nils), (11, .ref 0 0 0), (12, vi (gI x11.1.1 a2))], [.box [.d (.sl (.int .i64)) x11.1.1, vi x11.1.2, vb x11.2.1, .d (.sl (.int .i64)) x11.2.2]]⟩ (by kernel_rfl) (AllP.of (o12) trivial) ?_
        refine then_n (spine_c ?_)
        refine awp_spine ?_
        refine awp_rc tab [0, 1, 6, 10, 11, 12, 13] [] [] [] [] ⟨257, [(0, .d (.sl t_ref09_Row) a1), (1, vi a2), (6, vi x3), (10, .nils), (11, .ref 0 0 0), (12, vi (gI x11.1.1 a2)), (13, vi (1 : Int))], [.box [.d (.sl (.int .i64)) x11.1.1, vi x11.1.2, vb x11.2.1, .d (.sl (.int .i64)) x11.2.2]]⟩ (by kernel_rfl) (trivial) ?_
        refine then_n (spine_c ?_)
        refine awp_spine ?_
        refine awp_rc tab [0, 1, 6, 10, 11, 12, 13, 97] [] [] [] [] ⟨257, [(0, .d (.sl t_ref09_Row) a1), (1, vi a2), (6, vi x3), (10, .nils), (11, .ref 0 0 0), (12, vi (gI x11.1.1 a2)), (13, vi (1 : Int)), (97, vb (decide ((gI x11.1.1 a2) < (0 : Int))))], [.box [.d (.sl (.int .i64)) x11.1.1, vi x11.1.2, vb x11.2.1, .d (.sl (.int .i64)) x11.2.2]]⟩ (by kernel_rfl) (trivial) ?_
        refine then_n (spine_c ?_)
        obtain ⟨R13, hA13, hB13⟩ := h
        refine awp_meet (fun s' => ∃ (x12 : Int), R13 x12 ∧ Wk cx s' ⟨257, [(0, .d (.sl t_ref09_Row) a1), (1, vi a2), (6, vi x3), (10, .nils), (11, .ref 0 0 0), (12, vi (gI x11.1.1 a2)), (13, vi x12)], [.box [.d (.sl (.int .i64)) x11.1.1, vi x11.1.2, vb x11.2.1, .d (.sl (.int .i64)) x11.2.2]]⟩) ?_ ?_
        · have h := hA13
          refine awp_cond (b := decide ((gI x11.1.1 a2) < (0 : Int))) (by kernel_rfl) (fun hb => ?_) (fun hb => ?_)
          · replace h := h.1 (of_decide_eq_true hb)
            refine awp_rc tab [0, 1, 6, 10, 11, 12, 13] [] [] [] [] ⟨257, [(0, .d (.sl t_ref09_Row) a1), (1, vi a2), (6, vi x3), (10, .nils), (11, .ref 0 0 0), (12, vi (gI x11.1.1 a2)), (13, vi (-1))], [.box [.d (.sl (.int .i64)) x11.1.1, vi x11.1.2, vb x11.2.1, .d (.sl (.int .i64)) x11.2.2]]⟩ (by kernel_rfl) (trivial) ?_
            refine then_n (?_)
            exact ⟨(-1), h, wk_ghosts hk (l := [.keep [0, 1, 6, 10, 11, 12, 13], .keep [0, 1, 6, 10, 11, 12, 13], .keep [0, 1, 6, 10, 11, 12, 13]]) (by kernel_rfl)⟩
          · replace h := h.2 (of_decide_eq_false hb)
            refine awp_skip (then_n (?_))
            exact ⟨1, h, wk_ghosts hk (l := [.keep [0, 1, 6, 10, 11, 12, 13], .keep [0, 1, 6, 10, 11, 12, 13], .keep [0, 1, 6, 10, 11, 12, 13]]) (by kernel_rfl)⟩
        · rintro s' ⟨x12, hx13, hw13⟩
          have h := hB13 x12 hx13
          refine spine_c (awp_wk hw13 ?_)
          refine awp_spine ?_
          refine awp_rc tab [1, 6, 10, 11, 12, 13, 98, 99, 100] [] [] [] [] ⟨257, [(1, vi a2), (6, vi x3), (10, .nils), (11, .ref 0 0 0), (12, vi (gI x11.1.1 a2)), (13, vi x12), (98, .d (.sl t_ref09_Row) a1), (99, vi (a1.length : Int)), (100, vi (0 : Int))], [.box [.d (.sl (.int .i64)) x11.1.1, vi x11.1.2, vb x11.2.1, .d (.sl (.int .i64)) x11.2.2]]⟩ (by kernel_rfl) (trivial) ?_
          refine then_n (spine_c ?_)
          refine awp_len 98 [] (T := t_ref09_Row) (l := a1) (by kernel_rfl) fun hl => ?_
          replace h := h hl
          refine awp_block ?_
          obtain ⟨I20, ⟨n20a, hz20⟩, hI20⟩ := h
          refine awp_loopN (fun n s => ∃ (x16 : Int) (x17 : (List ref09_Row)), I20 n x16 x17 ∧ s = ⟨257, [(1, vi a2), (6, vi x3), (10, .osl 1 0), (11, .ref 0 0 0), (12, vi (gI x11.1.1 a2)), (13, vi x12), (98, .d (.sl t_ref09_Row) a1), (99, vi (a1.length : Int)), (100, vi x16)], [.box [.d (.sl (.int .i64)) x11.1.1, vi x11.1.2, vb x11.2.1, .d (.sl (.int .i64)) x11.2.2], .row t_ref09_Row x17 0]⟩) (n := n20a) (s0 := ⟨257, [(1, vi a2), (6, vi x3), (10, .osl 1 0), (11, .ref 0 0 0), (12, vi (gI x11.1.1 a2)), (13, vi x12), (98, .d (.sl t_ref09_Row) a1), (99, vi (a1.length : Int)), (100, vi (0 : Int))], [.box [.d (.sl (.int .i64)) x11.1.1, vi x11.1.2, vb x11.2.1, .d (.sl (.int .i64)) x11.2.2], .row t_ref09_Row ([] : List ref09_Row) 0]⟩) (wk_ghosts hk (l := [.keep [1, 6, 10, 11, 12, 13, 98, 99, 100], .adopt 10 t_ref09_Row, .keep [1, 6, 10, 11, 12, 13, 98, 99, 100], .keep [1, 6, 10, 11, 12, 13, 98, 99, 100], .keep [1, 6, 10, 11, 12, 13, 98, 99, 100]]) (by kernel_rfl)) ⟨0, ([] : List ref09_Row), hz20, rfl⟩ ?_
          rintro n20 s ⟨x16, x17, hx20, rfl⟩
          have h := hI20 n20 x16 x17 hx20
          refine awp_spine ?_
          refine awp_rc tab [1, 6, 10, 11, 12, 13, 98, 99, 100, 101] [] [] [] [] ⟨257, [(1, vi a2), (6, vi x3), (10, .osl 1 0), (11, .ref 0 0 0), (12, vi (gI x11.1.1 a2)), (13, vi x12), (98, .d (.sl t_ref09_Row) a1), (99, vi (a1.length : Int)), (100, vi x16), (101, vb (decide (x16 < (a1.length : Int))))], [.box [.d (.sl (.int .i64)) x11.1.1, vi x11.1.2, vb x11.2.1, .d (.sl (.int .i64)) x11.2.2], .row t_ref09_Row x17 0]⟩ (by kernel_rfl) (trivial) ?_
          refine then_n (spine_c ?_)
          refine awp_spine ?_
          refine awp_cond (b := decide (x16 < (a1.length : Int))) (by kernel_rfl) (fun hb => ?_) (fun hb => ?_)
          · replace h := h.1 (of_decide_eq_true hb)
            refine awp_skip (then_n (spine_c ?_))
            refine awp_spine ?_
            refine awp_block ?_
            refine awp_spine ?_
            obtain ⟨o13, h⟩ := h
            refine awp_rc tab [1, 6, 10, 11, 12, 13, 14, 15, 98, 99, 100] [] [] [] [(0 : Int) ≤ x16 ∧ x16 < (a1.length : Int)] ⟨257, [(1, vi a2), (6, vi x3), (10, .osl 1 0), (11, .ref 0 0 0), (12, vi (gI x11.1.1 a2)), (13, vi x12), (14, vi x16), (15, .ref 2 0 0), (98, .d (.sl t_ref09_Row) a1), (99, vi (a1.length : Int)), (100, vi x16)], [.box [.d (.sl (.int .i64)) x11.1.1, vi x11.1.2, vb x11.2.1, .d (.sl (.int .i64)) x11.2.2], .row t_ref09_Row x17 0, .box [.d (.sl (.int .i64)) (((a1.getD (Int.toNat x16) d_ref09_Row).1).1), vi (((a1.getD (Int.toNat x16) d_ref09_Row).1).2), vb ((a1.getD (Int.toNat x16) d_ref09_Row).2.1), .d (.sl (.int .i64)) ((a1.getD (Int.toNat x16) d_ref09_Row).2.2)]]⟩ (by kernel_rfl) (AllP.of (o13) trivial) ?_
            refine then_n (spine_c ?_)
            refine awp_abs (fun (x21 : ref09_Row) => ⟨257, [(1, vi a2), (6, vi x3), (10, .osl 1 0), (11, .ref 0 0 0), (12, vi (gI x11.1.1 a2)), (13, vi x12), (14, vi x16), (15, .ref 2 0 0), (98, .d (.sl t_ref09_Row) a1), (99, vi (a1.length : Int)), (100, vi x16)], [.box [.d (.sl (.int .i64)) x11.1.1, vi x11.1.2, vb x11.2.1, .d (.sl (.int .i64)) x11.2.2], .row t_ref09_Row x17 0, .box [.d (.sl (.int .i64)) x21.1.1, vi x21.1.2, vb x21.2.1, .d (.sl (.int .i64)) x21.2.2]]⟩) (a1.getD (Int.toNat x16) d_ref09_Row) ?_
            intro x21 hx21
            replace h := h x21 hx21
            refine awp_block ?_
            refine awp_spine ?_
            refine awp_rc tab [1, 6, 10, 11, 12, 13, 15, 98, 99, 100, 124] [] [] [] [] ⟨257, [(1, vi a2), (6, vi x3), (10, .osl 1 0), (11, .ref 0 0 0), (12, vi (gI x11.1.1 a2)), (13, vi x12), (15, .ref 2 0 0), (98, .d (.sl t_ref09_Row) a1), (99, vi (a1.length : Int)), (100, vi x16), (124, vb (x16 == x3))], [.box [.d (.sl (.int .i64)) x11.1.1, vi x11.1.2, vb x11.2.1, .d (.sl (.int .i64)) x11.2.2], .row t_ref09_Row x17 0, .box [.d (.sl (.int .i64)) x21.1.1, vi x21.1.2, vb x21.2.1, .d (.sl (.int .i64)) x21.2.2]]⟩ (by kernel_rfl) (trivial) ?_
            refine then_n (spine_c ?_)
            refine awp_cond (b := x16 == x3) (by kernel_rfl) (fun hb => ?_) (fun hb => ?_)
            · replace h := h.1 (eq_of_beq hb)
              refine awp_skip (then_n (spine_e (blk_n (then_n (spine_e (blk_n (then_n (spine_c ?_))))))))
              obtain ⟨o14, h⟩ := h
              refine awp_rc tab [1, 6, 10, 11, 12, 13, 98, 99, 100] [] [] [] [-9223372036854775808 ≤ x16 + (1 : Int) ∧ x16 + (1 : Int) ≤ 9223372036854775807] ⟨257, [(1, vi a2), (6, vi x3), (10, .osl 1 0), (11, .ref 0 0 0), (12, vi (gI x11.1.1 a2)), (13, vi x12), (98, .d (.sl t_ref09_Row) a1), (99, vi (a1.length : Int)), (100, vi (x16 + (1 : Int)))], [.box [.d (.sl (.int .i64)) x11.1.1, vi x11.1.2, vb x11.2.1, .d (.sl (.int .i64)) x11.2.2], .row t_ref09_Row x17 0, .box [.d (.sl (.int .i64)) x21.1.1, vi x21.1.2, vb x21.2.1, .d (.sl (.int .i64)) x21.2.2]]⟩ (by kernel_rfl) (AllP.of (o14) trivial) ?_
              refine then_n (spine_e (then_n (spine_e (then_n (spine_e (then_n (?_)))))))
              obtain ⟨m, hm, h⟩ := h
              exact ⟨m, hm, ⟨257, [(1, vi a2), (6, vi x3), (10, .osl 1 0), (11, .ref 0 0 0), (12, vi (gI x11.1.1 a2)), (13, vi x12), (98, .d (.sl t_ref09_Row) a1), (99, vi (a1.length : Int)), (100, vi (x16 + (1 : Int)))], [.box [.d (.sl (.int .i64)) x11.1.1, vi x11.1.2, vb x11.2.1, .d (.sl (.int .i64)) x11.2.2], .row t_ref09_Row x17 0]⟩, wk_ghosts hk (l := [.keep [1, 6, 10, 11, 12, 13, 98, 99, 100], .keep [1, 6, 10, 11, 12, 13, 98, 99, 100], .cut 2, .keep [1, 6, 10, 11, 12, 13, 98, 99, 100]]) (by kernel_rfl), x16 + (1 : Int), x17, h, rfl⟩
            · replace h := h.2 (ne_of_beq_false hb)
              refine awp_spine ?_
              obtain ⟨o15, h⟩ := h
              refine awp_rc tab [1, 6, 10, 11, 12, 13, 15, 98, 99, 100, 128] [] [] [] [(0 : Int) ≤ a2 ∧ a2 < (x21.1.1.length : Int)] ⟨257, [(1, vi a2), (6, vi x3), (10, .osl 1 0), (11, .ref 0 0 0), (12, vi (gI x11.1.1 a2)), (13, vi x12), (15, .ref 2 0 0), (98, .d (.sl t_ref09_Row) a1), (99, vi (a1.length : Int)), (100, vi x16), (128, vb ((gI x21.1.1 a2) == (0 : Int)))], [.box [.d (.sl (.int .i64)) x11.1.1, vi x11.1.2, vb x11.2.1, .d (.sl (.int .i64)) x11.2.2], .row t_ref09_Row x17 0, .box [.d (.sl (.int .i64)) x21.1.1, vi x21.1.2, vb x21.2.1, .d (.sl (.int .i64)) x21.2.2]]⟩ (by kernel_rfl) (AllP.of (o15) trivial) ?_
              refine then_n (spine_c ?_)
              refine awp_cond (b := (gI x21.1.1 a2) == (0 : Int)) (by kernel_rfl) (fun hb => ?_) (fun hb => ?_)
              · replace h := h.1 (eq_of_beq hb)
                obtain ⟨o16, h⟩ := h
                refine awp_rc tab [1, 6, 10, 11, 12, 13, 98, 99, 100] [] [] [2] [1 * 4 ≤ 16777216, (x17.length + [x21].length) * 64 ≤ 140737488355328 ∧ x17.length + [x21].length ≤ 9223372036854775807] ⟨257, [(1, vi a2), (6, vi x3), (10, .osl 1 1), (11, .ref 0 0 0), (12, vi (gI x11.1.1 a2)), (13, vi x12), (98, .d (.sl t_ref09_Row) a1), (99, vi (a1.length : Int)), (100, vi x16)], [.box [.d (.sl (.int .i64)) x11.1.1, vi x11.1.2, vb x11.2.1, .d (.sl (.int .i64)) x11.2.2], .row t_ref09_Row (x17 ++ [x21]) 1, .box [.d (.sl (.int .i64)) x21.1.1, vi x21.1.2, vb x21.2.1, .d (.sl (.int .i64)) x21.2.2]]⟩ (by kernel_rfl) (AllP.of (by decide) (AllP.of (o16) trivial)) ?_
                refine then_n (spine_e (then_n (spine_e (blk_n (then_n (spine_e (blk_n (then_n (spine_c ?_)))))))))
                obtain ⟨o17, h⟩ := h
                refine awp_rc tab [1, 6, 10, 11, 12, 13, 98, 99, 100] [] [] [] [-9223372036854775808 ≤ x16 + (1 : Int) ∧ x16 + (1 : Int) ≤ 9223372036854775807] ⟨257, [(1, vi a2), (6, vi x3), (10, .osl 1 1), (11, .ref 0 0 0), (12, vi (gI x11.1.1 a2)), (13, vi x12), (98, .d (.sl t_ref09_Row) a1), (99, vi (a1.length : Int)), (100, vi (x16 + (1 : Int)))], [.box [.d (.sl (.int .i64)) x11.1.1, vi x11.1.2, vb x11.2.1, .d (.sl (.int .i64)) x11.2.2], .row t_ref09_Row (x17 ++ [x21]) 1, .box [.d (.sl (.int .i64)) x21.1.1, vi x21.1.2, vb x21.2.1, .d (.sl (.int .i64)) x21.2.2]]⟩ (by kernel_rfl) (AllP.of (o17) trivial) ?_
                refine then_n (spine_e (then_n (spine_e (then_n (spine_e (then_n (?_)))))))
                obtain ⟨m, hm, h⟩ := h
                exact ⟨m, hm, ⟨257, [(1, vi a2), (6, vi x3), (10, .osl 1 0), (11, .ref 0 0 0), (12, vi (gI x11.1.1 a2)), (13, vi x12), (98, .d (.sl t_ref09_Row) a1), (99, vi (a1.length : Int)), (100, vi (x16 + (1 : Int)))], [.box [.d (.sl (.int .i64)) x11.1.1, vi x11.1.2, vb x11.2.1, .d (.sl (.int .i64)) x11.2.2], .row t_ref09_Row (x17 ++ [x21]) 0]⟩, wk_ghosts hk (l := [.keep [1, 6, 10, 11, 12, 13, 98, 99, 100], .keep [1, 6, 10, 11, 12, 13, 98, 99, 100], .cut 2, .reset 1, .keep [1, 6, 10, 11, 12, 13, 98, 99, 100]]) (by kernel_rfl), x16 + (1 : Int), x17 ++ [x21], h, rfl⟩
              · replace h := h.2 (ne_of_beq_false hb)
                obtain ⟨o18, o19, o20, o21, o22, o23, h⟩ := h
                refine awp_dr tab mixed [1, 6, 10, 11, 12, 13, 98, 99, 100] [] [(16, .dat (.agg [.d (.sl (.int .i64)) (((ref09_mix.fn (if (-(gI x11.1.1 a2)) > (gI x11.1.1 a2) then (-(gI x11.1.1 a2)) else (gI x11.1.1 a2)) x21 ((-x12) * (gI x21.1.1 a2)) x11).1).1), vi (((ref09_mix.fn (if (-(gI x11.1.1 a2)) > (gI x11.1.1 a2) then (-(gI x11.1.1 a2)) else (gI x11.1.1 a2)) x21 ((-x12) * (gI x21.1.1 a2)) x11).1).2), vb ((ref09_mix.fn (if (-(gI x11.1.1 a2)) > (gI x11.1.1 a2) then (-(gI x11.1.1 a2)) else (gI x11.1.1 a2)) x21 ((-x12) * (gI x21.1.1 a2)) x11).2.1), .d (.sl (.int .i64)) ((ref09_mix.fn (if (-(gI x11.1.1 a2)) > (gI x11.1.1 a2) then (-(gI x11.1.1 a2)) else (gI x11.1.1 a2)) x21 ((-x12) * (gI x21.1.1 a2)) x11).2.2)]))] [17] ⟨[[], [], [], [2], [1, 2, 3], [], [], [6], [], [8], [8, 9], [], [8, 9, 10, 11], [8, 9, 10, 11, 12], [6, 7, 8, 9, 10, 11, 12, 13], [], [1, 2, 3, 4, 5, 6, 7, 8, 9, 10, 11, 12, 13, 14, 15], [1, 2, 3, 4, 5, 6, 7, 8, 9, 10, 11, 12, 13, 14, 15, 16], [0, 1, 2, 3, 4, 5, 6, 7, 8, 9, 10, 11, 12, 13, 14, 15, 16, 17], [0, 1, 2, 3, 4, 5, 6, 7, 8, 9, 10, 11, 12, 13, 14, 15, 16, 17, 18]], [.osl 1 0, vi (gI x11.1.1 a2), vi (gI x11.1.1 a2), vi (-(gI x11.1.1 a2)), vi (if (-(gI x11.1.1 a2)) > (gI x11.1.1 a2) then (-(gI x11.1.1 a2)) else (gI x11.1.1 a2)), .agg [.d (.sl (.int .i64)) x21.1.1, vi x21.1.2, vb x21.2.1, .d (.sl (.int .i64)) x21.2.2], vi x12, vi (-x12), .ref 2 0 0, .ref 2 0 0, .d (.sl (.int .i64)) x21.1.1, vi a2, .er [vi (gI x21.1.1 a2)], vi (gI x21.1.1 a2), vi ((-x12) * (gI x21.1.1 a2)), .agg [.d (.sl (.int .i64)) x11.1.1, vi x11.1.2, vb x11.2.1, .d (.sl (.int .i64)) x11.2.2], .agg [.d (.sl (.int .i64)) (((ref09_mix.fn (if (-(gI x11.1.1 a2)) > (gI x11.1.1 a2) then (-(gI x11.1.1 a2)) else (gI x11.1.1 a2)) x21 ((-x12) * (gI x21.1.1 a2)) x11).1).1), vi (((ref09_mix.fn (if (-(gI x11.1.1 a2)) > (gI x11.1.1 a2) then (-(gI x11.1.1 a2)) else (gI x11.1.1 a2)) x21 ((-x12) * (gI x21.1.1 a2)) x11).1).2), vb ((ref09_mix.fn (if (-(gI x11.1.1 a2)) > (gI x11.1.1 a2) then (-(gI x11.1.1 a2)) else (gI x11.1.1 a2)) x21 ((-x12) * (gI x21.1.1 a2)) x11).2.1), .d (.sl (.int .i64)) ((ref09_mix.fn (if (-(gI x11.1.1 a2)) > (gI x11.1.1 a2) then (-(gI x11.1.1 a2)) else (gI x11.1.1 a2)) x21 ((-x12) * (gI x21.1.1 a2)) x11).2.2)], .d (.sl t_ref09_Row) [ref09_mix.fn (if (-(gI x11.1.1 a2)) > (gI x11.1.1 a2) then (-(gI x11.1.1 a2)) else (gI x11.1.1 a2)) x21 ((-x12) * (gI x21.1.1 a2)) x11], .osl 1 1, .osl 1 1], [none, none, none, some (-9223372036854775808 ≤ -(gI x11.1.1 a2) ∧ -(gI x11.1.1 a2) ≤ 9223372036854775807), none, none, none, some (-9223372036854775808 ≤ -x12 ∧ -x12 ≤ 9223372036854775807), none, none, none, none, some ((0 : Int) ≤ a2 ∧ a2 < (x21.1.1.length : Int)), none, some (-9223372036854775808 ≤ (-x12) * (gI x21.1.1 a2) ∧ (-x12) * (gI x21.1.1 a2) ≤ 9223372036854775807), none, some (OkC prog 81 [vi (if (-(gI x11.1.1 a2)) > (gI x11.1.1 a2) then (-(gI x11.1.1 a2)) else (gI x11.1.1 a2)), .agg [.d (.sl (.int .i64)) x21.1.1, vi x21.1.2, vb x21.2.1, .d (.sl (.int .i64)) x21.2.2], vi ((-x12) * (gI x21.1.1 a2)), .agg [.d (.sl (.int .i64)) x11.1.1, vi x11.1.2, vb x11.2.1, .d (.sl (.int .i64)) x11.2.2]] (.agg [.d (.sl (.int .i64)) (((ref09_mix.fn (if (-(gI x11.1.1 a2)) > (gI x11.1.1 a2) then (-(gI x11.1.1 a2)) else (gI x11.1.1 a2)) x21 ((-x12) * (gI x21.1.1 a2)) x11).1).1), vi (((ref09_mix.fn (if (-(gI x11.1.1 a2)) > (gI x11.1.1 a2) then (-(gI x11.1.1 a2)) else (gI x11.1.1 a2)) x21 ((-x12) * (gI x21.1.1 a2)) x11).1).2), vb ((ref09_mix.fn (if (-(gI x11.1.1 a2)) > (gI x11.1.1 a2) then (-(gI x11.1.1 a2)) else (gI x11.1.1 a2)) x21 ((-x12) * (gI x21.1.1 a2)) x11).2.1), .d (.sl (.int .i64)) ((ref09_mix.fn (if (-(gI x11.1.1 a2)) > (gI x11.1.1 a2) then (-(gI x11.1.1 a2)) else (gI x11.1.1 a2)) x21 ((-x12) * (gI x21.1.1 a2)) x11).2.2)])), some (1 * 4 ≤ 16777216), some ((x17.length + [ref09_mix.fn (if (-(gI x11.1.1 a2)) > (gI x11.1.1 a2) then (-(gI x11.1.1 a2)) else (gI x11.1.1 a2)) x21 ((-x12) * (gI x21.1.1 a2)) x11].length) * 64 ≤ 140737488355328 ∧ x17.length + [ref09_mix.fn (if (-(gI x11.1.1 a2)) > (gI x11.1.1 a2) then (-(gI x11.1.1 a2)) else (gI x11.1.1 a2)) x21 ((-x12) * (gI x21.1.1 a2)) x11].length ≤ 9223372036854775807), none], [18], [([], [.box [.d (.sl (.int .i64)) x11.1.1, vi x11.1.2, vb x11.2.1, .d (.sl (.int .i64)) x11.2.2], .row t_ref09_Row x17 0, .box [.d (.sl (.int .i64)) x21.1.1, vi x21.1.2, vb x21.2.1, .d (.sl (.int .i64)) x21.2.2]]), ([18], [.box [.d (.sl (.int .i64)) x11.1.1, vi x11.1.2, vb x11.2.1, .d (.sl (.int .i64)) x11.2.2], .row t_ref09_Row (x17 ++ [ref09_mix.fn (if (-(gI x11.1.1 a2)) > (gI x11.1.1 a2) then (-(gI x11.1.1 a2)) else (gI x11.1.1 a2)) x21 ((-x12) * (gI x21.1.1 a2)) x11]) 1, .box [.d (.sl (.int .i64)) x21.1.1, vi x21.1.2, vb x21.2.1, .d (.sl (.int .i64)) x21.2.2]])]⟩ ⟨257, [(1, vi a2), (6, vi x3), (10, .osl 1 1), (11, .ref 0 0 0), (12, vi (gI x11.1.1 a2)), (13, vi x12), (98, .d (.sl t_ref09_Row) a1), (99, vi (a1.length : Int)), (100, vi x16)], [.box [.d (.sl (.int .i64)) x11.1.1, vi x11.1.2, vb x11.2.1, .d (.sl (.int .i64)) x11.2.2], .row t_ref09_Row (x17 ++ [ref09_mix.fn (if (-(gI x11.1.1 a2)) > (gI x11.1.1 a2) then (-(gI x11.1.1 a2)) else (gI x11.1.1 a2)) x21 ((-x12) * (gI x21.1.1 a2)) x11]) 1, .box [.d (.sl (.int .i64)) x21.1.1, vi x21.1.2, vb x21.2.1, .d (.sl (.int .i64)) x21.2.2]]⟩ (by kernel_rfl) (AllO.n (AllO.n (AllO.n (AllO.s (o18) (AllO.n (AllO.n (AllO.n (AllO.s (o19) (AllO.n (AllO.n (AllO.n (AllO.n (AllO.s (o20) (AllO.n (AllO.s (o21) (AllO.n (AllO.s (ok_ref09_mix (if (-(gI x11.1.1 a2)) > (gI x11.1.1 a2) then (-(gI x11.1.1 a2)) else (gI x11.1.1 a2)) x21 ((-x12) * (gI x21.1.1 a2)) x11 (o22)) (AllO.s (by decide) (AllO.s (o23) (AllO.n (AllO.e))))))))))))))))))))) ?_
                refine then_n (spine_e (then_n (spine_e (blk_n (then_n (spine_e (blk_n (then_n (spine_c ?_)))))))))
                refine awp_abs (fun (x22 : (List ref09_Row)) => ⟨257, [(1, vi a2), (6, vi x3), (10, .osl 1 1), (11, .ref 0 0 0), (12, vi (gI x11.1.1 a2)), (13, vi x12), (98, .d (.sl t_ref09_Row) a1), (99, vi (a1.length : Int)), (100, vi x16)], [.box [.d (.sl (.int .i64)) x11.1.1, vi x11.1.2, vb x11.2.1, .d (.sl (.int .i64)) x11.2.2], .row t_ref09_Row x22 1, .box [.d (.sl (.int .i64)) x21.1.1, vi x21.1.2, vb x21.2.1, .d (.sl (.int .i64)) x21.2.2]]⟩) (x17 ++ [ref09_mix.fn (if (-(gI x11.1.1 a2)) > (gI x11.1.1 a2) then (-(gI x11.1.1 a2)) else (gI x11.1.1 a2)) x21 ((-x12) * (gI x21.1.1 a2)) x11]) ?_
                intro x22 hx22
                replace h := h x22 hx22
                obtain ⟨o24, h⟩ := h
                refine awp_rc tab [1, 6, 10, 11, 12, 13, 98, 99, 100] [] [] [] [-9223372036854775808 ≤ x16 + (1 : Int) ∧ x16 + (1 : Int) ≤ 9223372036854775807] ⟨257, [(1, vi a2), (6, vi x3), (10, .osl 1 1), (11, .ref 0 0 0), (12, vi (gI x11.1.1 a2)), (13, vi x12), (98, .d (.sl t_ref09_Row) a1), (99, vi (a1.length : Int)), (100, vi (x16 + (1 : Int)))], [.box [.d (.sl (.int .i64)) x11.1.1, vi x11.1.2, vb x11.2.1, .d (.sl (.int .i64)) x11.2.2], .row t_ref09_Row x22 1, .box [.d (.sl (.int .i64)) x21.1.1, vi x21.1.2, vb x21.2.1, .d (.sl (.int .i64)) x21.2.2]]⟩ (by kernel_rfl) (AllP.of (o24) trivial) ?_
                refine then_n (spine_e (then_n (spine_e (then_n (spine_e (then_n (?_)))))))
                obtain ⟨m, hm, h⟩ := h
                exact ⟨m, hm, ⟨257, [(1, vi a2), (6, vi x3), (10, .osl 1 0), (11, .ref 0 0 0), (12, vi (gI x11.1.1 a2)), (13, vi x12), (98, .d (.sl t_ref09_Row) a1), (99, vi (a1.length : Int)), (100, vi (x16 + (1 : Int)))], [.box [.d (.sl (.int .i64)) x11.1.1, vi x11.1.2, vb x11.2.1, .d (.sl (.int .i64)) x11.2.2], .row t_ref09_Row x22 0]⟩, wk_ghosts hk (l := [.keep [1, 6, 10, 11, 12, 13, 98, 99, 100], .keep [1, 6, 10, 11, 12, 13, 98, 99, 100], .cut 2, .reset 1, .keep [1, 6, 10, 11, 12, 13, 98, 99, 100]]) (by kernel_rfl), x16 + (1 : Int), x22, h, rfl⟩
          · replace h := h.2 (of_decide_eq_false hb)
            refine awp_exit (then_x (then_x (then_x (blk_h (then_n (spine_e (then_n (spine_e (then_n (spine_e (then_n (spine_e (then_n (spine_e (then_n (?_))))))))))))))))
            exact ⟨x17, h, wk_ghosts hk (l := [.keep [10], .freeze 1, .keep [10], .cut 0, .keep [10]]) (by kernel_rfl)⟩
      · replace h := h.2 (of_decide_eq_false hb)
        refine awp_spine ?_
        refine awp_rc tab [0, 1, 10, 141, 142, 143] [] [] [] [] ⟨257, [(0, .d (.sl t_ref09_Row) a1), (1, vi a2), (10, .nils), (141, .d (.sl t_ref09_Row) a1), (142, vi (a1.length : Int)), (143, vi (0 : Int))], []⟩ (by kernel_rfl) (trivial) ?_
        refine then_n (spine_c ?_)
        refine awp_len 0 [] (T := t_ref09_Row) (l := a1) (by kernel_rfl) fun hl => ?_
        replace h := h hl
        refine awp_block ?_
        obtain ⟨I29, ⟨n29a, hz29⟩, hI29⟩ := h
        refine awp_loopN (fun n s => ∃ (x25 : Int) (x26 : (List ref09_Row)), I29 n x25 x26 ∧ s = ⟨257, [(0, .d (.sl t_ref09_Row) a1), (1, vi a2), (10, .osl 0 0), (141, .d (.sl t_ref09_Row) a1), (142, vi (a1.length : Int)), (143, vi x25)], [.row t_ref09_Row x26 0]⟩) (n := n29a) (s0 := ⟨257, [(0, .d (.sl t_ref09_Row) a1), (1, vi a2), (10, .osl 0 0), (141, .d (.sl t_ref09_Row) a1), (142, vi (a1.length : Int)), (143, vi (0 : Int))], [.row t_ref09_Row ([] : List ref09_Row) 0]⟩) (wk_ghosts hk (l := [.keep [0, 1, 10, 141, 142, 143], .adopt 10 t_ref09_Row, .keep [0, 1, 10, 141, 142, 143], .keep [0, 1, 10, 141, 142, 143], .keep [0, 1, 10, 141, 142, 143]]) (by kernel_rfl)) ⟨0, ([] : List ref09_Row), hz29, rfl⟩ ?_
        rintro n29 s ⟨x25, x26, hx29, rfl⟩
        have h := hI29 n29 x25 x26 hx29
        refine awp_spine ?_
        refine awp_rc tab [0, 1, 10, 141, 142, 143, 144] [] [] [] [] ⟨257, [(0, .d (.sl t_ref09_Row) a1), (1, vi a2), (10, .osl 0 0), (141, .d (.sl t_ref09_Row) a1), (142, vi (a1.length : Int)), (143, vi x25), (144, vb (decide (x25 < (a1.length : Int))))], [.row t_ref09_Row x26 0]⟩ (by kernel_rfl) (trivial) ?_
        refine then_n (spine_c ?_)
        refine awp_spine ?_
        refine awp_cond (b := decide (x25 < (a1.length : Int))) (by kernel_rfl) (fun hb => ?_) (fun hb => ?_)
        · replace h := h.1 (of_decide_eq_true hb)
          refine awp_skip (then_n (spine_c ?_))
          refine awp_spine ?_
          refine awp_block ?_
          refine awp_spine ?_
          obtain ⟨o25, h⟩ := h
          refine awp_rc tab [0, 1, 10, 17, 141, 142, 143] [] [] [] [(0 : Int) ≤ x25 ∧ x25 < (a1.length : Int)] ⟨257, [(0, .d (.sl t_ref09_Row) a1), (1, vi a2), (10, .osl 0 0), (17, .ref 1 0 0), (141, .d (.sl t_ref09_Row) a1), (142, vi (a1.length : Int)), (143, vi x25)], [.row t_ref09_Row x26 0, .box [.d (.sl (.int .i64)) (((a1.getD (Int.toNat x25) d_ref09_Row).1).1), vi (((a1.getD (Int.toNat x25) d_ref09_Row).1).2), vb ((a1.getD (Int.toNat x25) d_ref09_Row).2.1), .d (.sl (.int .i64)) ((a1.getD (Int.toNat x25) d_ref09_Row).2.2)]]⟩ (by kernel_rfl) (AllP.of (o25) trivial) ?_
          refine then_n (spine_c ?_)
          refine awp_abs (fun (x30 : ref09_Row) => ⟨257, [(0, .d (.sl t_ref09_Row) a1), (1, vi a2), (10, .osl 0 0), (17, .ref 1 0 0), (141, .d (.sl t_ref09_Row) a1), (142, vi (a1.length : Int)), (143, vi x25)], [.row t_ref09_Row x26 0, .box [.d (.sl (.int .i64)) x30.1.1, vi x30.1.2, vb x30.2.1, .d (.sl (.int .i64)) x30.2.2]]⟩) (a1.getD (Int.toNat x25) d_ref09_Row) ?_
          intro x30 hx30
          replace h := h x30 hx30
          refine awp_spine ?_
          obtain ⟨o26, h⟩ := h
          refine awp_rc tab [0, 1, 10, 17, 141, 142, 143, 153] [] [] [] [(0 : Int) ≤ a2 ∧ a2 < (x30.1.1.length : Int)] ⟨257, [(0, .d (.sl t_ref09_Row) a1), (1, vi a2), (10, .osl 0 0), (17, .ref 1 0 0), (141, .d (.sl t_ref09_Row) a1), (142, vi (a1.length : Int)), (143, vi x25), (153, vb ((gI x30.1.1 a2) == (0 : Int)))], [.row t_ref09_Row x26 0, .box [.d (.sl (.int .i64)) x30.1.1, vi x30.1.2, vb x30.2.1, .d (.sl (.int .i64)) x30.2.2]]⟩ (by kernel_rfl) (AllP.of (o26) trivial) ?_
          refine then_n (spine_c ?_)
          refine awp_cond (b := (gI x30.1.1 a2) == (0 : Int)) (by kernel_rfl) (fun hb => ?_) (fun hb => ?_)
          · replace h := h.1 (eq_of_beq hb)
            obtain ⟨o27, h⟩ := h
            refine awp_rc tab [0, 1, 10, 141, 142, 143] [] [] [2] [1 * 4 ≤ 16777216, (x26.length + [x30].length) * 64 ≤ 140737488355328 ∧ x26.length + [x30].length ≤ 9223372036854775807] ⟨257, [(0, .d (.sl t_ref09_Row) a1), (1, vi a2), (10, .osl 0 1), (141, .d (.sl t_ref09_Row) a1), (142, vi (a1.length : Int)), (143, vi x25)], [.row t_ref09_Row (x26 ++ [x30]) 1, .box [.d (.sl (.int .i64)) x30.1.1, vi x30.1.2, vb x30.2.1, .d (.sl (.int .i64)) x30.2.2]]⟩ (by kernel_rfl) (AllP.of (by decide) (AllP.of (o27) trivial)) ?_
            refine then_n (spine_e (then_n (spine_e (blk_n (then_n (spine_c ?_))))))
            obtain ⟨o28, h⟩ := h
            refine awp_rc tab [0, 1, 10, 141, 142, 143] [] [] [] [-9223372036854775808 ≤ x25 + (1 : Int) ∧ x25 + (1 : Int) ≤ 9223372036854775807] ⟨257, [(0, .d (.sl t_ref09_Row) a1), (1, vi a2), (10, .osl 0 1), (141, .d (.sl t_ref09_Row) a1), (142, vi (a1.length : Int)), (143, vi (x25 + (1 : Int)))], [.row t_ref09_Row (x26 ++ [x30]) 1, .box [.d (.sl (.int .i64)) x30.1.1, vi x30.1.2, vb x30.2.1, .d (.sl (.int .i64)) x30.2.2]]⟩ (by kernel_rfl) (AllP.of (o28) trivial) ?_
            refine then_n (spine_e (then_n (spine_e (then_n (spine_e (then_n (?_)))))))
            obtain ⟨m, hm, h⟩ := h
            exact ⟨m, hm, ⟨257, [(0, .d (.sl t_ref09_Row) a1), (1, vi a2), (10, .osl 0 0), (141, .d (.sl t_ref09_Row) a1), (142, vi (a1.length : Int)), (143, vi (x25 + (1 : Int)))], [.row t_ref09_Row (x26 ++ [x30]) 0]⟩, wk_ghosts hk (l := [.keep [0, 1, 10, 141, 142, 143], .keep [0, 1, 10, 141, 142, 143], .cut 1, .reset 0, .keep [0, 1, 10, 141, 142, 143]]) (by kernel_rfl), x25 + (1 : Int), x26 ++ [x30], h, rfl⟩
          · replace h := h.2 (ne_of_beq_false hb)
            refine awp_skip (then_n (spine_e (then_n (spine_e (blk_n (then_n (spine_c ?_)))))))
            obtain ⟨o29, h⟩ := h
            refine awp_rc tab [0, 1, 10, 141, 142, 143] [] [] [] [-9223372036854775808 ≤ x25 + (1 : Int) ∧ x25 + (1 : Int) ≤ 9223372036854775807] ⟨257, [(0, .d (.sl t_ref09_Row) a1), (1, vi a2), (10, .osl 0 0), (141, .d (.sl t_ref09_Row) a1), (142, vi (a1.length : Int)), (143, vi (x25 + (1 : Int)))], [.row t_ref09_Row x26 0, .box [.d (.sl (.int .i64)) x30.1.1, vi x30.1.2, vb x30.2.1, .d (.sl (.int .i64)) x30.2.2]]⟩ (by kernel_rfl) (AllP.of (o29) trivial) ?_
            refine then_n (spine_e (then_n (spine_e (then_n (spine_e (then_n (?_)))))))
            obtain ⟨m, hm, h⟩ := h
            exact ⟨m, hm, ⟨257, [(0, .d (.sl t_ref09_Row) a1), (1, vi a2), (10, .osl 0 0), (141, .d (.sl t_ref09_Row) a1), (142, vi (a1.length : Int)), (143, vi (x25 + (1 : Int)))], [.row t_ref09_Row x26 0]⟩, wk_ghosts hk (l := [.keep [0, 1, 10, 141, 142, 143], .keep [0, 1, 10, 141, 142, 143], .cut 1, .keep [0, 1, 10, 141, 142, 143]]) (by kernel_rfl), x25 + (1 : Int), x26, h, rfl⟩
        · replace h := h.2 (of_decide_eq_false hb)
          refine awp_exit (then_x (then_x (then_x (blk_h (then_n (spine_c ?_))))))
          refine awp_spine ?_
          refine awp_rc tab [0, 1, 10, 159, 160, 161] [] [] [] [] ⟨257, [(0, .d (.sl t_ref09_Row) a1), (1, vi a2), (10, .osl 0 0), (159, .d (.sl t_ref09_Row) a1), (160, vi (a1.length : Int)), (161, vi (0 : Int))], [.row t_ref09_Row x26 0]⟩ (by kernel_rfl) (trivial) ?_
          refine then_n (spine_c ?_)
          refine awp_len 0 [] (T := t_ref09_Row) (l := a1) (by kernel_rfl) fun hl => ?_
          replace h := h hl
          refine awp_block ?_
          obtain ⟨I37, ⟨n37a, hz37⟩, hI37⟩ := h
          refine awp_loopN (fun n s => ∃ (x33 : Int) (x34 : (List ref09_Row)), I37 n x33 x34 ∧ s = ⟨257, [(0, .d (.sl t_ref09_Row) a1), (1, vi a2), (10, .osl 0 0), (159, .d (.sl t_ref09_Row) a1), (160, vi (a1.length : Int)), (161, vi x33)], [.row t_ref09_Row x34 0]⟩) (n := n37a) (s0 := ⟨257, [(0, .d (.sl t_ref09_Row) a1), (1, vi a2), (10, .osl 0 0), (159, .d (.sl t_ref09_Row) a1), (160, vi (a1.length : Int)), (161, vi (0 : Int))], [.row t_ref09_Row x26 0]⟩) (wk_ghosts hk (l := [.keep [0, 1, 10, 159, 160, 161], .keep [0, 1, 10, 159, 160, 161], .keep [0, 1, 10, 159, 160, 161], .keep [0, 1, 10, 159, 160, 161]]) (by kernel_rfl)) ⟨0, x26, hz37, rfl⟩ ?_
          rintro n37 s ⟨x33, x34, hx37, rfl⟩
          have h := hI37 n37 x33 x34 hx37
          refine awp_spine ?_
          refine awp_rc tab [0, 1, 10, 159, 160, 161, 162] [] [] [] [] ⟨257, [(0, .d (.sl t_ref09_Row) a1), (1, vi a2), (10, .osl 0 0), (159, .d (.sl t_ref09_Row) a1), (160, vi (a1.length : Int)), (161, vi x33), (162, vb (decide (x33 < (a1.length : Int))))], [.row t_ref09_Row x34 0]⟩ (by kernel_rfl) (trivial) ?_
          refine then_n (spine_c ?_)
          refine awp_spine ?_
          refine awp_cond (b := decide (x33 < (a1.length : Int))) (by kernel_rfl) (fun hb => ?_) (fun hb => ?_)
          · replace h := h.1 (of_decide_eq_true hb)
            refine awp_skip (then_n (spine_c ?_))
            refine awp_spine ?_
            refine awp_block ?_
            refine awp_spine ?_
            obtain ⟨o30, h⟩ := h
            refine awp_rc tab [0, 1, 10, 19, 159, 160, 161] [] [] [] [(0 : Int) ≤ x33 ∧ x33 < (a1.length : Int)] ⟨257, [(0, .d (.sl t_ref09_Row) a1), (1, vi a2), (10, .osl 0 0), (19, .ref 1 0 0), (159, .d (.sl t_ref09_Row) a1), (160, vi (a1.length : Int)), (161, vi x33)], [.row t_ref09_Row x34 0, .box [.d (.sl (.int .i64)) (((a1.getD (Int.toNat x33) d_ref09_Row).1).1), vi (((a1.getD (Int.toNat x33) d_ref09_Row).1).2), vb ((a1.getD (Int.toNat x33) d_ref09_Row).2.1), .d (.sl (.int .i64)) ((a1.getD (Int.toNat x33) d_ref09_Row).2.2)]]⟩ (by kernel_rfl) (AllP.of (o30) trivial) ?_
            refine then_n (spine_c ?_)
            refine awp_abs (fun (x38 : ref09_Row) => ⟨257, [(0, .d (.sl t_ref09_Row) a1), (1, vi a2), (10, .osl 0 0), (19, .ref 1 0 0), (159, .d (.sl t_ref09_Row) a1), (160, vi (a1.length : Int)), (161, vi x33)], [.row t_ref09_Row x34 0, .box [.d (.sl (.int .i64)) x38.1.1, vi x38.1.2, vb x38.2.1, .d (.sl (.int .i64)) x38.2.2]]⟩) (a1.getD (Int.toNat x33) d_ref09_Row) ?_
            intro x38 hx38
            replace h := h x38 hx38
            refine awp_spine ?_
            obtain ⟨o31, h⟩ := h
            refine awp_rc tab [0, 1, 10, 19, 159, 160, 161, 171] [] [] [] [(0 : Int) ≤ a2 ∧ a2 < (x38.1.1.length : Int)] ⟨257, [(0, .d (.sl t_ref09_Row) a1), (1, vi a2), (10, .osl 0 0), (19, .ref 1 0 0), (159, .d (.sl t_ref09_Row) a1), (160, vi (a1.length : Int)), (161, vi x33), (171, vb (decide ((gI x38.1.1 a2) ≤ (0 : Int))))], [.row t_ref09_Row x34 0, .box [.d (.sl (.int .i64)) x38.1.1, vi x38.1.2, vb x38.2.1, .d (.sl (.int .i64)) x38.2.2]]⟩ (by kernel_rfl) (AllP.of (o31) trivial) ?_
            refine then_n (spine_c ?_)
            refine awp_cond (b := decide ((gI x38.1.1 a2) ≤ (0 : Int))) (by kernel_rfl) (fun hb => ?_) (fun hb => ?_)
            · replace h := h.1 (of_decide_eq_true hb)
              refine awp_exit (then_x (then_x (blk_h (then_n (spine_c ?_)))))
              obtain ⟨o32, h⟩ := h
              refine awp_rc tab [0, 1, 10, 159, 160, 161] [] [] [] [-9223372036854775808 ≤ x33 + (1 : Int) ∧ x33 + (1 : Int) ≤ 9223372036854775807] ⟨257, [(0, .d (.sl t_ref09_Row) a1), (1, vi a2), (10, .osl 0 0), (159, .d (.sl t_ref09_Row) a1), (160, vi (a1.length : Int)), (161, vi (x33 + (1 : Int)))], [.row t_ref09_Row x34 0, .box [.d (.sl (.int .i64)) x38.1.1, vi x38.1.2, vb x38.2.1, .d (.sl (.int .i64)) x38.2.2]]⟩ (by kernel_rfl) (AllP.of (o32) trivial) ?_
              refine then_n (spine_e (then_n (spine_e (then_n (spine_e (then_n (?_)))))))
              obtain ⟨m, hm, h⟩ := h
              exact ⟨m, hm, ⟨257, [(0, .d (.sl t_ref09_Row) a1), (1, vi a2), (10, .osl 0 0), (159, .d (.sl t_ref09_Row) a1), (160, vi (a1.length : Int)), (161, vi (x33 + (1 : Int)))], [.row t_ref09_Row x34 0]⟩, wk_ghosts hk (l := [.keep [0, 1, 10, 159, 160, 161], .keep [0, 1, 10, 159, 160, 161], .cut 1, .keep [0, 1, 10, 159, 160, 161]]) (by kernel_rfl), x33 + (1 : Int), x34, h, rfl⟩
            · replace h := h.2 (of_decide_eq_false hb)
              refine awp_skip (then_n (spine_c ?_))
              refine awp_spine ?_
              refine awp_rc tab [0, 1, 10, 19, 159, 160, 161, 172, 173, 174] [] [] [] [] ⟨257, [(0, .d (.sl t_ref09_Row) a1), (1, vi a2), (10, .osl 0 0), (19, .ref 1 0 0), (159, .d (.sl t_ref09_Row) a1), (160, vi (a1.length : Int)), (161, vi x33), (172, .d (.sl t_ref09_Row) a1), (173, vi (a1.length : Int)), (174, vi (0 : Int))], [.row t_ref09_Row x34 0, .box [.d (.sl (.int .i64)) x38.1.1, vi x38.1.2, vb x38.2.1, .d (.sl (.int .i64)) x38.2.2]]⟩ (by kernel_rfl) (trivial) ?_
              refine then_n (spine_c ?_)
              refine awp_len 0 [] (T := t_ref09_Row) (l := a1) (by kernel_rfl) fun hl => ?_
              replace h := h hl
              refine awp_block ?_
              obtain ⟨I45, ⟨n45a, hz45⟩, hI45⟩ := h
              refine awp_loopN (fun n s => ∃ (x41 : Int) (x42 : (List ref09_Row)), I45 n x41 x42 ∧ s = ⟨257, [(0, .d (.sl t_ref09_Row) a1), (1, vi a2), (10, .osl 0 0), (19, .ref 1 0 0), (159, .d (.sl t_ref09_Row) a1), (160, vi (a1.length : Int)), (161, vi x33), (172, .d (.sl t_ref09_Row) a1), (173, vi (a1.length : Int)), (174, vi x41)], [.row t_ref09_Row x42 0, .box [.d (.sl (.int .i64)) x38.1.1, vi x38.1.2, vb x38.2.1, .d (.sl (.int .i64)) x38.2.2]]⟩) (n := n45a) (s0 := ⟨257, [(0, .d (.sl t_ref09_Row) a1), (1, vi a2), (10, .osl 0 0), (19, .ref 1 0 0), (159, .d (.sl t_ref09_Row) a1), (160, vi (a1.length : Int)), (161, vi x33), (172, .d (.sl t_ref09_Row) a1), (173, vi (a1.length : Int)), (174, vi (0 : Int))], [.row t_ref09_Row x34 0, .box [.d (.sl (.int .i64)) x38.1.1, vi x38.1.2, vb x38.2.1, .d (.sl (.int .i64)) x38.2.2]]⟩) (wk_ghosts hk (l := [.keep [0, 1, 10, 19, 159, 160, 161, 172, 173, 174], .keep [0, 1, 10, 19, 159, 160, 161, 172, 173, 174], .keep [0, 1, 10, 19, 159, 160, 161, 172, 173, 174], .keep [0, 1, 10, 19, 159, 160, 161, 172, 173, 174]]) (by kernel_rfl)) ⟨0, x34, hz45, rfl⟩ ?_
              rintro n45 s ⟨x41, x42, hx45, rfl⟩
              have h := hI45 n45 x41 x42 hx45
              refine awp_spine ?_
              refine awp_rc tab [0, 1, 10, 19, 159, 160, 161, 172, 173, 174, 175] [] [] [] [] ⟨257, [(0, .d (.sl t_ref09_Row) a1), (1, vi a2), (10, .osl 0 0), (19, .ref 1 0 0), (159, .d (.sl t_ref09_Row) a1), (160, vi (a1.length : Int)), (161, vi x33), (172, .d (.sl t_ref09_Row) a1), (173, vi (a1.length : Int)), (174, vi x41), (175, vb (decide (x41 < (a1.length : Int))))], [.row t_ref09_Row x42 0, .box [.d (.sl (.int .i64)) x38.1.1, vi x38.1.2, vb x38.2.1, .d (.sl (.int .i64)) x38.2.2]]⟩ (by kernel_rfl) (trivial) ?_
              refine then_n (spine_c ?_)
              refine awp_spine ?_
              refine awp_cond (b := decide (x41 < (a1.length : Int))) (by kernel_rfl) (fun hb => ?_) (fun hb => ?_)
              · replace h := h.1 (of_decide_eq_true hb)
                refine awp_skip (then_n (spine_c ?_))
                refine awp_spine ?_
                refine awp_block ?_
                refine awp_spine ?_
                obtain ⟨o33, h⟩ := h
                refine awp_rc tab [0, 1, 10, 19, 21, 159, 160, 161, 172, 173, 174] [] [] [] [(0 : Int) ≤ x41 ∧ x41 < (a1.length : Int)] ⟨257, [(0, .d (.sl t_ref09_Row) a1), (1, vi a2), (10, .osl 0 0), (19, .ref 1 0 0), (21, .ref 2 0 0), (159, .d (.sl t_ref09_Row) a1), (160, vi (a1.length : Int)), (161, vi x33), (172, .d (.sl t_ref09_Row) a1), (173, vi (a1.length : Int)), (174, vi x41)], [.row t_ref09_Row x42 0, .box [.d (.sl (.int .i64)) x38.1.1, vi x38.1.2, vb x38.2.1, .d (.sl (.int .i64)) x38.2.2], .box [.d (.sl (.int .i64)) (((a1.getD (Int.toNat x41) d_ref09_Row).1).1), vi (((a1.getD (Int.toNat x41) d_ref09_Row).1).2), vb ((a1.getD (Int.toNat x41) d_ref09_Row).2.1), .d (.sl (.int .i64)) ((a1.getD (Int.toNat x41) d_ref09_Row).2.2)]]⟩ (by kernel_rfl) (AllP.of (o33) trivial) ?_
                refine then_n (spine_c ?_)
                refine awp_abs (fun (x46 : ref09_Row) => ⟨257, [(0, .d (.sl t_ref09_Row) a1), (1, vi a2), (10, .osl 0 0), (19, .ref 1 0 0), (21, .ref 2 0 0), (159, .d (.sl t_ref09_Row) a1), (160, vi (a1.length : Int)), (161, vi x33), (172, .d (.sl t_ref09_Row) a1), (173, vi (a1.length : Int)), (174, vi x41)], [.row t_ref09_Row x42 0, .box [.d (.sl (.int .i64)) x38.1.1, vi x38.1.2, vb x38.2.1, .d (.sl (.int .i64)) x38.2.2], .box [.d (.sl (.int .i64)) x46.1.1, vi x46.1.2, vb x46.2.1, .d (.sl (.int .i64)) x46.2.2]]⟩) (a1.getD (Int.toNat x41) d_ref09_Row) ?_
                intro x46 hx46
                replace h := h x46 hx46
                refine awp_spine ?_
                obtain ⟨o34, h⟩ := h
                refine awp_rc tab [0, 1, 10, 19, 21, 159, 160, 161, 172, 173, 174, 184] [] [] [] [(0 : Int) ≤ a2 ∧ a2 < (x46.1.1.length : Int)] ⟨257, [(0, .d (.sl t_ref09_Row) a1), (1, vi a2), (10, .osl 0 0), (19, .ref 1 0 0), (21, .ref 2 0 0), (159, .d (.sl t_ref09_Row) a1), (160, vi (a1.length : Int)), (161, vi x33), (172, .d (.sl t_ref09_Row) a1), (173, vi (a1.length : Int)), (174, vi x41), (184, vb (decide ((gI x46.1.1 a2) < (0 : Int))))], [.row t_ref09_Row x42 0, .box [.d (.sl (.int .i64)) x38.1.1, vi x38.1.2, vb x38.2.1, .d (.sl (.int .i64)) x38.2.2], .box [.d (.sl (.int .i64)) x46.1.1, vi x46.1.2, vb x46.2.1, .d (.sl (.int .i64)) x46.2.2]]⟩ (by kernel_rfl) (AllP.of (o34) trivial) ?_
                refine then_n (spine_c ?_)
                refine awp_cond (b := decide ((gI x46.1.1 a2) < (0 : Int))) (by kernel_rfl) (fun hb => ?_) (fun hb => ?_)
                · replace h := h.1 (of_decide_eq_true hb)
                  obtain ⟨o35, o36, o37, o38, o39, h⟩ := h
                  refine awp_dr tab mixed [0, 1, 10, 19, 159, 160, 161, 172, 173, 174] [] [(16, .dat (.agg [.d (.sl (.int .i64)) (((ref09_mix.fn (-(gI x46.1.1 a2)) x38 (gI x38.1.1 a2) x46).1).1), vi (((ref09_mix.fn (-(gI x46.1.1 a2)) x38 (gI x38.1.1 a2) x46).1).2), vb ((ref09_mix.fn (-(gI x46.1.1 a2)) x38 (gI x38.1.1 a2) x46).2.1), .d (.sl (.int .i64)) ((ref09_mix.fn (-(gI x46.1.1 a2)) x38 (gI x38.1.1 a2) x46).2.2)]))] [17] ⟨[[], [], [1], [1, 2], [], [1, 2, 3, 4], [1, 2, 3, 4, 5], [1, 2, 3, 4, 5, 6], [], [], [9], [9, 10], [], [9, 10, 11, 12], [9, 10, 11, 12, 13], [], [1, 2, 3, 4, 5, 6, 7, 8, 9, 10, 11, 12, 13, 14, 15], [1, 2, 3, 4, 5, 6, 7, 8, 9, 10, 11, 12, 13, 14, 15, 16], [0, 1, 2, 3, 4, 5, 6, 7, 8, 9, 10, 11, 12, 13, 14, 15, 16, 17], [0, 1, 2, 3, 4, 5, 6, 7, 8, 9, 10, 11, 12, 13, 14, 15, 16, 17, 18]], [.osl 0 0, .ref 2 0 0, .ref 2 0 0, .d (.sl (.int .i64)) x46.1.1, vi a2, .er [vi (gI x46.1.1 a2)], vi (gI x46.1.1 a2), vi (-(gI x46.1.1 a2)), .agg [.d (.sl (.int .i64)) x38.1.1, vi x38.1.2, vb x38.2.1, .d (.sl (.int .i64)) x38.2.2], .ref 1 0 0, .ref 1 0 0, .d (.sl (.int .i64)) x38.1.1, vi a2, .er [vi (gI x38.1.1 a2)], vi (gI x38.1.1 a2), .agg [.d (.sl (.int .i64)) x46.1.1, vi x46.1.2, vb x46.2.1, .d (.sl (.int .i64)) x46.2.2], .agg [.d (.sl (.int .i64)) (((ref09_mix.fn (-(gI x46.1.1 a2)) x38 (gI x38.1.1 a2) x46).1).1), vi (((ref09_mix.fn (-(gI x46.1.1 a2)) x38 (gI x38.1.1 a2) x46).1).2), vb ((ref09_mix.fn (-(gI x46.1.1 a2)) x38 (gI x38.1.1 a2) x46).2.1), .d (.sl (.int .i64)) ((ref09_mix.fn (-(gI x46.1.1 a2)) x38 (gI x38.1.1 a2) x46).2.2)], .d (.sl t_ref09_Row) [ref09_mix.fn (-(gI x46.1.1 a2)) x38 (gI x38.1.1 a2) x46], .osl 0 1, .osl 0 1], [none, none, none, none, none, some ((0 : Int) ≤ a2 ∧ a2 < (x46.1.1.length : Int)), none, some (-9223372036854775808 ≤ -(gI x46.1.1 a2) ∧ -(gI x46.1.1 a2) ≤ 9223372036854775807), none, none, none, none, none, some ((0 : Int) ≤ a2 ∧ a2 < (x38.1.1.length : Int)), none, none, some (OkC prog 81 [vi (-(gI x46.1.1 a2)), .agg [.d (.sl (.int .i64)) x38.1.1, vi x38.1.2, vb x38.2.1, .d (.sl (.int .i64)) x38.2.2], vi (gI x38.1.1 a2), .agg [.d (.sl (.int .i64)) x46.1.1, vi x46.1.2, vb x46.2.1, .d (.sl (.int .i64)) x46.2.2]] (.agg [.d (.sl (.int .i64)) (((ref09_mix.fn (-(gI x46.1.1 a2)) x38 (gI x38.1.1 a2) x46).1).1), vi (((ref09_mix.fn (-(gI x46.1.1 a2)) x38 (gI x38.1.1 a2) x46).1).2), vb ((ref09_mix.fn (-(gI x46.1.1 a2)) x38 (gI x38.1.1 a2) x46).2.1), .d (.sl (.int .i64)) ((ref09_mix.fn (-(gI x46.1.1 a2)) x38 (gI x38.1.1 a2) x46).2.2)])), some (1 * 4 ≤ 16777216), some ((x42.length + [ref09_mix.fn (-(gI x46.1.1 a2)) x38 (gI x38.1.1 a2) x46].length) * 64 ≤ 140737488355328 ∧ x42.length + [ref09_mix.fn (-(gI x46.1.1 a2)) x38 (gI x38.1.1 a2) x46].length ≤ 9223372036854775807), none], [18], [([], [.row t_ref09_Row x42 0, .box [.d (.sl (.int .i64)) x38.1.1, vi x38.1.2, vb x38.2.1, .d (.sl (.int .i64)) x38.2.2], .box [.d (.sl (.int .i64)) x46.1.1, vi x46.1.2, vb x46.2.1, .d (.sl (.int .i64)) x46.2.2]]), ([18], [.row t_ref09_Row (x42 ++ [ref09_mix.fn (-(gI x46.1.1 a2)) x38 (gI x38.1.1 a2) x46]) 1, .box [.d (.sl (.int .i64)) x38.1.1, vi x38.1.2, vb x38.2.1, .d (.sl (.int .i64)) x38.2.2], .box [.d (.sl (.int .i64)) x46.1.1, vi x46.1.2, vb x46.2.1, .d (.sl (.int .i64)) x46.2.2]])]⟩ ⟨257, [(0, .d (.sl t_ref09_Row) a1), (1, vi a2), (10, .osl 0 1), (19, .ref 1 0 0), (159, .d (.sl t_ref09_Row) a1), (160, vi (a1.length : Int)), (161, vi x33), (172, .d (.sl t_ref09_Row) a1), (173, vi (a1.length : Int)), (174, vi x41)], [.row t_ref09_Row (x42 ++ [ref09_mix.fn (-(gI x46.1.1 a2)) x38 (gI x38.1.1 a2) x46]) 1, .box [.d (.sl (.int .i64)) x38.1.1, vi x38.1.2, vb x38.2.1, .d (.sl (.int .i64)) x38.2.2], .box [.d (.sl (.int .i64)) x46.1.1, vi x46.1.2, vb x46.2.1, .d (.sl (.int .i64)) x46.2.2]]⟩ (by kernel_rfl) (AllO.n (AllO.n (AllO.n (AllO.n (AllO.n (AllO.s (o35) (AllO.n (AllO.s (o36) (AllO.n (AllO.n (AllO.n (AllO.n (AllO.n (AllO.s (o37) (AllO.n (AllO.n (AllO.s (ok_ref09_mix (-(gI x46.1.1 a2)) x38 (gI x38.1.1 a2) x46 (o38)) (AllO.s (by decide) (AllO.s (o39) (AllO.n (AllO.e))))))))))))))))))))) ?_
                  refine then_n (spine_e (then_n (spine_e (blk_n (then_n (spine_c ?_))))))
                  refine awp_abs (fun (x47 : (List ref09_Row)) => ⟨257, [(0, .d (.sl t_ref09_Row) a1), (1, vi a2), (10, .osl 0 1), (19, .ref 1 0 0), (159, .d (.sl t_ref09_Row) a1), (160, vi (a1.length : Int)), (161, vi x33), (172, .d (.sl t_ref09_Row) a1), (173, vi (a1.length : Int)), (174, vi x41)], [.row t_ref09_Row x47 1, .box [.d (.sl (.int .i64)) x38.1.1, vi x38.1.2, vb x38.2.1, .d (.sl (.int .i64)) x38.2.2], .box [.d (.sl (.int .i64)) x46.1.1, vi x46.1.2, vb x46.2.1, .d (.sl (.int .i64)) x46.2.2]]⟩) (x42 ++ [ref09_mix.fn (-(gI x46.1.1 a2)) x38 (gI x38.1.1 a2) x46]) ?_
                  intro x47 hx47
                  replace h := h x47 hx47
                  obtain ⟨o40, h⟩ := h
                  refine awp_rc tab [0, 1, 10, 19, 159, 160, 161, 172, 173, 174] [] [] [] [-9223372036854775808 ≤ x41 + (1 : Int) ∧ x41 + (1 : Int) ≤ 9223372036854775807] ⟨257, [(0, .d (.sl t_ref09_Row) a1), (1, vi a2), (10, .osl 0 1), (19, .ref 1 0 0), (159, .d (.sl t_ref09_Row) a1), (160, vi (a1.length : Int)), (161, vi x33), (172, .d (.sl t_ref09_Row) a1), (173, vi (a1.length : Int)), (174, vi (x41 + (1 : Int)))], [.row t_ref09_Row x47 1, .box [.d (.sl (.int .i64)) x38.1.1, vi x38.1.2, vb x38.2.1, .d (.sl (.int .i64)) x38.2.2], .box [.d (.sl (.int .i64)) x46.1.1, vi x46.1.2, vb x46.2.1, .d (.sl (.int .i64)) x46.2.2]]⟩ (by kernel_rfl) (AllP.of (o40) trivial) ?_
                  refine then_n (spine_e (then_n (spine_e (then_n (spine_e (then_n (?_)))))))
                  obtain ⟨m, hm, h⟩ := h
                  exact ⟨m, hm, ⟨257, [(0, .d (.sl t_ref09_Row) a1), (1, vi a2), (10, .osl 0 0), (19, .ref 1 0 0), (159, .d (.sl t_ref09_Row) a1), (160, vi (a1.length : Int)), (161, vi x33), (172, .d (.sl t_ref09_Row) a1), (173, vi (a1.length : Int)), (174, vi (x41 + (1 : Int)))], [.row t_ref09_Row x47 0, .box [.d (.sl (.int .i64)) x38.1.1, vi x38.1.2, vb x38.2.1, .d (.sl (.int .i64)) x38.2.2]]⟩, wk_ghosts hk (l := [.keep [0, 1, 10, 19, 159, 160, 161, 172, 173, 174], .keep [0, 1, 10, 19, 159, 160, 161, 172, 173, 174], .cut 2, .reset 0, .keep [0, 1, 10, 19, 159, 160, 161, 172, 173, 174]]) (by kernel_rfl), x41 + (1 : Int), x47, h, rfl⟩
                · replace h := h.2 (of_decide_eq_false hb)
                  refine awp_skip (then_n (spine_e (then_n (spine_e (blk_n (then_n (spine_c ?_)))))))
                  obtain ⟨o41, h⟩ := h
                  refine awp_rc tab [0, 1, 10, 19, 159, 160, 161, 172, 173, 174] [] [] [] [-9223372036854775808 ≤ x41 + (1 : Int) ∧ x41 + (1 : Int) ≤ 9223372036854775807] ⟨257, [(0, .d (.sl t_ref09_Row) a1), (1, vi a2), (10, .osl 0 0), (19, .ref 1 0 0), (159, .d (.sl t_ref09_Row) a1), (160, vi (a1.length : Int)), (161, vi x33), (172, .d (.sl t_ref09_Row) a1), (173, vi (a1.length : Int)), (174, vi (x41 + (1 : Int)))], [.row t_ref09_Row x42 0, .box [.d (.sl (.int .i64)) x38.1.1, vi x38.1.2, vb x38.2.1, .d (.sl (.int .i64)) x38.2.2], .box [.d (.sl (.int .i64)) x46.1.1, vi x46.1.2, vb x46.2.1, .d (.sl (.int .i64)) x46.2.2]]⟩ (by kernel_rfl) (AllP.of (o41) trivial) ?_
                  refine then_n (spine_e (then_n (spine_e (then_n (spine_e (then_n (?_)))))))
                  obtain ⟨m, hm, h⟩ := h
                  exact ⟨m, hm, ⟨257, [(0, .d (.sl t_ref09_Row) a1), (1, vi a2), (10, .osl 0 0), (19, .ref 1 0 0), (159, .d (.sl t_ref09_Row) a1), (160, vi (a1.length : Int)), (161, vi x33), (172, .d (.sl t_ref09_Row) a1), (173, vi (a1.length : Int)), (174, vi (x41 + (1 : Int)))], [.row t_ref09_Row x42 0, .box [.d (.sl (.int .i64)) x38.1.1, vi x38.1.2, vb x38.2.1, .d (.sl (.int .i64)) x38.2.2]]⟩, wk_ghosts hk (l := [.keep [0, 1, 10, 19, 159, 160, 161, 172, 173, 174], .keep [0, 1, 10, 19, 159, 160, 161, 172, 173, 174], .cut 2, .keep [0, 1, 10, 19, 159, 160, 161, 172, 173, 174]]) (by kernel_rfl), x41 + (1 : Int), x42, h, rfl⟩
              · replace h := h.2 (of_decide_eq_false hb)
                refine awp_exit (then_x (then_x (then_x (blk_h (then_n (spine_e (then_n (spine_e (then_n (spine_e (blk_n (then_n (spine_c ?_)))))))))))))
                obtain ⟨o42, h⟩ := h
                refine awp_rc tab [0, 1, 10, 159, 160, 161] [] [] [] [-9223372036854775808 ≤ x33 + (1 : Int) ∧ x33 + (1 : Int) ≤ 9223372036854775807] ⟨257, [(0, .d (.sl t_ref09_Row) a1), (1, vi a2), (10, .osl 0 0), (159, .d (.sl t_ref09_Row) a1), (160, vi (a1.length : Int)), (161, vi (x33 + (1 : Int)))], [.row t_ref09_Row x42 0, .box [.d (.sl (.int .i64)) x38.1.1, vi x38.1.2, vb x38.2.1, .d (.sl (.int .i64)) x38.2.2]]⟩ (by kernel_rfl) (AllP.of (o42) trivial) ?_
                refine then_n (spine_e (then_n (spine_e (then_n (spine_e (then_n (?_)))))))
                obtain ⟨m, hm, h⟩ := h
                exact ⟨m, hm, ⟨257, [(0, .d (.sl t_ref09_Row) a1), (1, vi a2), (10, .osl 0 0), (159, .d (.sl t_ref09_Row) a1), (160, vi (a1.length : Int)), (161, vi (x33 + (1 : Int)))], [.row t_ref09_Row x42 0]⟩, wk_ghosts hk (l := [.keep [0, 1, 10, 159, 160, 161], .keep [0, 1, 10, 159, 160, 161], .cut 1, .keep [0, 1, 10, 159, 160, 161]]) (by kernel_rfl), x33 + (1 : Int), x42, h, rfl⟩
          · replace h := h.2 (of_decide_eq_false hb)
            refine awp_exit (then_x (then_x (then_x (blk_h (then_n (spine_e (then_n (spine_e (then_n (?_))))))))))
            exact ⟨x34, h, wk_ghosts hk (l := [.keep [10], .freeze 0, .keep [10], .cut 0, .keep [10]]) (by kernel_rfl)⟩
    · rintro s' ⟨x9, hx10, hw10⟩
      have h := hB10 x9 hx10
      refine spine_c (awp_wk hw10 ?_)
      refine awp_spine ?_
      refine awp_rc tab [10, 22] [] [] [] [] ⟨257, [(10, .d (.sl t_ref09_Row) x9), (22, .nils)], []⟩ (by kernel_rfl) (trivial) ?_
      refine then_n (spine_c ?_)
      refine awp_spine ?_
      refine awp_rc tab [22, 206, 207, 208] [] [] [] [] ⟨257, [(22, .nils), (206, .d (.sl t_ref09_Row) x9), (207, vi (x9.length : Int)), (208, vi (0 : Int))], []⟩ (by kernel_rfl) (trivial) ?_
      refine then_n (spine_c ?_)
      refine awp_len 206 [] (T := t_ref09_Row) (l := x9) (by kernel_rfl) fun hl => ?_
      replace h := h hl
      refine awp_block ?_
      obtain ⟨I54, ⟨n54a, hz54⟩, hI54⟩ := h
      refine awp_loopN (fun n s => ∃ (x50 : Int) (x51 : (List ref09_Row)), I54 n x50 x51 ∧ s = ⟨257, [(22, .osl 0 0), (206, .d (.sl t_ref09_Row) x9), (207, vi (x9.length : Int)), (208, vi x50)], [.row t_ref09_Row x51 0]⟩) (n := n54a) (s0 := ⟨257, [(22, .osl 0 0), (206, .d (.sl t_ref09_Row) x9), (207, vi (x9.length : Int)), (208, vi (0 : Int))], [.row t_ref09_Row ([] : List ref09_Row) 0]⟩) (wk_ghosts hk (l := [.keep [22, 206, 207, 208], .adopt 22 t_ref09_Row, .keep [22, 206, 207, 208], .keep [22, 206, 207, 208], .keep [22, 206, 207, 208]]) (by kernel_rfl)) ⟨0, ([] : List ref09_Row), hz54, rfl⟩ ?_
      rintro n54 s ⟨x50, x51, hx54, rfl⟩
      have h := hI54 n54 x50 x51 hx54
      refine awp_spine ?_
      refine awp_rc tab [22, 206, 207, 208, 209] [] [] [] [] ⟨257, [(22, .osl 0 0), (206, .d (.sl t_ref09_Row) x9), (207, vi (x9.length : Int)), (208, vi x50), (209, vb (decide (x50 < (x9.length : Int))))], [.row t_ref09_Row x51 0]⟩ (by kernel_rfl) (trivial) ?_
      refine then_n (spine_c ?_)
      refine awp_spine ?_
      refine awp_cond (b := decide (x50 < (x9.length : Int))) (by kernel_rfl) (fun hb => ?_) (fun hb => ?_)
      · replace h := h.1 (of_decide_eq_true hb)
        refine awp_skip (then_n (spine_c ?_))
        refine awp_spine ?_
        refine awp_block ?_
        refine awp_spine ?_
        obtain ⟨o43, h⟩ := h
        refine awp_rc tab [22, 24, 206, 207, 208] [] [] [] [(0 : Int) ≤ x50 ∧ x50 < (x9.length : Int)] ⟨257, [(22, .osl 0 0), (24, .ref 1 0 0), (206, .d (.sl t_ref09_Row) x9), (207, vi (x9.length : Int)), (208, vi x50)], [.row t_ref09_Row x51 0, .box [.d (.sl (.int .i64)) (((x9.getD (Int.toNat x50) d_ref09_Row).1).1), vi (((x9.getD (Int.toNat x50) d_ref09_Row).1).2), vb ((x9.getD (Int.toNat x50) d_ref09_Row).2.1), .d (.sl (.int .i64)) ((x9.getD (Int.toNat x50) d_ref09_Row).2.2)]]⟩ (by kernel_rfl) (AllP.of (o43) trivial) ?_
        refine then_n (spine_c ?_)
        refine awp_abs (fun (x55 : ref09_Row) => ⟨257, [(22, .osl 0 0), (24, .ref 1 0 0), (206, .d (.sl t_ref09_Row) x9), (207, vi (x9.length : Int)), (208, vi x50)], [.row t_ref09_Row x51 0, .box [.d (.sl (.int .i64)) x55.1.1, vi x55.1.2, vb x55.2.1, .d (.sl (.int .i64)) x55.2.2]]⟩) (x9.getD (Int.toNat x50) d_ref09_Row) ?_
        intro x55 hx55
        replace h := h x55 hx55
        refine awp_spine ?_
        refine awp_rc tab [22, 24, 25, 206, 207, 208] [] [] [] [] ⟨257, [(22, .osl 0 0), (24, .ref 1 0 0), (25, vb false), (206, .d (.sl t_ref09_Row) x9), (207, vi (x9.length : Int)), (208, vi x50)], [.row t_ref09_Row x51 0, .box [.d (.sl (.int .i64)) x55.1.1, vi x55.1.2, vb x55.2.1, .d (.sl (.int .i64)) x55.2.2]]⟩ (by kernel_rfl) (trivial) ?_
        refine then_n (spine_c ?_)
        refine awp_spine ?_
        refine awp_rc tab [22, 24, 25, 206, 207, 208, 212, 213, 214] [] [] [] [] ⟨257, [(22, .osl 0 0), (24, .ref 1 0 0), (25, vb false), (206, .d (.sl t_ref09_Row) x9), (207, vi (x9.length : Int)), (208, vi x50), (212, .osl 0 0), (213, vi (x51.length : Int)), (214, vi (0 : Int))], [.row t_ref09_Row x51 0, .box [.d (.sl (.int .i64)) x55.1.1, vi x55.1.2, vb x55.2.1, .d (.sl (.int .i64)) x55.2.2]]⟩ (by kernel_rfl) (trivial) ?_
        refine then_n (spine_c ?_)
        refine awp_block ?_
        obtain ⟨I62, ⟨n62a, hz62⟩, hI62⟩ := h
        refine awp_loopN (fun n s => ∃ (x58 : Bool) (x59 : Int), I62 n x58 x59 ∧ s = ⟨257, [(22, .osl 0 0), (24, .ref 1 0 0), (25, vb x58), (206, .d (.sl t_ref09_Row) x9), (207, vi (x9.length : Int)), (208, vi x50), (212, .osl 0 0), (213, vi (x51.length : Int)), (214, vi x59)], [.row t_ref09_Row x51 0, .box [.d (.sl (.int .i64)) x55.1.1, vi x55.1.2, vb x55.2.1, .d (.sl (.int .i64)) x55.2.2]]⟩) (n := n62a) (s0 := ⟨257, [(22, .osl 0 0), (24, .ref 1 0 0), (25, vb false), (206, .d (.sl t_ref09_Row) x9), (207, vi (x9.length : Int)), (208, vi x50), (212, .osl 0 0), (213, vi (x51.length : Int)), (214, vi (0 : Int))], [.row t_ref09_Row x51 0, .box [.d (.sl (.int .i64)) x55.1.1, vi x55.1.2, vb x55.2.1, .d (.sl (.int .i64)) x55.2.2]]⟩) (wk_ghosts hk (l := [.keep [22, 24, 25, 206, 207, 208, 212, 213, 214], .keep [22, 24, 25, 206, 207, 208, 212, 213, 214], .keep [22, 24, 25, 206, 207, 208, 212, 213, 214], .keep [22, 24, 25, 206, 207, 208, 212, 213, 214]]) (by kernel_rfl)) ⟨false, 0, hz62, rfl⟩ ?_
        rintro n62 s ⟨x58, x59, hx62, rfl⟩
        have h := hI62 n62 x58 x59 hx62
        refine awp_spine ?_
        refine awp_rc tab [22, 24, 25, 206, 207, 208, 212, 213, 214, 215] [] [] [] [] ⟨257, [(22, .osl 0 0), (24, .ref 1 0 0), (25, vb x58), (206, .d (.sl t_ref09_Row) x9), (207, vi (x9.length : Int)), (208, vi x50), (212, .osl 0 0), (213, vi (x51.length : Int)), (214, vi x59), (215, vb (decide (x59 < (x51.length : Int))))], [.row t_ref09_Row x51 0, .box [.d (.sl (.int .i64)) x55.1.1, vi x55.1.2, vb x55.2.1, .d (.sl (.int .i64)) x55.2.2]]⟩ (by kernel_rfl) (trivial) ?_
        refine then_n (spine_c ?_)
        refine awp_spine ?_
        refine awp_cond (b := decide (x59 < (x51.length : Int))) (by kernel_rfl) (fun hb => ?_) (fun hb => ?_)
        · replace h := h.1 (of_decide_eq_true hb)
          refine awp_skip (then_n (spine_c ?_))
          refine awp_spine ?_
          refine awp_block ?_
          refine awp_spine ?_
          obtain ⟨o44, o45, h⟩ := h
          refine awp_rc tab [22, 24, 25, 27, 206, 207, 208, 212, 213, 214] [] [] [] [(0 : Int) ≤ x59 ∧ x59 < (x51.length : Int), Int.toNat x59 < x51.length] ⟨257, [(22, .osl 0 0), (24, .ref 1 0 0), (25, vb x58), (27, .ref 2 0 0), (206, .d (.sl t_ref09_Row) x9), (207, vi (x9.length : Int)), (208, vi x50), (212, .osl 0 0), (213, vi (x51.length : Int)), (214, vi x59)], [.row t_ref09_Row x51 0, .box [.d (.sl (.int .i64)) x55.1.1, vi x55.1.2, vb x55.2.1, .d (.sl (.int .i64)) x55.2.2], .box [.d (.sl (.int .i64)) (((x51.getD (Int.toNat x59) d_ref09_Row).1).1), vi (((x51.getD (Int.toNat x59) d_ref09_Row).1).2), vb ((x51.getD (Int.toNat x59) d_ref09_Row).2.1), .d (.sl (.int .i64)) ((x51.getD (Int.toNat x59) d_ref09_Row).2.2)]]⟩ (by kernel_rfl) (AllP.of (o44) (AllP.of (o45) trivial)) ?_
          refine then_n (spine_c ?_)
          refine awp_abs (fun (x63 : ref09_Row) => ⟨257, [(22, .osl 0 0), (24, .ref 1 0 0), (25, vb x58), (27, .ref 2 0 0), (206, .d (.sl t_ref09_Row) x9), (207, vi (x9.length : Int)), (208, vi x50), (212, .osl 0 0), (213, vi (x51.length : Int)), (214, vi x59)], [.row t_ref09_Row x51 0, .box [.d (.sl (.int .i64)) x55.1.1, vi x55.1.2, vb x55.2.1, .d (.sl (.int .i64)) x55.2.2], .box [.d (.sl (.int .i64)) x63.1.1, vi x63.1.2, vb x63.2.1, .d (.sl (.int .i64)) x63.2.2]]⟩) (x51.getD (Int.toNat x59) d_ref09_Row) ?_
          intro x63 hx63
          replace h := h x63 hx63
          obtain ⟨o46, h⟩ := h
          refine awp_rc tab [22, 24, 25, 206, 207, 208, 212, 213, 214] [] [(4, .dat (vb (ref09_same.fn x55 x63)))] [] [(!x58) = true → (!x58) = true ∧ ((!x58) = true ∧ (OkC prog 82 [.agg [.d (.sl (.int .i64)) x55.1.1, vi x55.1.2, vb x55.2.1, .d (.sl (.int .i64)) x55.2.2], .agg [.d (.sl (.int .i64)) x63.1.1, vi x63.1.2, vb x63.2.1, .d (.sl (.int .i64)) x63.2.2]] (vb (ref09_same.fn x55 x63)))), x58 = false → (!x58) = true] ⟨257, [(22, .osl 0 0), (24, .ref 1 0 0), (25, vb (x58 || (ref09_same.fn x55 x63))), (206, .d (.sl t_ref09_Row) x9), (207, vi (x9.length : Int)), (208, vi x50), (212, .osl 0 0), (213, vi (x51.length : Int)), (214, vi x59)], [.row t_ref09_Row x51 0, .box [.d (.sl (.int .i64)) x55.1.1, vi x55.1.2, vb x55.2.1, .d (.sl (.int .i64)) x55.2.2], .box [.d (.sl (.int .i64)) x63.1.1, vi x63.1.2, vb x63.2.1, .d (.sl (.int .i64)) x63.2.2]]⟩ (by kernel_rfl) (AllP.of (fun hg => ⟨hg, hg, ok_ref09_same x55 x63 ((o46 hg))⟩) (AllP.of (fun hc => not_f hc) trivial)) ?_
          refine then_n (spine_e (blk_n (then_n (spine_c ?_))))
          obtain ⟨o47, h⟩ := h
          refine awp_rc tab [22, 24, 25, 206, 207, 208, 212, 213, 214] [] [] [] [-9223372036854775808 ≤ x59 + (1 : Int) ∧ x59 + (1 : Int) ≤ 9223372036854775807] ⟨257, [(22, .osl 0 0), (24, .ref 1 0 0), (25, vb (x58 || (ref09_same.fn x55 x63))), (206, .d (.sl t_ref09_Row) x9), (207, vi (x9.length : Int)), (208, vi x50), (212, .osl 0 0), (213, vi (x51.length : Int)), (214, vi (x59 + (1 : Int)))], [.row t_ref09_Row x51 0, .box [.d (.sl (.int .i64)) x55.1.1, vi x55.1.2, vb x55.2.1, .d (.sl (.int .i64)) x55.2.2], .box [.d (.sl (.int .i64)) x63.1.1, vi x63.1.2, vb x63.2.1, .d (.sl (.int .i64)) x63.2.2]]⟩ (by kernel_rfl) (AllP.of (o47) trivial) ?_
          refine then_n (spine_e (then_n (spine_e (then_n (spine_e (then_n (?_)))))))
          obtain ⟨m, hm, h⟩ := h
          exact ⟨m, hm, ⟨257, [(22, .osl 0 0), (24, .ref 1 0 0), (25, vb (x58 || (ref09_same.fn x55 x63))), (206, .d (.sl t_ref09_Row) x9), (207, vi (x9.length : Int)), (208, vi x50), (212, .osl 0 0), (213, vi (x51.length : Int)), (214, vi (x59 + (1 : Int)))], [.row t_ref09_Row x51 0, .box [.d (.sl (.int .i64)) x55.1.1, vi x55.1.2, vb x55.2.1, .d (.sl (.int .i64)) x55.2.2]]⟩, wk_ghosts hk (l := [.keep [22, 24, 25, 206, 207, 208, 212, 213, 214], .keep [22, 24, 25, 206, 207, 208, 212, 213, 214], .cut 2, .keep [22, 24, 25, 206, 207, 208, 212, 213, 214]]) (by kernel_rfl), x58 || (ref09_same.fn x55 x63), x59 + (1 : Int), h, rfl⟩
        · replace h := h.2 (of_decide_eq_false hb)
          refine awp_exit (then_x (then_x (then_x (blk_h (then_n (spine_c ?_))))))
          refine awp_spine ?_
          refine awp_rc tab [22, 24, 206, 207, 208, 226] [] [] [] [] ⟨257, [(22, .osl 0 0), (24, .ref 1 0 0), (206, .d (.sl t_ref09_Row) x9), (207, vi (x9.length : Int)), (208, vi x50), (226, vb (!x58))], [.row t_ref09_Row x51 0, .box [.d (.sl (.int .i64)) x55.1.1, vi x55.1.2, vb x55.2.1, .d (.sl (.int .i64)) x55.2.2]]⟩ (by kernel_rfl) (trivial) ?_
          refine then_n (spine_c ?_)
          refine awp_cond (b := !x58) (by kernel_rfl) (fun hb => ?_) (fun hb => ?_)
          · replace h := h.1 ((nt hb))
            obtain ⟨o48, h⟩ := h
            refine awp_rc tab [22, 206, 207, 208] [] [] [2] [1 * 4 ≤ 16777216, (x51.length + [x55].length) * 64 ≤ 140737488355328 ∧ x51.length + [x55].length ≤ 9223372036854775807] ⟨257, [(22, .osl 0 1), (206, .d (.sl t_ref09_Row) x9), (207, vi (x9.length : Int)), (208, vi x50)], [.row t_ref09_Row (x51 ++ [x55]) 1, .box [.d (.sl (.int .i64)) x55.1.1, vi x55.1.2, vb x55.2.1, .d (.sl (.int .i64)) x55.2.2]]⟩ (by kernel_rfl) (AllP.of (by decide) (AllP.of (o48) trivial)) ?_
            refine then_n (spine_c ?_)
            refine awp_spine ?_
            refine awp_rc tab [22, 206, 207, 208, 233] [] [] [] [] ⟨257, [(22, .osl 0 1), (206, .d (.sl t_ref09_Row) x9), (207, vi (x9.length : Int)), (208, vi x50), (233, vb (decide (((x51 ++ [x55]).length : Int) > (400 : Int))))], [.row t_ref09_Row (x51 ++ [x55]) 1, .box [.d (.sl (.int .i64)) x55.1.1, vi x55.1.2, vb x55.2.1, .d (.sl (.int .i64)) x55.2.2]]⟩ (by kernel_rfl) (trivial) ?_
            refine then_n (spine_c ?_)
            refine awp_cond (b := decide (((x51 ++ [x55]).length : Int) > (400 : Int))) (by kernel_rfl) (fun hb => ?_) (fun hb => ?_)
            · replace h := h.1 (of_decide_eq_true hb)
              refine awp_spine ?_
              refine awp_rc tab [4, 5] [] [] [] [] ⟨257, [(4, .nils), (5, vi (3 : Int))], [.row t_ref09_Row (x51 ++ [x55]) 1, .box [.d (.sl (.int .i64)) x55.1.1, vi x55.1.2, vb x55.2.1, .d (.sl (.int .i64)) x55.2.2]]⟩ (by kernel_rfl) (trivial) ?_
              refine then_n (spine_c ?_)
              refine awp_ret (then_r (then_r (then_r (then_r (then_r (then_r (blk_r (then_r (then_r (then_r (then_r (blk_r (then_r (then_r (then_r (then_r (then_r (then_r (then_r (?_))))))))))))))))))))
              exact ret_r (m := 0) (r := .tup [.d (.sl t_ref09_Row) ((([] : List ref09_Row), 3).1), vi ((([] : List ref09_Row), 3).2)]) (objs := []) hk [.keep [4, 5], .nilAt 4 [] t_ref09_Row, .keep [4, 5]] ⟨257, [(4, .d (.sl t_ref09_Row) ([] : List ref09_Row)), (5, vi (3 : Int))], [.row t_ref09_Row (x51 ++ [x55]) 1, .box [.d (.sl (.int .i64)) x55.1.1, vi x55.1.2, vb x55.2.1, .d (.sl (.int .i64)) x55.2.2]]⟩ (by kernel_rfl) (by kernel_rfl) (Nat.le_refl 0) ⟨(([] : List ref09_Row), 3), rfl, rfl, h⟩
            · replace h := h.2 (of_decide_eq_false hb)
              refine awp_skip (then_n (spine_e (then_n (spine_e (then_n (spine_e (then_n (spine_e (then_n (spine_e (blk_n (then_n (spine_c ?_)))))))))))))
              obtain ⟨o49, h⟩ := h
              refine awp_rc tab [22, 206, 207, 208] [] [] [] [-9223372036854775808 ≤ x50 + (1 : Int) ∧ x50 + (1 : Int) ≤ 9223372036854775807] ⟨257, [(22, .osl 0 1), (206, .d (.sl t_ref09_Row) x9), (207, vi (x9.length : Int)), (208, vi (x50 + (1 : Int)))], [.row t_ref09_Row (x51 ++ [x55]) 1, .box [.d (.sl (.int .i64)) x55.1.1, vi x55.1.2, vb x55.2.1, .d (.sl (.int .i64)) x55.2.2]]⟩ (by kernel_rfl) (AllP.of (o49) trivial) ?_
              refine then_n (spine_e (then_n (spine_e (then_n (spine_e (then_n (?_)))))))
              obtain ⟨m, hm, h⟩ := h
              exact ⟨m, hm, ⟨257, [(22, .osl 0 0), (206, .d (.sl t_ref09_Row) x9), (207, vi (x9.length : Int)), (208, vi (x50 + (1 : Int)))], [.row t_ref09_Row (x51 ++ [x55]) 0]⟩, wk_ghosts hk (l := [.keep [22, 206, 207, 208], .keep [22, 206, 207, 208], .cut 1, .reset 0, .keep [22, 206, 207, 208]]) (by kernel_rfl), x50 + (1 : Int), x51 ++ [x55], h, rfl⟩
          · replace h := h.2 ((nf hb))
            refine awp_skip (then_n (spine_c ?_))
            refine awp_spine ?_
            refine awp_rc tab [22, 206, 207, 208, 233] [] [] [] [] ⟨257, [(22, .osl 0 0), (206, .d (.sl t_ref09_Row) x9), (207, vi (x9.length : Int)), (208, vi x50), (233, vb (decide ((x51.length : Int) > (400 : Int))))], [.row t_ref09_Row x51 0, .box [.d (.sl (.int .i64)) x55.1.1, vi x55.1.2, vb x55.2.1, .d (.sl (.int .i64)) x55.2.2]]⟩ (by kernel_rfl) (trivial) ?_
            refine then_n (spine_c ?_)
            refine awp_cond (b := decide ((x51.length : Int) > (400 : Int))) (by kernel_rfl) (fun hb => ?_) (fun hb => ?_)
            · replace h := h.1 (of_decide_eq_true hb)
              refine awp_spine ?_
              refine awp_rc tab [4, 5] [] [] [] [] ⟨257, [(4, .nils), (5, vi (3 : Int))], [.row t_ref09_Row x51 0, .box [.d (.sl (.int .i64)) x55.1.1, vi x55.1.2, vb x55.2.1, .d (.sl (.int .i64)) x55.2.2]]⟩ (by kernel_rfl) (trivial) ?_
              refine then_n (spine_c ?_)
              refine awp_ret (then_r (then_r (then_r (then_r (then_r (then_r (blk_r (then_r (then_r (then_r (then_r (blk_r (then_r (then_r (then_r (then_r (then_r (then_r (then_r (?_))))))))))))))))))))
              exact ret_r (m := 0) (r := .tup [.d (.sl t_ref09_Row) ((([] : List ref09_Row), 3).1), vi ((([] : List ref09_Row), 3).2)]) (objs := []) hk [.keep [4, 5], .nilAt 4 [] t_ref09_Row, .keep [4, 5]] ⟨257, [(4, .d (.sl t_ref09_Row) ([] : List ref09_Row)), (5, vi (3 : Int))], [.row t_ref09_Row x51 0, .box [.d (.sl (.int .i64)) x55.1.1, vi x55.1.2, vb x55.2.1, .d (.sl (.int .i64)) x55.2.2]]⟩ (by kernel_rfl) (by kernel_rfl) (Nat.le_refl 0) ⟨(([] : List ref09_Row), 3), rfl, rfl, h⟩
            · replace h := h.2 (of_decide_eq_false hb)
              refine awp_skip (then_n (spine_e (then_n (spine_e (then_n (spine_e (then_n (spine_e (then_n (spine_e (blk_n (then_n (spine_c ?_)))))))))))))
              obtain ⟨o50, h⟩ := h
              refine awp_rc tab [22, 206, 207, 208] [] [] [] [-9223372036854775808 ≤ x50 + (1 : Int) ∧ x50 + (1 : Int) ≤ 9223372036854775807] ⟨257, [(22, .osl 0 0), (206, .d (.sl t_ref09_Row) x9), (207, vi (x9.length : Int)), (208, vi (x50 + (1 : Int)))], [.row t_ref09_Row x51 0, .box [.d (.sl (.int .i64)) x55.1.1, vi x55.1.2, vb x55.2.1, .d (.sl (.int .i64)) x55.2.2]]⟩ (by kernel_rfl) (AllP.of (o50) trivial) ?_
              refine then_n (spine_e (then_n (spine_e (then_n (spine_e (then_n (?_)))))))
              obtain ⟨m, hm, h⟩ := h
              exact ⟨m, hm, ⟨257, [(22, .osl 0 0), (206, .d (.sl t_ref09_Row) x9), (207, vi (x9.length : Int)), (208, vi (x50 + (1 : Int)))], [.row t_ref09_Row x51 0]⟩, wk_ghosts hk (l := [.keep [22, 206, 207, 208], .keep [22, 206, 207, 208], .cut 1, .keep [22, 206, 207, 208]]) (by kernel_rfl), x50 + (1 : Int), x51, h, rfl⟩
      · replace h := h.2 (of_decide_eq_false hb)
        refine awp_exit (then_x (then_x (then_x (blk_h (then_n (spine_c ?_))))))
        refine awp_spine ?_
        refine awp_rc tab [22, 235, 236, 237] [] [] [] [] ⟨257, [(22, .osl 0 0), (235, .osl 0 0), (236, vi (x51.length : Int)), (237, vi (0 : Int))], [.row t_ref09_Row x51 0]⟩ (by kernel_rfl) (trivial) ?_
        refine then_n (spine_c ?_)
        refine awp_block ?_
        obtain ⟨I67, ⟨n67a, hz67⟩, hI67⟩ := h
        refine awp_loopN (fun n s => ∃ (x65 : Int), I67 n x65 ∧ s = ⟨257, [(22, .osl 0 0), (235, .osl 0 0), (236, vi (x51.length : Int)), (237, vi x65)], [.row t_ref09_Row x51 0]⟩) (n := n67a) (s0 := ⟨257, [(22, .osl 0 0), (235, .osl 0 0), (236, vi (x51.length : Int)), (237, vi (0 : Int))], [.row t_ref09_Row x51 0]⟩) (wk_ghosts hk (l := [.keep [22, 235, 236, 237], .keep [22, 235, 236, 237], .keep [22, 235, 236, 237], .keep [22, 235, 236, 237]]) (by kernel_rfl)) ⟨0, hz67, rfl⟩ ?_
        rintro n67 s ⟨x65, hx67, rfl⟩
        have h := hI67 n67 x65 hx67
        refine awp_spine ?_
        refine awp_rc tab [22, 235, 236, 237, 238] [] [] [] [] ⟨257, [(22, .osl 0 0), (235, .osl 0 0), (236, vi (x51.length : Int)), (237, vi x65), (238, vb (decide (x65 < (x51.length : Int))))], [.row t_ref09_Row x51 0]⟩ (by kernel_rfl) (trivial) ?_
        refine then_n (spine_c ?_)
        refine awp_spine ?_
        refine awp_cond (b := decide (x65 < (x51.length : Int))) (by kernel_rfl) (fun hb => ?_) (fun hb => ?_)
        · replace h := h.1 (of_decide_eq_true hb)
          refine awp_skip (then_n (spine_c ?_))
          refine awp_spine ?_
          refine awp_block ?_
          refine awp_spine ?_
          obtain ⟨o51, o52, h⟩ := h
          refine awp_rc tab [22, 29, 235, 236, 237] [] [] [] [(0 : Int) ≤ x65 ∧ x65 < (x51.length : Int), Int.toNat x65 < x51.length] ⟨257, [(22, .osl 0 0), (29, .ref 1 0 0), (235, .osl 0 0), (236, vi (x51.length : Int)), (237, vi x65)], [.row t_ref09_Row x51 0, .box [.d (.sl (.int .i64)) (((x51.getD (Int.toNat x65) d_ref09_Row).1).1), vi (((x51.getD (Int.toNat x65) d_ref09_Row).1).2), vb ((x51.getD (Int.toNat x65) d_ref09_Row).2.1), .d (.sl (.int .i64)) ((x51.getD (Int.toNat x65) d_ref09_Row).2.2)]]⟩ (by kernel_rfl) (AllP.of (o51) (AllP.of (o52) trivial)) ?_
          refine then_n (spine_c ?_)
          refine awp_abs (fun (x68 : ref09_Row) => ⟨257, [(22, .osl 0 0), (29, .ref 1 0 0), (235, .osl 0 0), (236, vi (x51.length : Int)), (237, vi x65)], [.row t_ref09_Row x51 0, .box [.d (.sl (.int .i64)) x68.1.1, vi x68.1.2, vb x68.2.1, .d (.sl (.int .i64)) x68.2.2]]⟩) (x51.getD (Int.toNat x65) d_ref09_Row) ?_
          intro x68 hx68
          replace h := h x68 hx68
          refine awp_spine ?_
          obtain ⟨o53, h⟩ := h
          refine awp_rc tab [22, 235, 236, 237, 242, 243, 244] [] [(1, .dat (.d (.sl (.int .i64)) (ref09_Row_numbers.fn x68)))] [] [OkC prog 83 [.agg [.d (.sl (.int .i64)) x68.1.1, vi x68.1.2, vb x68.2.1, .d (.sl (.int .i64)) x68.2.2]] (.d (.sl (.int .i64)) (ref09_Row_numbers.fn x68))] ⟨257, [(22, .osl 0 0), (235, .osl 0 0), (236, vi (x51.length : Int)), (237, vi x65), (242, .d (.sl (.int .i64)) (ref09_Row_numbers.fn x68)), (243, vi ((ref09_Row_numbers.fn x68).length : Int)), (244, vi (0 : Int))], [.row t_ref09_Row x51 0, .box [.d (.sl (.int .i64)) x68.1.1, vi x68.1.2, vb x68.2.1, .d (.sl (.int .i64)) x68.2.2]]⟩ (by kernel_rfl) (AllP.of (ok_ref09_Row_numbers x68 (o53)) trivial) ?_
          refine then_n (spine_c ?_)
          refine awp_abs (fun (x69 : (List Int)) => ⟨257, [(22, .osl 0 0), (235, .osl 0 0), (236, vi (x51.length : Int)), (237, vi x65), (242, .d (.sl (.int .i64)) x69), (243, vi (x69.length : Int)), (244, vi (0 : Int))], [.row t_ref09_Row x51 0, .box [.d (.sl (.int .i64)) x68.1.1, vi x68.1.2, vb x68.2.1, .d (.sl (.int .i64)) x68.2.2]]⟩) (ref09_Row_numbers.fn x68) ?_
          intro x69 hx69
          replace h := h x69 hx69
          refine awp_abs (fun (x70 : Int) => ⟨257, [(22, .osl 0 0), (235, .osl 0 0), (236, vi (x51.length : Int)), (237, vi x65), (242, .d (.sl (.int .i64)) x69), (243, vi x70), (244, vi (0 : Int))], [.row t_ref09_Row x51 0, .box [.d (.sl (.int .i64)) x68.1.1, vi x68.1.2, vb x68.2.1, .d (.sl (.int .i64)) x68.2.2]]⟩) ((x69.length : Int)) ?_
          intro x70 hx70
          replace h := h x70 hx70
          refine awp_len 242 [] (T := (.int .i64)) (l := x69) (by kernel_rfl) fun hl => ?_
          replace h := h hl
          refine awp_block ?_
          obtain ⟨I74, ⟨n74a, hz74⟩, hI74⟩ := h
          refine awp_loopN (fun n s => ∃ (x72 : Int), I74 n x72 ∧ s = ⟨257, [(22, .osl 0 0), (235, .osl 0 0), (236, vi (x51.length : Int)), (237, vi x65), (242, .d (.sl (.int .i64)) x69), (243, vi x70), (244, vi x72)], [.row t_ref09_Row x51 0]⟩) (n := n74a) (s0 := ⟨257, [(22, .osl 0 0), (235, .osl 0 0), (236, vi (x51.length : Int)), (237, vi x65), (242, .d (.sl (.int .i64)) x69), (243, vi x70), (244, vi (0 : Int))], [.row t_ref09_Row x51 0]⟩) (wk_ghosts hk (l := [.keep [22, 235, 236, 237, 242, 243, 244], .keep [22, 235, 236, 237, 242, 243, 244], .keep [22, 235, 236, 237, 242, 243, 244], .cut 1, .keep [22, 235, 236, 237, 242, 243, 244]]) (by kernel_rfl)) ⟨0, hz74, rfl⟩ ?_
          rintro n74 s ⟨x72, hx74, rfl⟩
          have h := hI74 n74 x72 hx74
          refine awp_spine ?_
          refine awp_rc tab [22, 235, 236, 237, 242, 243, 244, 245] [] [] [] [] ⟨257, [(22, .osl 0 0), (235, .osl 0 0), (236, vi (x51.length : Int)), (237, vi x65), (242, .d (.sl (.int .i64)) x69), (243, vi x70), (244, vi x72), (245, vb (decide (x72 < x70)))], [.row t_ref09_Row x51 0]⟩ (by kernel_rfl) (trivial) ?_
          refine then_n (spine_c ?_)
          refine awp_spine ?_
          refine awp_cond (b := decide (x72 < x70)) (by kernel_rfl) (fun hb => ?_) (fun hb => ?_)
          · replace h := h.1 (of_decide_eq_true hb)
            refine awp_skip (then_n (spine_c ?_))
            refine awp_spine ?_
            refine awp_block ?_
            refine awp_spine ?_
            obtain ⟨o54, h⟩ := h
            refine awp_rc tab [22, 31, 235, 236, 237, 242, 243, 244] [] [] [] [(0 : Int) ≤ x72 ∧ x72 < (x69.length : Int)] ⟨257, [(22, .osl 0 0), (31, vi (gI x69 x72)), (235, .osl 0 0), (236, vi (x51.length : Int)), (237, vi x65), (242, .d (.sl (.int .i64)) x69), (243, vi x70), (244, vi x72)], [.row t_ref09_Row x51 0]⟩ (by kernel_rfl) (AllP.of (o54) trivial) ?_
            refine then_n (spine_c ?_)
            refine awp_spine ?_
            refine awp_rc tab [22, 235, 236, 237, 242, 243, 244, 253] [] [] [] [(!(decide ((gI x69 x72) < (-1073741824)))) = true → (!(decide ((gI x69 x72) < (-1073741824)))) = true ∧ True, (decide ((gI x69 x72) < (-1073741824))) = false → (!(decide ((gI x69 x72) < (-1073741824)))) = true] ⟨257, [(22, .osl 0 0), (235, .osl 0 0), (236, vi (x51.length : Int)), (237, vi x65), (242, .d (.sl (.int .i64)) x69), (243, vi x70), (244, vi x72), (253, vb ((decide ((gI x69 x72) < (-1073741824))) || (decide ((gI x69 x72) > (1073741824 : Int)))))], [.row t_ref09_Row x51 0]⟩ (by kernel_rfl) (AllP.of (fun hg => ⟨hg, trivial⟩) (AllP.of (fun hc => not_f hc) trivial)) ?_
            refine then_n (spine_c ?_)
            refine awp_cond (b := (decide ((gI x69 x72) < (-1073741824))) || (decide ((gI x69 x72) > (1073741824 : Int)))) (by kernel_rfl) (fun hb => ?_) (fun hb => ?_)
            · replace h := h.1 (hb)
              refine awp_spine ?_
              refine awp_rc tab [4, 5] [] [] [] [] ⟨257, [(4, .nils), (5, vi (3 : Int))], [.row t_ref09_Row x51 0]⟩ (by kernel_rfl) (trivial) ?_
              refine then_n (spine_c ?_)
              refine awp_ret (then_r (then_r (then_r (blk_r (then_r (then_r (then_r (then_r (blk_r (then_r (then_r (blk_r (then_r (then_r (then_r (then_r (blk_r (then_r (then_r (then_r (then_r (then_r (then_r (then_r (then_r (?_))))))))))))))))))))))))))
              exact ret_r (m := 0) (r := .tup [.d (.sl t_ref09_Row) ((([] : List ref09_Row), 3).1), vi ((([] : List ref09_Row), 3).2)]) (objs := []) hk [.keep [4, 5], .nilAt 4 [] t_ref09_Row, .keep [4, 5]] ⟨257, [(4, .d (.sl t_ref09_Row) ([] : List ref09_Row)), (5, vi (3 : Int))], [.row t_ref09_Row x51 0]⟩ (by kernel_rfl) (by kernel_rfl) (Nat.le_refl 0) ⟨(([] : List ref09_Row), 3), rfl, rfl, h⟩
            · replace h := h.2 (hb)
              refine awp_skip (then_n (spine_e (then_n (spine_e (blk_n (then_n (spine_c ?_)))))))
              obtain ⟨o55, h⟩ := h
              refine awp_rc tab [22, 235, 236, 237, 242, 243, 244] [] [] [] [-9223372036854775808 ≤ x72 + (1 : Int) ∧ x72 + (1 : Int) ≤ 9223372036854775807] ⟨257, [(22, .osl 0 0), (235, .osl 0 0), (236, vi (x51.length : Int)), (237, vi x65), (242, .d (.sl (.int .i64)) x69), (243, vi x70), (244, vi (x72 + (1 : Int)))], [.row t_ref09_Row x51 0]⟩ (by kernel_rfl) (AllP.of (o55) trivial) ?_
              refine then_n (spine_e (then_n (spine_e (then_n (spine_e (then_n (?_)))))))
              obtain ⟨m, hm, h⟩ := h
              exact ⟨m, hm, ⟨257, [(22, .osl 0 0), (235, .osl 0 0), (236, vi (x51.length : Int)), (237, vi x65), (242, .d (.sl (.int .i64)) x69), (243, vi x70), (244, vi (x72 + (1 : Int)))], [.row t_ref09_Row x51 0]⟩, wk_ghosts hk (l := [.keep [22, 235, 236, 237, 242, 243, 244], .keep [22, 235, 236, 237, 242, 243, 244], .keep [22, 235, 236, 237, 242, 243, 244]]) (by kernel_rfl), x72 + (1 : Int), h, rfl⟩
          · replace h := h.2 (of_decide_eq_false hb)
            refine awp_exit (then_x (then_x (then_x (blk_h (then_n (spine_e (then_n (spine_e (blk_n (then_n (spine_c ?_)))))))))))
            obtain ⟨o56, h⟩ := h
            refine awp_rc tab [22, 235, 236, 237] [] [] [] [-9223372036854775808 ≤ x65 + (1 : Int) ∧ x65 + (1 : Int) ≤ 9223372036854775807] ⟨257, [(22, .osl 0 0), (235, .osl 0 0), (236, vi (x51.length : Int)), (237, vi (x65 + (1 : Int)))], [.row t_ref09_Row x51 0]⟩ (by kernel_rfl) (AllP.of (o56) trivial) ?_
            refine then_n (spine_e (then_n (spine_e (then_n (spine_e (then_n (?_)))))))
            obtain ⟨m, hm, h⟩ := h
            exact ⟨m, hm, ⟨257, [(22, .osl 0 0), (235, .osl 0 0), (236, vi (x51.length : Int)), (237, vi (x65 + (1 : Int)))], [.row t_ref09_Row x51 0]⟩, wk_ghosts hk (l := [.keep [22, 235, 236, 237], .keep [22, 235, 236, 237], .keep [22, 235, 236, 237]]) (by kernel_rfl), x65 + (1 : Int), h, rfl⟩
        · replace h := h.2 (of_decide_eq_false hb)
          refine awp_exit (then_x (then_x (then_x (blk_h (then_n (spine_c ?_))))))
          refine awp_spine ?_
          refine awp_rc tab [4, 5] [] [] [] [] ⟨257, [(4, .osl 0 0), (5, vi (0 : Int))], [.row t_ref09_Row x51 0]⟩ (by kernel_rfl) (trivial) ?_
          refine then_n (spine_c ?_)
          refine awp_ret (then_r (then_r (then_r (then_r (then_r (then_r (then_r (then_r (then_r (?_))))))))))
          exact ret_r (m := 0) (r := .tup [.d (.sl t_ref09_Row) ((x51, 0).1), vi ((x51, 0).2)]) (objs := []) hk [.keep [4, 5], .freeze 0] ⟨257, [(4, .d (.sl t_ref09_Row) x51), (5, vi (0 : Int))], [.dead]⟩ (by kernel_rfl) (by kernel_rfl) (Nat.le_refl 0) ⟨(x51, 0), rfl, rfl, h⟩
theorem ok_ref09_Eliminate (a1 : (List ref09_Row)) (a2 : Int) (h : ref09_Eliminate.pre a1 a2) : OkC prog 58 [.d (.sl t_ref09_Row) a1, vi a2] (.tup [.d (.sl t_ref09_Row) ((ref09_Eliminate.fn a1 a2).1), vi ((ref09_Eliminate.fn a1 a2).2)]) :=
  OkC.of call_ref09_Eliminate ((walk_ref09_Eliminate a1 a2 _ (ref09_Eliminate.spec a1 a2 h)).mono fun r o ⟨x, hr, ho, hx⟩ => ⟨by rw [hr, hx], ho⟩) rfl rfl (fun _ => rfl)

noncomputable abbrev Bref09_stack : Code := bodyOf Try.f29
theorem call_ref09_stack : CallOk prog 29 := ⟨_, Try.func29, by kernel_rfl, by kernel_rfl⟩
theorem walk_ref09_stack (a1 : (List api_Cond)) (a2 : Int) (Q : (List (List ref09_Row)) × (List ref09_Row) × Int → Prop) (h : ref09_stack.wp a1 a2 Q) : VCalls prog 29 [.d (.sl t_api_Cond) a1, vi a2] [] (fun r o => ∃ x, r = .tup [.d (.sl (.sl t_ref09_Row)) x.1, .d (.sl t_ref09_Row) x.2.1, vi x.2.2] ∧ o = [] ∧ Q x) := by
  refine vcalls_body tab Try.func29 (c := (spine (subC [0] Bref09_stack) [(spine (subC [1, 0, 0] Bref09_stack) [(.block 0 (.loop (spine (subC [1, 0, 1, 0, 0, 0] Bref09_stack) [(spine (.cond (.tmp 14) .skip (.exit 0)) [(spine (.block 1 (spine (subC [1, 0, 1, 0, 0, 1, 1, 0, 0, 0] Bref09_stack) [(spine (subC [1, 0, 1, 0, 0, 1, 1, 0, 0, 1, 0, 0] Bref09_stack) [(.cond (.tmp 20) (.exit 1) .skip), (spine (subC [1, 0, 1, 0, 0, 1, 1, 0, 0, 1, 1, 0] Bref09_stack) [(spine (subC [1, 0, 1, 0, 0, 1, 1, 0, 0, 1, 1, 1, 0] Bref09_stack) [(subC [1, 0, 1, 0, 0, 1, 1, 0, 0, 1, 1, 1, 1] Bref09_stack)])])])])) [(subC [1, 0, 1, 0, 0, 1, 1, 1] Bref09_stack)])])]))), (spine (subC [1, 1, 0] Bref09_stack) [(spine (subC [1, 1, 1, 0, 0] Bref09_stack) [(.block 2 (.loop (spine (subC [1, 1, 1, 0, 1, 0, 0, 0, 0] Bref09_stack) [(.cond (.tmp 43) .skip (.exit 2)), (spine (.block 3 (spine (subC [1, 1, 1, 0, 1, 0, 0, 1, 0, 0, 0] Bref09_stack) [(spine (subC [1, 1, 1, 0, 1, 0, 0, 1, 0, 0, 1, 0] Bref09_stack) [(spine (subC [1, 1, 1, 0, 1, 0, 0, 1, 0, 0, 1, 1, 0] Bref09_stack) [(.cond (.tmp 57) (spine (subC [1, 1, 1, 0, 1, 0, 0, 1, 0, 0, 1, 1, 1, 0, 0] Bref09_stack) [.ret]) .skip)])])])) [(subC [1, 1, 1, 0, 1, 0, 0, 1, 1] Bref09_stack)])]))), (spine (subC [1, 1, 1, 1, 0] Bref09_stack) [.ret])])])])])) (by kernel_rfl) (Nat.le_of_ble_eq_true (by kernel_rfl)) fun cx hd hi hk => ?_
  show AWp prog cx _ _ ⟨61, [(0, .d (.sl t_api_Cond) a1), (1, vi a2)], []⟩
  replace hk : cx.E.len = 0 := hk
  unfold ref09_stack.wp at h
  refine awp_spine ?_
  refine awp_rc tab [0, 1, 5] [] [] [] [] ⟨61, [(0, .d (.sl t_api_Cond) a1), (1, vi a2), (5, .nils)], []⟩ (by kernel_rfl) (trivial) ?_
  refine then_n (spine_c ?_)
  refine awp_spine ?_
  refine awp_rc tab [0, 1, 5, 11, 12, 13] [] [] [] [] ⟨61, [(0, .d (.sl t_api_Cond) a1), (1, vi a2), (5, .nils), (11, .d (.sl t_api_Cond) a1), (12, vi (a1.length : Int)), (13, vi (0 : Int))], []⟩ (by kernel_rfl) (trivial) ?_
  refine then_n (spine_c ?_)
  refine awp_len 0 [] (T := t_api_Cond) (l := a1) (by kernel_rfl) fun hl => ?_
  replace h := h hl
  refine awp_block ?_
  obtain ⟨I7, ⟨n7a, hz7⟩, hI7⟩ := h
  refine awp_loopN (fun n s => ∃ (x3 : Int) (x4 : (List ref09_Row)), I7 n x3 x4 ∧ s = ⟨61, [(0, .d (.sl t_api_Cond) a1), (1, vi a2), (5, .osl 0 0), (11, .d (.sl t_api_Cond) a1), (12, vi (a1.length : Int)), (13, vi x3)], [.row t_ref09_Row x4 0]⟩) (n := n7a) (s0 := ⟨61, [(0, .d (.sl t_api_Cond) a1), (1, vi a2), (5, .osl 0 0), (11, .d (.sl t_api_Cond) a1), (12, vi (a1.length : Int)), (13, vi (0 : Int))], [.row t_ref09_Row ([] : List ref09_Row) 0]⟩) (wk_ghosts hk (l := [.keep [0, 1, 5, 11, 12, 13], .adopt 5 t_ref09_Row, .keep [0, 1, 5, 11, 12, 13], .keep [0, 1, 5, 11, 12, 13], .keep [0, 1, 5, 11, 12, 13]]) (by kernel_rfl)) ⟨0, ([] : List ref09_Row), hz7, rfl⟩ ?_
  rintro n7 s ⟨x3, x4, hx7, rfl⟩
  have h := hI7 n7 x3 x4 hx7
  refine awp_spine ?_
  refine awp_rc tab [0, 1, 5, 11, 12, 13, 14] [] [] [] [] ⟨61, [(0, .d (.sl t_api_Cond) a1), (1, vi a2), (5, .osl 0 0), (11, .d (.sl t_api_Cond) a1), (12, vi (a1.length : Int)), (13, vi x3), (14, vb (decide (x3 < (a1.length : Int))))], [.row t_ref09_Row x4 0]⟩ (by kernel_rfl) (trivial) ?_
  refine then_n (spine_c ?_)
  refine awp_spine ?_
  refine awp_cond (b := decide (x3 < (a1.length : Int))) (by kernel_rfl) (fun hb => ?_) (fun hb => ?_)
  · replace h := h.1 (of_decide_eq_true hb)
    refine awp_skip (then_n (spine_c ?_))
    refine awp_spine ?_
    refine awp_block ?_
    refine awp_spine ?_
    obtain ⟨o1, h⟩ := h
    refine awp_rc tab [0, 1, 5, 7, 8, 11, 12, 13] [] [] [] [(0 : Int) ≤ x3 ∧ x3 < (a1.length : Int)] ⟨61, [(0, .d (.sl t_api_Cond) a1), (1, vi a2), (5, .osl 0 0), (7, vi x3), (8, .ref 1 0 0), (11, .d (.sl t_api_Cond) a1), (12, vi (a1.length : Int)), (13, vi x3)], [.row t_ref09_Row x4 0, .box [vi ((a1.getD (Int.toNat x3) d_api_Cond).1), vi ((a1.getD (Int.toNat x3) d_api_Cond).2.1), .d (.sl (.int .i64)) (((a1.getD (Int.toNat x3) d_api_Cond).2.2).1), vi (((a1.getD (Int.toNat x3) d_api_Cond).2.2).2)]]⟩ (by kernel_rfl) (AllP.of (o1) trivial) ?_
    refine then_n (spine_c ?_)
    refine awp_abs (fun (x8 : api_Cond) => ⟨61, [(0, .d (.sl t_api_Cond) a1), (1, vi a2), (5, .osl 0 0), (7, vi x3), (8, .ref 1 0 0), (11, .d (.sl t_api_Cond) a1), (12, vi (a1.length : Int)), (13, vi x3)], [.row t_ref09_Row x4 0, .box [vi x8.1, vi x8.2.1, .d (.sl (.int .i64)) x8.2.2.1, vi x8.2.2.2]]⟩) (a1.getD (Int.toNat x3) d_api_Cond) ?_
    intro x8 hx8
    replace h := h x8 hx8
    refine awp_spine ?_
    refine awp_rc tab [0, 1, 5, 7, 8, 11, 12, 13, 20] [] [] [] [] ⟨61, [(0, .d (.sl t_api_Cond) a1), (1, vi a2), (5, .osl 0 0), (7, vi x3), (8, .ref 1 0 0), (11, .d (.sl t_api_Cond) a1), (12, vi (a1.length : Int)), (13, vi x3), (20, vb (x8.1 == (2 : Int)))], [.row t_ref09_Row x4 0, .box [vi x8.1, vi x8.2.1, .d (.sl (.int .i64)) x8.2.2.1, vi x8.2.2.2]]⟩ (by kernel_rfl) (trivial) ?_
    refine then_n (spine_c ?_)
    refine awp_cond (b := x8.1 == (2 : Int)) (by kernel_rfl) (fun hb => ?_) (fun hb => ?_)
    · replace h := h.1 (eq_of_beq hb)
      refine awp_exit (then_x (then_x (blk_h (then_n (spine_c ?_)))))
      obtain ⟨o2, h⟩ := h
      refine awp_rc tab [0, 1, 5, 11, 12, 13] [] [] [] [-9223372036854775808 ≤ x3 + (1 : Int) ∧ x3 + (1 : Int) ≤ 9223372036854775807] ⟨61, [(0, .d (.sl t_api_Cond) a1), (1, vi a2), (5, .osl 0 0), (11, .d (.sl t_api_Cond) a1), (12, vi (a1.length : Int)), (13, vi (x3 + (1 : Int)))], [.row t_ref09_Row x4 0, .box [vi x8.1, vi x8.2.1, .d (.sl (.int .i64)) x8.2.2.1, vi x8.2.2.2]]⟩ (by kernel_rfl) (AllP.of (o2) trivial) ?_
      refine then_n (spine_e (then_n (spine_e (then_n (spine_e (then_n (?_)))))))
      obtain ⟨m, hm, h⟩ := h
      exact ⟨m, hm, ⟨61, [(0, .d (.sl t_api_Cond) a1), (1, vi a2), (5, .osl 0 0), (11, .d (.sl t_api_Cond) a1), (12, vi (a1.length : Int)), (13, vi (x3 + (1 : Int)))], [.row t_ref09_Row x4 0]⟩, wk_ghosts hk (l := [.keep [0, 1, 5, 11, 12, 13], .keep [0, 1, 5, 11, 12, 13], .cut 1, .keep [0, 1, 5, 11, 12, 13]]) (by kernel_rfl), x3 + (1 : Int), x4, h, rfl⟩
    · replace h := h.2 (ne_of_beq_false hb)
      refine awp_skip (then_n (spine_c ?_))
      refine awp_spine ?_
      obtain ⟨o3, h⟩ := h
      refine awp_rc tab [0, 1, 5, 7, 8, 9, 11, 12, 13] [] [] [] [(0 : Int) ≤ (a1.length : Int) ∧ (a1.length : Int) ≤ (a1.length : Int) ∧ (a1.length : Int) * 8 ≤ 140737488355328 ∧ (a1.length : Int) ≤ 9223372036854775807] ⟨61, [(0, .d (.sl t_api_Cond) a1), (1, vi a2), (5, .osl 0 0), (7, vi x3), (8, .ref 1 0 0), (9, .osl 2 0), (11, .d (.sl t_api_Cond) a1), (12, vi (a1.length : Int)), (13, vi x3)], [.row t_ref09_Row x4 0, .box [vi x8.1, vi x8.2.1, .d (.sl (.int .i64)) x8.2.2.1, vi x8.2.2.2], .row (.int .i64) (List.replicate (Int.toNat (a1.length : Int)) (0 : Int)) 0]⟩ (by kernel_rfl) (AllP.of (o3) trivial) ?_
      refine then_n (spine_c ?_)
      refine awp_abs (fun (x9 : (List Int)) => ⟨61, [(0, .d (.sl t_api_Cond) a1), (1, vi a2), (5, .osl 0 0), (7, vi x3), (8, .ref 1 0 0), (9, .osl 2 0), (11, .d (.sl t_api_Cond) a1), (12, vi (a1.length : Int)), (13, vi x3)], [.row t_ref09_Row x4 0, .box [vi x8.1, vi x8.2.1, .d (.sl (.int .i64)) x8.2.2.1, vi x8.2.2.2], .row (.int .i64) x9 0]⟩) (List.replicate (Int.toNat (a1.length : Int)) (0 : Int)) ?_
      intro x9 hx9
      replace h := h x9 hx9
      refine awp_len 0 [] (T := t_api_Cond) (l := a1) (by kernel_rfl) fun hl => ?_
      replace h := h hl
      refine awp_spine ?_
      obtain ⟨o4, o5, h⟩ := h
      refine awp_rc tab [0, 1, 5, 8, 9, 11, 12, 13] [] [] [] [(0 : Int) ≤ x3 ∧ x3 < (x9.length : Int), Int.toNat x3 < x9.length] ⟨61, [(0, .d (.sl t_api_Cond) a1), (1, vi a2), (5, .osl 0 0), (8, .ref 1 0 0), (9, .osl 2 0), (11, .d (.sl t_api_Cond) a1), (12, vi (a1.length : Int)), (13, vi x3)], [.row t_ref09_Row x4 0, .box [vi x8.1, vi x8.2.1, .d (.sl (.int .i64)) x8.2.2.1, vi x8.2.2.2], .row (.int .i64) (x9.set (Int.toNat x3) (1 : Int)) 0]⟩ (by kernel_rfl) (AllP.of (o4) (AllP.of (o5) trivial)) ?_
      refine then_n (spine_c ?_)
      refine awp_abs (fun (x10 : (List Int)) => ⟨61, [(0, .d (.sl t_api_Cond) a1), (1, vi a2), (5, .osl 0 0), (8, .ref 1 0 0), (9, .osl 2 0), (11, .d (.sl t_api_Cond) a1), (12, vi (a1.length : Int)), (13, vi x3)], [.row t_ref09_Row x4 0, .box [vi x8.1, vi x8.2.1, .d (.sl (.int .i64)) x8.2.2.1, vi x8.2.2.2], .row (.int .i64) x10 0]⟩) (x9.set (Int.toNat x3) (1 : Int)) ?_
      intro x10 hx10
      replace h := h x10 hx10
      refine awp_gh hk [.freeze 2, .keep [0, 1, 5, 8, 9, 11, 12, 13]] ⟨61, [(0, .d (.sl t_api_Cond) a1), (1, vi a2), (5, .osl 0 0), (8, .ref 1 0 0), (9, .d (.sl (.int .i64)) x10), (11, .d (.sl t_api_Cond) a1), (12, vi (a1.length : Int)), (13, vi x3)], [.row t_ref09_Row x4 0, .box [vi x8.1, vi x8.2.1, .d (.sl (.int .i64)) x8.2.2.1, vi x8.2.2.2], .dead]⟩ (by kernel_rfl) ?_
      obtain ⟨o6, h⟩ := h
      refine awp_rc tab [0, 1, 5, 11, 12, 13] [] [] [8] [1 * 4 ≤ 16777216, (x4.length + [(x8.2.2, x8.1 == (1 : Int), x10)].length) * 64 ≤ 140737488355328 ∧ x4.length + [(x8.2.2, x8.1 == (1 : Int), x10)].length ≤ 9223372036854775807] ⟨61, [(0, .d (.sl t_api_Cond) a1), (1, vi a2), (5, .osl 0 1), (11, .d (.sl t_api_Cond) a1), (12, vi (a1.length : Int)), (13, vi x3)], [.row t_ref09_Row (x4 ++ [(x8.2.2, x8.1 == (1 : Int), x10)]) 1, .box [vi x8.1, vi x8.2.1, .d (.sl (.int .i64)) x8.2.2.1, vi x8.2.2.2], .dead]⟩ (by kernel_rfl) (AllP.of (by decide) (AllP.of (o6) trivial)) ?_
      refine then_n (spine_e (then_n (spine_e (then_n (spine_e (then_n (spine_e (blk_n (then_n (spine_c ?_))))))))))
      refine awp_abs (fun (x11 : (List ref09_Row)) => ⟨61, [(0, .d (.sl t_api_Cond) a1), (1, vi a2), (5, .osl 0 1), (11, .d (.sl t_api_Cond) a1), (12, vi (a1.length : Int)), (13, vi x3)], [.row t_ref09_Row x11 1, .box [vi x8.1, vi x8.2.1, .d (.sl (.int .i64)) x8.2.2.1, vi x8.2.2.2], .dead]⟩) (x4 ++ [(x8.2.2, x8.1 == (1 : Int), x10)]) ?_
      intro x11 hx11
      replace h := h x11 hx11
      obtain ⟨o7, h⟩ := h
      refine awp_rc tab [0, 1, 5, 11, 12, 13] [] [] [] [-9223372036854775808 ≤ x3 + (1 : Int) ∧ x3 + (1 : Int) ≤ 9223372036854775807] ⟨61, [(0, .d (.sl t_api_Cond) a1), (1, vi a2), (5, .osl 0 1), (11, .d (.sl t_api_Cond) a1), (12, vi (a1.length : Int)), (13, vi (x3 + (1 : Int)))], [.row t_ref09_Row x11 1, .box [vi x8.1, vi x8.2.1, .d (.sl (.int .i64)) x8.2.2.1, vi x8.2.2.2], .dead]⟩ (by kernel_rfl) (AllP.of (o7) trivial) ?_
      refine then_n (spine_e (then_n (spine_e (then_n (spine_e (then_n (?_)))))))
      obtain ⟨m, hm, h⟩ := h
      exact ⟨m, hm, ⟨61, [(0, .d (.sl t_api_Cond) a1), (1, vi a2), (5, .osl 0 0), (11, .d (.sl t_api_Cond) a1), (12, vi (a1.length : Int)), (13, vi (x3 + (1 : Int)))], [.row t_ref09_Row x11 0]⟩, wk_ghosts hk (l := [.keep [0, 1, 5, 11, 12, 13], .keep [0, 1, 5, 11, 12, 13], .cut 1, .reset 0, .keep [0, 1, 5, 11, 12, 13]]) (by kernel_rfl), x3 + (1 : Int), x11, h, rfl⟩
  · replace h := h.2 (of_decide_eq_false hb)
    refine awp_exit (then_x (then_x (then_x (blk_h (then_n (spine_c ?_))))))
    refine awp_spine ?_
    obtain ⟨o8, h⟩ := h
    refine awp_rc tab [1, 4, 5] [] [] [] [(0 : Int) ≤ a2 ∧ a2 ≤ a2 ∧ a2 * 24 ≤ 140737488355328 ∧ a2 ≤ 9223372036854775807] ⟨61, [(1, vi a2), (4, .osl 1 0), (5, .osl 0 0)], [.row t_ref09_Row x4 0, .row (.sl t_ref09_Row) (List.replicate (Int.toNat a2) []) 0]⟩ (by kernel_rfl) (AllP.of (o8) trivial) ?_
    refine then_n (spine_c ?_)
    refine awp_abs (fun (x12 : (List (List ref09_Row))) => ⟨61, [(1, vi a2), (4, .osl 1 0), (5, .osl 0 0)], [.row t_ref09_Row x4 0, .row (.sl t_ref09_Row) x12 0]⟩) (List.replicate (Int.toNat a2) []) ?_
    intro x12 hx12
    replace h := h x12 hx12
    refine awp_spine ?_
    obtain ⟨o9, h⟩ := h
    refine awp_rc tab [4, 5, 10] [] [] [] [-9223372036854775808 ≤ a2 - (1 : Int) ∧ a2 - (1 : Int) ≤ 9223372036854775807] ⟨61, [(4, .osl 1 0), (5, .osl 0 0), (10, vi (a2 - (1 : Int)))], [.row t_ref09_Row x4 0, .row (.sl t_ref09_Row) x12 0]⟩ (by kernel_rfl) (AllP.of (o9) trivial) ?_
    refine then_n (spine_c ?_)
    refine awp_block ?_
    obtain ⟨I19, ⟨n19a, hz19⟩, hI19⟩ := h
    refine awp_loopN (fun n s => ∃ (x13 : (List ref09_Row)) (x14 : Int) (x15 : (List (List ref09_Row))), I19 n x13 x14 x15 ∧ s = ⟨61, [(4, .osl 1 0), (5, .d (.sl t_ref09_Row) x13), (10, vi x14)], [.dead, .row (.sl t_ref09_Row) x15 0]⟩) (n := n19a) (s0 := ⟨61, [(4, .osl 1 0), (5, .d (.sl t_ref09_Row) x4), (10, vi (a2 - (1 : Int)))], [.dead, .row (.sl t_ref09_Row) x12 0]⟩) (wk_ghosts hk (l := [.keep [4, 5, 10], .keep [4, 5, 10], .freeze 0, .keep [4, 5, 10], .keep [4, 5, 10]]) (by kernel_rfl)) ⟨x4, a2 - (1 : Int), x12, hz19, rfl⟩ ?_
    rintro n19 s ⟨x13, x14, x15, hx19, rfl⟩
    have h := hI19 n19 x13 x14 x15 hx19
    refine awp_spine ?_
    refine awp_rc tab [4, 5, 10, 43] [] [] [] [] ⟨61, [(4, .osl 1 0), (5, .d (.sl t_ref09_Row) x13), (10, vi x14), (43, vb (decide (x14 ≥ (0 : Int))))], [.dead, .row (.sl t_ref09_Row) x15 0]⟩ (by kernel_rfl) (trivial) ?_
    refine then_n (spine_c ?_)
    refine awp_cond (b := decide (x14 ≥ (0 : Int))) (by kernel_rfl) (fun hb => ?_) (fun hb => ?_)
    · replace h := h.1 (of_decide_eq_true hb)
      refine awp_skip (then_n (spine_c ?_))
      refine awp_spine ?_
      refine awp_block ?_
      refine awp_spine ?_
      obtain ⟨o10, o11, h⟩ := h
      refine awp_rc tab [4, 5, 10] [] [] [] [(0 : Int) ≤ x14 ∧ x14 < (x15.length : Int), Int.toNat x14 < x15.length] ⟨61, [(4, .osl 1 0), (5, .d (.sl t_ref09_Row) x13), (10, vi x14)], [.dead, .row (.sl t_ref09_Row) (x15.set (Int.toNat x14) x13) 0]⟩ (by kernel_rfl) (AllP.of (o10) (AllP.of (o11) trivial)) ?_
      refine then_n (spine_c ?_)
      refine awp_spine ?_
      obtain ⟨o12, h⟩ := h
      refine awp_rc tab [4, 5, 6, 10] [] [(2, .dat (.tup [.d (.sl t_ref09_Row) ((ref09_Eliminate.fn x13 x14).1), vi ((ref09_Eliminate.fn x13 x14).2)]))] [] [OkC prog 58 [.d (.sl t_ref09_Row) x13, vi x14] (.tup [.d (.sl t_ref09_Row) ((ref09_Eliminate.fn x13 x14).1), vi ((ref09_Eliminate.fn x13 x14).2)])] ⟨61, [(4, .osl 1 0), (5, .d (.sl t_ref09_Row) ((ref09_Eliminate.fn x13 x14).1)), (6, vi ((ref09_Eliminate.fn x13 x14).2)), (10, vi x14)], [.dead, .row (.sl t_ref09_Row) (x15.set (Int.toNat x14) x13) 0]⟩ (by kernel_rfl) (AllP.of (ok_ref09_Eliminate x13 x14 (o12)) trivial) ?_
      refine then_n (spine_c ?_)
      refine awp_abs (fun (x20 : (List ref09_Row) × Int) => ⟨61, [(4, .osl 1 0), (5, .d (.sl t_ref09_Row) x20.1), (6, vi x20.2), (10, vi x14)], [.dead, .row (.sl t_ref09_Row) (x15.set (Int.toNat x14) x13) 0]⟩) (ref09_Eliminate.fn x13 x14) ?_
      intro x20 hx20
      replace h := h x20 hx20
      refine awp_spine ?_
      refine awp_rc tab [4, 5, 6, 10, 57] [] [] [] [] ⟨61, [(4, .osl 1 0), (5, .d (.sl t_ref09_Row) x20.1), (6, vi x20.2), (10, vi x14), (57, vb (x20.2 != (0 : Int)))], [.dead, .row (.sl t_ref09_Row) (x15.set (Int.toNat x14) x13) 0]⟩ (by kernel_rfl) (trivial) ?_
      refine then_n (spine_c ?_)
      refine awp_cond (b := x20.2 != (0 : Int)) (by kernel_rfl) (fun hb => ?_) (fun hb => ?_)
      · replace h := h.1 (bne_iff_ne.mp hb)
        refine awp_spine ?_
        refine awp_rc tab [4, 5, 6] [] [] [] [] ⟨61, [(4, .nils), (5, .nils), (6, vi x20.2)], [.dead, .row (.sl t_ref09_Row) (x15.set (Int.toNat x14) x13) 0]⟩ (by kernel_rfl) (trivial) ?_
        refine then_n (spine_c ?_)
        refine awp_ret (then_r (then_r (then_r (then_r (blk_r (then_r (then_r (then_r (blk_r (then_r (then_r (then_r (then_r (?_))))))))))))))
        exact ret_r (m := 0) (r := .tup [.d (.sl (.sl t_ref09_Row)) ((([] : List (List ref09_Row)), ([] : List ref09_Row), x20.2).1), .d (.sl t_ref09_Row) ((([] : List (List ref09_Row)), ([] : List ref09_Row), x20.2).2.1), vi ((([] : List (List ref09_Row)), ([] : List ref09_Row), x20.2).2.2)]) (objs := []) hk [.keep [4, 5, 6], .nilAt 4 [] (.sl t_ref09_Row), .nilAt 5 [] t_ref09_Row, .keep [4, 5, 6]] ⟨61, [(4, .d (.sl (.sl t_ref09_Row)) ([] : List (List ref09_Row))), (5, .d (.sl t_ref09_Row) ([] : List ref09_Row)), (6, vi x20.2)], [.dead, .row (.sl t_ref09_Row) (x15.set (Int.toNat x14) x13) 0]⟩ (by kernel_rfl) (by kernel_rfl) (Nat.le_refl 0) ⟨(([] : List (List ref09_Row)), ([] : List ref09_Row), x20.2), rfl, rfl, h⟩
      · replace h := h.2 (bne_f hb)
        refine awp_skip (then_n (spine_e (then_n (spine_e (then_n (spine_e (blk_n (then_n (spine_c ?_)))))))))
        obtain ⟨o13, h⟩ := h
        refine awp_rc tab [4, 5, 10] [] [] [] [-9223372036854775808 ≤ x14 - (1 : Int) ∧ x14 - (1 : Int) ≤ 9223372036854775807] ⟨61, [(4, .osl 1 0), (5, .d (.sl t_ref09_Row) x20.1), (10, vi (x14 - (1 : Int)))], [.dead, .row (.sl t_ref09_Row) (x15.set (Int.toNat x14) x13) 0]⟩ (by kernel_rfl) (AllP.of (o13) trivial) ?_
        refine then_n (spine_e (then_n (spine_e (then_n (?_)))))
        obtain ⟨m, hm, h⟩ := h
        exact ⟨m, hm, ⟨61, [(4, .osl 1 0), (5, .d (.sl t_ref09_Row) x20.1), (10, vi (x14 - (1 : Int)))], [.dead, .row (.sl t_ref09_Row) (x15.set (Int.toNat x14) x13) 0]⟩, wk_ghosts hk (l := [.keep [4, 5, 10], .keep [4, 5, 10], .keep [4, 5, 10]]) (by kernel_rfl), x20.1, x14 - (1 : Int), x15.set (Int.toNat x14) x13, h, rfl⟩
    · replace h := h.2 (of_decide_eq_false hb)
      refine awp_exit (then_x (then_x (blk_h (then_n (spine_c ?_)))))
      refine awp_spine ?_
      refine awp_rc tab [4, 5, 6] [] [] [] [] ⟨61, [(4, .osl 1 0), (5, .d (.sl t_ref09_Row) x13), (6, vi (0 : Int))], [.dead, .row (.sl t_ref09_Row) x15 0]⟩ (by kernel_rfl) (trivial) ?_
      refine then_n (spine_c ?_)
      refine awp_ret (then_r (then_r (then_r (then_r (then_r (?_))))))
      exact ret_r (m := 0) (r := .tup [.d (.sl (.sl t_ref09_Row)) ((x15, x13, 0).1), .d (.sl t_ref09_Row) ((x15, x13, 0).2.1), vi ((x15, x13, 0).2.2)]) (objs := []) hk [.keep [4, 5, 6], .freeze 1] ⟨61, [(4, .d (.sl (.sl t_ref09_Row)) x15), (5, .d (.sl t_ref09_Row) x13), (6, vi (0 : Int))], [.dead, .dead]⟩ (by kernel_rfl) (by kernel_rfl) (Nat.le_refl 0) ⟨(x15, x13, 0), rfl, rfl, h⟩
theorem ok_ref09_stack (a1 : (List api_Cond)) (a2 : Int) (h : ref09_stack.pre a1 a2) : OkC prog 29 [.d (.sl t_api_Cond) a1, vi a2] (.tup [.d (.sl (.sl t_ref09_Row)) ((ref09_stack.fn a1 a2).1), .d (.sl t_ref09_Row) ((ref09_stack.fn a1 a2).2.1), vi ((ref09_stack.fn a1 a2).2.2)]) :=
  OkC.of call_ref09_stack ((walk_ref09_stack a1 a2 _ (ref09_stack.spec a1 a2 h)).mono fun r o ⟨x, hr, ho, hx⟩ => ⟨by rw [hr, hx], ho⟩) rfl rfl (fun _ => rfl)

noncomputable abbrev Bref09_Prove : Code := bodyOf Try.f12
theorem call_ref09_Prove : CallOk prog 12 := ⟨_, Try.func12, by kernel_rfl, by kernel_rfl⟩
theorem walk_ref09_Prove (a1 : (List api_Cond)) (a2 : Int) (Q : (List Int) × Int → Prop) (h : ref09_Prove.wp a1 a2 Q) : VCalls prog 12 [.d (.sl t_api_Cond) a1, vi a2] [] (fun r o => ∃ x, r = .tup [.d (.sl (.int .i64)) x.1, vi x.2] ∧ o = [] ∧ Q x) := by
  refine vcalls_body tab Try.func12 (c := (spine (subC [0] Bref09_Prove) [(spine (subC [1, 0, 0] Bref09_Prove) [(spine (subC [1, 0, 1, 0] Bref09_Prove) [(.cond (.tmp 16) (spine (subC [1, 0, 1, 1, 0, 0] Bref09_Prove) [.ret]) .skip)]), (spine (subC [1, 1, 0] Bref09_Prove) [(spine (subC [1, 1, 1, 0, 0] Bref09_Prove) [(.cond (.tmp 26) (spine (subC [1, 1, 1, 0, 1, 0, 0] Bref09_Prove) [.ret]) .skip), (spine (subC [1, 1, 1, 1, 0] Bref09_Prove) [(spine (subC [1, 1, 1, 1, 1, 0, 0] Bref09_Prove) [(.cond (.tmp 34) (spine (subC [1, 1, 1, 1, 1, 0, 1, 0, 0] Bref09_Prove) [.ret]) .skip), (spine (subC [1, 1, 1, 1, 1, 1, 0] Bref09_Prove) [.ret])])])])])])])) (by kernel_rfl) (Nat.le_of_ble_eq_true (by kernel_rfl)) fun cx hd hi hk => ?_
  show AWp prog cx _ _ ⟨36, [(0, .d (.sl t_api_Cond) a1), (1, vi a2)], []⟩
  replace hk : cx.E.len = 0 := hk
  unfold ref09_Prove.wp at h
  refine awp_spine ?_
  refine awp_rc tab [0, 1] [] [] [] [] ⟨36, [(0, .d (.sl t_api_Cond) a1), (1, vi a2)], []⟩ (by kernel_rfl) (trivial) ?_
  refine then_n (spine_c ?_)
  refine awp_spine ?_
  refine awp_rc tab [0, 1, 6] [] [(2, .dat (vi (ref09_asked.fn a1 a2)))] [] [OkC prog 28 [.d (.sl t_api_Cond) a1, vi a2] (vi (ref09_asked.fn a1 a2))] ⟨36, [(0, .d (.sl t_api_Cond) a1), (1, vi a2), (6, vi (ref09_asked.fn a1 a2))], []⟩ (by kernel_rfl) (AllP.of (ok_ref09_asked a1 a2) trivial) ?_
  refine then_n (spine_c ?_)
  refine awp_abs (fun (x1 : Int) => ⟨36, [(0, .d (.sl t_api_Cond) a1), (1, vi a2), (6, vi x1)], []⟩) (ref09_asked.fn a1 a2) ?_
  intro x1 hx1
  replace h := h x1 hx1
  refine awp_spine ?_
  refine awp_rc tab [0, 1, 6, 16] [] [] [] [] ⟨36, [(0, .d (.sl t_api_Cond) a1), (1, vi a2), (6, vi x1), (16, vb (x1 != (0 : Int)))], []⟩ (by kernel_rfl) (trivial) ?_
  refine then_n (spine_c ?_)
  refine awp_cond (b := x1 != (0 : Int)) (by kernel_rfl) (fun hb => ?_) (fun hb => ?_)
  · replace h := h.1 (bne_iff_ne.mp hb)
    refine awp_spine ?_
    refine awp_rc tab [4, 5] [] [] [] [] ⟨36, [(4, .nils), (5, vi x1)], []⟩ (by kernel_rfl) (trivial) ?_
    refine then_n (spine_c ?_)
    refine awp_ret (then_r (then_r (then_r (then_r (?_)))))
    exact ret_r (m := 0) (r := .tup [.d (.sl (.int .i64)) ((([] : List Int), x1).1), vi ((([] : List Int), x1).2)]) (objs := []) hk [.keep [4, 5], .nilAt 4 [] (.int .i64), .keep [4, 5]] ⟨36, [(4, .d (.sl (.int .i64)) ([] : List Int)), (5, vi x1)], []⟩ (by kernel_rfl) (by kernel_rfl) (Nat.le_refl 0) ⟨(([] : List Int), x1), rfl, rfl, h⟩
  · replace h := h.2 (bne_f hb)
    refine awp_skip (then_n (spine_e (then_n (spine_c ?_))))
    refine awp_spine ?_
    obtain ⟨o1, h⟩ := h
    refine awp_rc tab [8, 9] [] [(2, .dat (.tup [.d (.sl (.sl t_ref09_Row)) ((ref09_stack.fn a1 a2).1), .d (.sl t_ref09_Row) ((ref09_stack.fn a1 a2).2.1), vi ((ref09_stack.fn a1 a2).2.2)]))] [] [OkC prog 29 [.d (.sl t_api_Cond) a1, vi a2] (.tup [.d (.sl (.sl t_ref09_Row)) ((ref09_stack.fn a1 a2).1), .d (.sl t_ref09_Row) ((ref09_stack.fn a1 a2).2.1), vi ((ref09_stack.fn a1 a2).2.2)])] ⟨36, [(8, .d (.sl t_ref09_Row) ((ref09_stack.fn a1 a2).2.1)), (9, vi ((ref09_stack.fn a1 a2).2.2))], []⟩ (by kernel_rfl) (AllP.of (ok_ref09_stack a1 a2 (o1)) trivial) ?_
    refine then_n (spine_c ?_)
    refine awp_abs (fun (x2 : (List (List ref09_Row)) × (List ref09_Row) × Int) => ⟨36, [(8, .d (.sl t_ref09_Row) x2.2.1), (9, vi x2.2.2)], []⟩) (ref09_stack.fn a1 a2) ?_
    intro x2 hx2
    replace h := h x2 hx2
    refine awp_spine ?_
    refine awp_rc tab [8, 9, 26] [] [] [] [] ⟨36, [(8, .d (.sl t_ref09_Row) x2.2.1), (9, vi x2.2.2), (26, vb (x2.2.2 != (0 : Int)))], []⟩ (by kernel_rfl) (trivial) ?_
    refine then_n (spine_c ?_)
    refine awp_cond (b := x2.2.2 != (0 : Int)) (by kernel_rfl) (fun hb => ?_) (fun hb => ?_)
    · replace h := h.1 (bne_iff_ne.mp hb)
      refine awp_spine ?_
      refine awp_rc tab [4, 5] [] [] [] [] ⟨36, [(4, .nils), (5, vi x2.2.2)], []⟩ (by kernel_rfl) (trivial) ?_
      refine then_n (spine_c ?_)
      refine awp_ret (then_r (then_r (then_r (then_r (then_r (?_))))))
      exact ret_r (m := 0) (r := .tup [.d (.sl (.int .i64)) ((([] : List Int), x2.2.2).1), vi ((([] : List Int), x2.2.2).2)]) (objs := []) hk [.keep [4, 5], .nilAt 4 [] (.int .i64), .keep [4, 5]] ⟨36, [(4, .d (.sl (.int .i64)) ([] : List Int)), (5, vi x2.2.2)], []⟩ (by kernel_rfl) (by kernel_rfl) (Nat.le_refl 0) ⟨(([] : List Int), x2.2.2), rfl, rfl, h⟩
    · replace h := h.2 (bne_f hb)
      refine awp_skip (then_n (spine_c ?_))
      refine awp_spine ?_
      obtain ⟨o2, h⟩ := h
      refine awp_rc tab [10, 11] [] [(1, .dat (.tup [.d (.sl (.int .i64)) ((ref09_refuted.fn x2.2.1).1), vb ((ref09_refuted.fn x2.2.1).2)]))] [] [OkC prog 30 [.d (.sl t_ref09_Row) x2.2.1] (.tup [.d (.sl (.int .i64)) ((ref09_refuted.fn x2.2.1).1), vb ((ref09_refuted.fn x2.2.1).2)])] ⟨36, [(10, .d (.sl (.int .i64)) ((ref09_refuted.fn x2.2.1).1)), (11, vb ((ref09_refuted.fn x2.2.1).2))], []⟩ (by kernel_rfl) (AllP.of (ok_ref09_refuted x2.2.1 (o2)) trivial) ?_
      refine then_n (spine_c ?_)
      refine awp_abs (fun (x3 : (List Int) × Bool) => ⟨36, [(10, .d (.sl (.int .i64)) x3.1), (11, vb x3.2)], []⟩) (ref09_refuted.fn x2.2.1) ?_
      intro x3 hx3
      replace h := h x3 hx3
      refine awp_spine ?_
      refine awp_rc tab [10, 34] [] [] [] [] ⟨36, [(10, .d (.sl (.int .i64)) x3.1), (34, vb (!x3.2))], []⟩ (by kernel_rfl) (trivial) ?_
      refine then_n (spine_c ?_)
      refine awp_cond (b := !x3.2) (by kernel_rfl) (fun hb => ?_) (fun hb => ?_)
      · replace h := h.1 ((nt hb))
        refine awp_spine ?_
        refine awp_rc tab [4, 5] [] [] [] [] ⟨36, [(4, .nils), (5, vi (5 : Int))], []⟩ (by kernel_rfl) (trivial) ?_
        refine then_n (spine_c ?_)
        refine awp_ret (then_r (then_r (then_r (then_r (then_r (then_r (then_r (?_))))))))
        exact ret_r (m := 0) (r := .tup [.d (.sl (.int .i64)) ((([] : List Int), 5).1), vi ((([] : List Int), 5).2)]) (objs := []) hk [.keep [4, 5], .nilAt 4 [] (.int .i64), .keep [4, 5]] ⟨36, [(4, .d (.sl (.int .i64)) ([] : List Int)), (5, vi (5 : Int))], []⟩ (by kernel_rfl) (by kernel_rfl) (Nat.le_refl 0) ⟨(([] : List Int), 5), rfl, rfl, h⟩
      · replace h := h.2 ((nf hb))
        refine awp_skip (then_n (spine_c ?_))
        refine awp_spine ?_
        refine awp_rc tab [4, 5] [] [] [] [] ⟨36, [(4, .d (.sl (.int .i64)) x3.1), (5, vi (0 : Int))], []⟩ (by kernel_rfl) (trivial) ?_
        refine then_n (spine_c ?_)
        refine awp_ret (then_r (then_r (then_r (then_r (then_r (then_r (then_r (?_))))))))
        exact ret_r (m := 0) (r := .tup [.d (.sl (.int .i64)) ((x3.1, 0).1), vi ((x3.1, 0).2)]) (objs := []) hk [.keep [4, 5]] ⟨36, [(4, .d (.sl (.int .i64)) x3.1), (5, vi (0 : Int))], []⟩ (by kernel_rfl) (by kernel_rfl) (Nat.le_refl 0) ⟨(x3.1, 0), rfl, rfl, h⟩
theorem ok_ref09_Prove (a1 : (List api_Cond)) (a2 : Int) : OkC prog 12 [.d (.sl t_api_Cond) a1, vi a2] (.tup [.d (.sl (.int .i64)) ((ref09_Prove.fn a1 a2).1), vi ((ref09_Prove.fn a1 a2).2)]) :=
  OkC.of call_ref09_Prove ((walk_ref09_Prove a1 a2 _ (ref09_Prove.spec a1 a2)).mono fun r o ⟨x, hr, ho, hx⟩ => ⟨by rw [hr, hx], ho⟩) rfl rfl (fun _ => rfl)

noncomputable abbrev Bref09_Empty : Code := bodyOf Try.f19
theorem call_ref09_Empty : CallOk prog 19 := ⟨_, Try.func19, by kernel_rfl, by kernel_rfl⟩
theorem walk_ref09_Empty (a1 : api_Set) (Q : (List (List Int)) × Int → Prop) (h : ref09_Empty.wp a1 Q) : VCalls prog 19 [.agg [vi a1.1, .d (.sl (.sl t_api_Cond)) a1.2]] [] (fun r o => ∃ x, r = .tup [.d (.sl (.sl (.int .i64))) x.1, vi x.2] ∧ o = [] ∧ Q x) := by
  refine vcalls_body tab Try.func19 (c := (spine (subC [0] Bref09_Empty) [(spine (subC [1, 0, 0] Bref09_Empty) [(.cond (.tmp 11) (spine (subC [1, 0, 1, 0, 0] Bref09_Empty) [.ret]) .skip), (spine (subC [1, 1, 0] Bref09_Empty) [(spine (subC [1, 1, 1, 0, 0] Bref09_Empty) [(.block 0 (.loop (spine (subC [1, 1, 1, 0, 1, 0, 0, 0] Bref09_Empty) [(spine (.cond (.tmp 16) .skip (.exit 0)) [(spine (.block 1 (spine (subC [1, 1, 1, 0, 1, 0, 0, 1, 1, 0, 0, 0] Bref09_Empty) [(spine (subC [1, 1, 1, 0, 1, 0, 0, 1, 1, 0, 0, 1, 0] Bref09_Empty) [(spine (subC [1, 1, 1, 0, 1, 0, 0, 1, 1, 0, 0, 1, 1, 0, 0] Bref09_Empty) [(.cond (.tmp 27) (spine (subC [1, 1, 1, 0, 1, 0, 0, 1, 1, 0, 0, 1, 1, 0, 1, 0, 0] Bref09_Empty) [.ret]) .skip), (subC [1, 1, 1, 0, 1, 0, 0, 1, 1, 0, 0, 1, 1, 1] Bref09_Empty)])])])) [(subC [1, 1, 1, 0, 1, 0, 0, 1, 1, 1] Bref09_Empty)])])]))), (spine (subC [1, 1, 1, 1, 0] Bref09_Empty) [.ret])])])])])) (by kernel_rfl) (Nat.le_of_ble_eq_true (by kernel_rfl)) fun cx hd hi hk => ?_
  show AWp prog cx _ _ ⟨35, [(0, .agg [vi a1.1, .d (.sl (.sl t_api_Cond)) a1.2])], []⟩
  replace hk : cx.E.len = 0 := hk
  unfold ref09_Empty.wp at h
  refine awp_spine ?_
  refine awp_rc tab [1] [] [] [0] [] ⟨35, [(1, .er [vi a1.1, .d (.sl (.sl t_api_Cond)) a1.2])], []⟩ (by kernel_rfl) (trivial) ?_
  refine then_n (spine_c ?_)
  refine awp_spine ?_
  refine awp_rc tab [1, 11] [] [(1, .dat (vb (ref04_Valid.fn a1)))] [] [OkC prog 43 [.agg [vi a1.1, .d (.sl (.sl t_api_Cond)) a1.2]] (vb (ref04_Valid.fn a1))] ⟨35, [(1, .er [vi a1.1, .d (.sl (.sl t_api_Cond)) a1.2]), (11, vb (!(ref04_Valid.fn a1)))], []⟩ (by kernel_rfl) (AllP.of (ok_ref04_Valid a1) trivial) ?_
  refine then_n (spine_c ?_)
  refine awp_cond (b := !(ref04_Valid.fn a1)) (by kernel_rfl) (fun hb => ?_) (fun hb => ?_)
  · replace h := h.1 ((nt hb))
    refine awp_spine ?_
    refine awp_rc tab [2, 3] [] [] [] [] ⟨35, [(2, .nils), (3, vi (1 : Int))], []⟩ (by kernel_rfl) (trivial) ?_
    refine then_n (spine_c ?_)
    refine awp_ret (then_r (then_r (then_r (?_))))
    exact ret_r (m := 0) (r := .tup [.d (.sl (.sl (.int .i64))) ((([] : List (List Int)), 1).1), vi ((([] : List (List Int)), 1).2)]) (objs := []) hk [.keep [2, 3], .nilAt 2 [] (.sl (.int .i64)), .keep [2, 3]] ⟨35, [(2, .d (.sl (.sl (.int .i64))) ([] : List (List Int))), (3, vi (1 : Int))], []⟩ (by kernel_rfl) (by kernel_rfl) (Nat.le_refl 0) ⟨(([] : List (List Int)), 1), rfl, rfl, h⟩
  · replace h := h.2 ((nf hb))
    refine awp_skip (then_n (spine_c ?_))
    refine awp_spine ?_
    refine awp_rc tab [1, 4] [] [] [] [] ⟨35, [(1, .er [vi a1.1, .d (.sl (.sl t_api_Cond)) a1.2]), (4, .nils)], []⟩ (by kernel_rfl) (trivial) ?_
    refine then_n (spine_c ?_)
    refine awp_spine ?_
    refine awp_rc tab [1, 4, 13, 14, 15] [] [] [] [] ⟨35, [(1, .er [vi a1.1, .d (.sl (.sl t_api_Cond)) a1.2]), (4, .nils), (13, .d (.sl (.sl t_api_Cond)) a1.2), (14, vi (a1.2.length : Int)), (15, vi (0 : Int))], []⟩ (by kernel_rfl) (trivial) ?_
    refine then_n (spine_c ?_)
    refine awp_len 1 [1] (T := (.sl t_api_Cond)) (l := a1.2) (by kernel_rfl) fun hl => ?_
    replace h := h hl
    refine awp_block ?_
    obtain ⟨I7, ⟨n7a, hz7⟩, hI7⟩ := h
    refine awp_loopN (fun n s => ∃ (x3 : Int) (x4 : (List (List Int))), I7 n x3 x4 ∧ s = ⟨35, [(1, .er [vi a1.1, .d (.sl (.sl t_api_Cond)) a1.2]), (4, .osl 0 0), (13, .d (.sl (.sl t_api_Cond)) a1.2), (14, vi (a1.2.length : Int)), (15, vi x3)], [.row (.sl (.int .i64)) x4 0]⟩) (n := n7a) (s0 := ⟨35, [(1, .er [vi a1.1, .d (.sl (.sl t_api_Cond)) a1.2]), (4, .osl 0 0), (13, .d (.sl (.sl t_api_Cond)) a1.2), (14, vi (a1.2.length : Int)), (15, vi (0 : Int))], [.row (.sl (.int .i64)) ([] : List (List Int)) 0]⟩) (wk_ghosts hk (l := [.keep [1, 4, 13, 14, 15], .adopt 4 (.sl (.int .i64)), .keep [1, 4, 13, 14, 15], .keep [1, 4, 13, 14, 15], .keep [1, 4, 13, 14, 15]]) (by kernel_rfl)) ⟨0, ([] : List (List Int)), hz7, rfl⟩ ?_
    rintro n7 s ⟨x3, x4, hx7, rfl⟩
    have h := hI7 n7 x3 x4 hx7
    refine awp_spine ?_
    refine awp_rc tab [1, 4, 13, 14, 15, 16] [] [] [] [] ⟨35, [(1, .er [vi a1.1, .d (.sl (.sl t_api_Cond)) a1.2]), (4, .osl 0 0), (13, .d (.sl (.sl t_api_Cond)) a1.2), (14, vi (a1.2.length : Int)), (15, vi x3), (16, vb (decide (x3 < (a1.2.length : Int))))], [.row (.sl (.int .i64)) x4 0]⟩ (by kernel_rfl) (trivial) ?_
    refine then_n (spine_c ?_)
    refine awp_spine ?_
    refine awp_cond (b := decide (x3 < (a1.2.length : Int))) (by kernel_rfl) (fun hb => ?_) (fun hb => ?_)
    · replace h := h.1 (of_decide_eq_true hb)
      refine awp_skip (then_n (spine_c ?_))
      refine awp_spine ?_
      refine awp_block ?_
      refine awp_spine ?_
      obtain ⟨o1, h⟩ := h
      refine awp_rc tab [1, 4, 6, 13, 14, 15] [] [] [] [(0 : Int) ≤ x3 ∧ x3 < (a1.2.length : Int)] ⟨35, [(1, .er [vi a1.1, .d (.sl (.sl t_api_Cond)) a1.2]), (4, .osl 0 0), (6, .d (.sl t_api_Cond) (a1.2.getD (Int.toNat x3) [])), (13, .d (.sl (.sl t_api_Cond)) a1.2), (14, vi (a1.2.length : Int)), (15, vi x3)], [.row (.sl (.int .i64)) x4 0]⟩ (by kernel_rfl) (AllP.of (o1) trivial) ?_
      refine then_n (spine_c ?_)
      refine awp_spine ?_
      refine awp_rc tab [1, 4, 7, 8, 13, 14, 15] [] [(3, .dat (.tup [.d (.sl (.int .i64)) ((ref09_Prove.fn (a1.2.getD (Int.toNat x3) []) a1.1).1), vi ((ref09_Prove.fn (a1.2.getD (Int.toNat x3) []) a1.1).2)]))] [] [OkC prog 12 [.d (.sl t_api_Cond) (a1.2.getD (Int.toNat x3) []), vi a1.1] (.tup [.d (.sl (.int .i64)) ((ref09_Prove.fn (a1.2.getD (Int.toNat x3) []) a1.1).1), vi ((ref09_Prove.fn (a1.2.getD (Int.toNat x3) []) a1.1).2)])] ⟨35, [(1, .er [vi a1.1, .d (.sl (.sl t_api_Cond)) a1.2]), (4, .osl 0 0), (7, .d (.sl (.int .i64)) ((ref09_Prove.fn (a1.2.getD (Int.toNat x3) []) a1.1).1)), (8, vi ((ref09_Prove.fn (a1.2.getD (Int.toNat x3) []) a1.1).2)), (13, .d (.sl (.sl t_api_Cond)) a1.2), (14, vi (a1.2.length : Int)), (15, vi x3)], [.row (.sl (.int .i64)) x4 0]⟩ (by kernel_rfl) (AllP.of (ok_ref09_Prove (a1.2.getD (Int.toNat x3) []) a1.1) trivial) ?_
      refine then_n (spine_c ?_)
      refine awp_abs (fun (x8 : (List Int) × Int) => ⟨35, [(1, .er [vi a1.1, .d (.sl (.sl t_api_Cond)) a1.2]), (4, .osl 0 0), (7, .d (.sl (.int .i64)) x8.1), (8, vi x8.2), (13, .d (.sl (.sl t_api_Cond)) a1.2), (14, vi (a1.2.length : Int)), (15, vi x3)], [.row (.sl (.int .i64)) x4 0]⟩) (ref09_Prove.fn (a1.2.getD (Int.toNat x3) []) a1.1) ?_
      intro x8 hx8
      replace h := h x8 hx8
      refine awp_abs (fun (x9 : (List Int)) => ⟨35, [(1, .er [vi a1.1, .d (.sl (.sl t_api_Cond)) a1.2]), (4, .osl 0 0), (7, .d (.sl (.int .i64)) x9), (8, vi x8.2), (13, .d (.sl (.sl t_api_Cond)) a1.2), (14, vi (a1.2.length : Int)), (15, vi x3)], [.row (.sl (.int .i64)) x4 0]⟩) (x8.1) ?_
      intro x9 hx9
      replace h := h x9 hx9
      refine awp_abs (fun (x10 : Int) => ⟨35, [(1, .er [vi a1.1, .d (.sl (.sl t_api_Cond)) a1.2]), (4, .osl 0 0), (7, .d (.sl (.int .i64)) x9), (8, vi x10), (13, .d (.sl (.sl t_api_Cond)) a1.2), (14, vi (a1.2.length : Int)), (15, vi x3)], [.row (.sl (.int .i64)) x4 0]⟩) (x8.2) ?_
      intro x10 hx10
      replace h := h x10 hx10
      refine awp_spine ?_
      refine awp_rc tab [1, 4, 7, 8, 13, 14, 15, 27] [] [] [] [] ⟨35, [(1, .er [vi a1.1, .d (.sl (.sl t_api_Cond)) a1.2]), (4, .osl 0 0), (7, .d (.sl (.int .i64)) x9), (8, vi x10), (13, .d (.sl (.sl t_api_Cond)) a1.2), (14, vi (a1.2.length : Int)), (15, vi x3), (27, vb (x10 != (0 : Int)))], [.row (.sl (.int .i64)) x4 0]⟩ (by kernel_rfl) (trivial) ?_
      refine then_n (spine_c ?_)
      refine awp_cond (b := x10 != (0 : Int)) (by kernel_rfl) (fun hb => ?_) (fun hb => ?_)
      · replace h := h.1 (bne_iff_ne.mp hb)
        refine awp_spine ?_
        refine awp_rc tab [2, 3] [] [] [] [] ⟨35, [(2, .nils), (3, vi x10)], [.row (.sl (.int .i64)) x4 0]⟩ (by kernel_rfl) (trivial) ?_
        refine then_n (spine_c ?_)
        refine awp_ret (then_r (then_r (then_r (then_r (blk_r (then_r (then_r (then_r (then_r (blk_r (then_r (then_r (then_r (then_r (?_)))))))))))))))
        exact ret_r (m := 0) (r := .tup [.d (.sl (.sl (.int .i64))) ((([] : List (List Int)), x10).1), vi ((([] : List (List Int)), x10).2)]) (objs := []) hk [.keep [2, 3], .nilAt 2 [] (.sl (.int .i64)), .keep [2, 3]] ⟨35, [(2, .d (.sl (.sl (.int .i64))) ([] : List (List Int))), (3, vi x10)], [.row (.sl (.int .i64)) x4 0]⟩ (by kernel_rfl) (by kernel_rfl) (Nat.le_refl 0) ⟨(([] : List (List Int)), x10), rfl, rfl, h⟩
      · replace h := h.2 (bne_f hb)
        refine awp_skip (then_n (spine_c ?_))
        obtain ⟨o2, h⟩ := h
        refine awp_rc tab [1, 4, 13, 14, 15] [] [] [2] [1 * 1 ≤ 16777216, (x4.length + [x9].length) * 24 ≤ 140737488355328 ∧ x4.length + [x9].length ≤ 9223372036854775807] ⟨35, [(1, .er [vi a1.1, .d (.sl (.sl t_api_Cond)) a1.2]), (4, .osl 0 1), (13, .d (.sl (.sl t_api_Cond)) a1.2), (14, vi (a1.2.length : Int)), (15, vi x3)], [.row (.sl (.int .i64)) (x4 ++ [x9]) 1]⟩ (by kernel_rfl) (AllP.of (by decide) (AllP.of (o2) trivial)) ?_
        refine then_n (spine_e (then_n (spine_e (then_n (spine_e (blk_n (then_n (spine_c ?_))))))))
        obtain ⟨o3, h⟩ := h
        refine awp_rc tab [1, 4, 13, 14, 15] [] [] [] [-9223372036854775808 ≤ x3 + (1 : Int) ∧ x3 + (1 : Int) ≤ 9223372036854775807] ⟨35, [(1, .er [vi a1.1, .d (.sl (.sl t_api_Cond)) a1.2]), (4, .osl 0 1), (13, .d (.sl (.sl t_api_Cond)) a1.2), (14, vi (a1.2.length : Int)), (15, vi (x3 + (1 : Int)))], [.row (.sl (.int .i64)) (x4 ++ [x9]) 1]⟩ (by kernel_rfl) (AllP.of (o3) trivial) ?_
        refine then_n (spine_e (then_n (spine_e (then_n (spine_e (then_n (?_)))))))
        obtain ⟨m, hm, h⟩ := h
        exact ⟨m, hm, ⟨35, [(1, .er [vi a1.1, .d (.sl (.sl t_api_Cond)) a1.2]), (4, .osl 0 0), (13, .d (.sl (.sl t_api_Cond)) a1.2), (14, vi (a1.2.length : Int)), (15, vi (x3 + (1 : Int)))], [.row (.sl (.int .i64)) (x4 ++ [x9]) 0]⟩, wk_ghosts hk (l := [.keep [1, 4, 13, 14, 15], .keep [1, 4, 13, 14, 15], .reset 0, .keep [1, 4, 13, 14, 15]]) (by kernel_rfl), x3 + (1 : Int), x4 ++ [x9], h, rfl⟩
    · replace h := h.2 (of_decide_eq_false hb)
      refine awp_exit (then_x (then_x (then_x (blk_h (then_n (spine_c ?_))))))
      refine awp_spine ?_
      refine awp_rc tab [2, 3] [] [] [] [] ⟨35, [(2, .osl 0 0), (3, vi (0 : Int))], [.row (.sl (.int .i64)) x4 0]⟩ (by kernel_rfl) (trivial) ?_
      refine then_n (spine_c ?_)
      refine awp_ret (then_r (then_r (then_r (then_r (then_r (?_))))))
      exact ret_r (m := 0) (r := .tup [.d (.sl (.sl (.int .i64))) ((x4, 0).1), vi ((x4, 0).2)]) (objs := []) hk [.keep [2, 3], .freeze 0] ⟨35, [(2, .d (.sl (.sl (.int .i64))) x4), (3, vi (0 : Int))], [.dead]⟩ (by kernel_rfl) (by kernel_rfl) (Nat.le_refl 0) ⟨(x4, 0), rfl, rfl, h⟩
theorem ok_ref09_Empty (a1 : api_Set) : OkC prog 19 [.agg [vi a1.1, .d (.sl (.sl t_api_Cond)) a1.2]] (.tup [.d (.sl (.sl (.int .i64))) ((ref09_Empty.fn a1).1), vi ((ref09_Empty.fn a1).2)]) :=
  OkC.of call_ref09_Empty ((walk_ref09_Empty a1 _ (ref09_Empty.spec a1)).mono fun r o ⟨x, hr, ho, hx⟩ => ⟨by rw [hr, hx], ho⟩) rfl rfl (fun _ => rfl)

noncomputable abbrev Blaw09_FarkasEmpty : Code := bodyOf Try.f5
theorem call_law09_FarkasEmpty : CallOk prog 5 := ⟨_, Try.func5, by kernel_rfl, by kernel_rfl⟩
theorem walk_law09_FarkasEmpty (a1 : api_Set) (Q : Bool → Prop) (h : law09_FarkasEmpty.wp a1 Q) : VCalls prog 5 [.agg [vi a1.1, .d (.sl (.sl t_api_Cond)) a1.2]] [] (fun r o => ∃ x, r = vb x ∧ o = [] ∧ Q x) := by
  refine vcalls_body tab Try.func5 (c := (spine (subC [0] Blaw09_FarkasEmpty) [(spine (subC [1, 0, 0] Blaw09_FarkasEmpty) [(.cond (.tmp 11) (spine (subC [1, 0, 1, 0, 0] Blaw09_FarkasEmpty) [.ret]) .skip), (spine (subC [1, 1, 0] Blaw09_FarkasEmpty) [(spine (subC [1, 1, 1, 0] Blaw09_FarkasEmpty) [(spine (subC [1, 1, 1, 1, 0, 0] Blaw09_FarkasEmpty) [(.cond (.tmp 32) (spine (subC [1, 1, 1, 1, 0, 1, 0, 0] Blaw09_FarkasEmpty) [.ret]) .skip), (spine (subC [1, 1, 1, 1, 1, 0, 0] Blaw09_FarkasEmpty) [(.block 0 (.loop (spine (subC [1, 1, 1, 1, 1, 0, 1, 0, 0, 0] Blaw09_FarkasEmpty) [(spine (.cond (.tmp 36) .skip (.exit 0)) [(spine (.block 1 (spine (subC [1, 1, 1, 1, 1, 0, 1, 0, 0, 1, 1, 0, 0, 0] Blaw09_FarkasEmpty) [(spine (subC [1, 1, 1, 1, 1, 0, 1, 0, 0, 1, 1, 0, 0, 1, 0] Blaw09_FarkasEmpty) [(.cond (.tmp 47) (spine (subC [1, 1, 1, 1, 1, 0, 1, 0, 0, 1, 1, 0, 0, 1, 1, 0, 0] Blaw09_FarkasEmpty) [.ret]) .skip)])])) [(subC [1, 1, 1, 1, 1, 0, 1, 0, 0, 1, 1, 1] Blaw09_FarkasEmpty)])])]))), (spine (subC [1, 1, 1, 1, 1, 1, 0] Blaw09_FarkasEmpty) [.ret])])])])])])])) (by kernel_rfl) (Nat.le_of_ble_eq_true (by kernel_rfl)) fun cx hd hi hk => ?_
  show AWp prog cx _ _ ⟨50, [(0, .agg [vi a1.1, .d (.sl (.sl t_api_Cond)) a1.2])], []⟩
  replace hk : cx.E.len = 0 := hk
  unfold law09_FarkasEmpty.wp at h
  refine awp_spine ?_
  refine awp_rc tab [1] [] [] [0] [] ⟨50, [(1, .er [vi a1.1, .d (.sl (.sl t_api_Cond)) a1.2])], []⟩ (by kernel_rfl) (trivial) ?_
  refine then_n (spine_c ?_)
  refine awp_spine ?_
  obtain ⟨o1, h⟩ := h
  refine awp_rc tab [1, 11] [] [(2, .dat (vb (law04_Few.fn (6 : Int) (10 : Int) [a1])))] [1] [1 * 2 ≤ 16777216, OkC prog 17 [vi (6 : Int), vi (10 : Int), .d (.sl t_api_Set) [a1]] (vb (law04_Few.fn (6 : Int) (10 : Int) [a1]))] ⟨50, [(1, .er [vi a1.1, .d (.sl (.sl t_api_Cond)) a1.2]), (11, vb (!(law04_Few.fn (6 : Int) (10 : Int) [a1])))], []⟩ (by kernel_rfl) (AllP.of (by decide) (AllP.of (ok_law04_Few (6 : Int) (10 : Int) [a1] (o1)) trivial)) ?_
  refine then_n (spine_c ?_)
  refine awp_cond (b := !(law04_Few.fn (6 : Int) (10 : Int) [a1])) (by kernel_rfl) (fun hb => ?_) (fun hb => ?_)
  · replace h := h.1 ((nt hb))
    refine awp_spine ?_
    obtain ⟨o2, h⟩ := h
    refine awp_rc tab [2] [] [(0, .dat (vb law09_awake.fn))] [] [OkC prog 10 [] (vb law09_awake.fn)] ⟨50, [(2, vb law09_awake.fn)], []⟩ (by kernel_rfl) (AllP.of (ok_law09_awake (o2)) trivial) ?_
    refine then_n (spine_c ?_)
    refine awp_ret (then_r (then_r (then_r (?_))))
    exact ret_r (m := 0) (r := vb law09_awake.fn) (objs := []) hk [.keep [2]] ⟨50, [(2, vb law09_awake.fn)], []⟩ (by kernel_rfl) (by kernel_rfl) (Nat.le_refl 0) ⟨law09_awake.fn, rfl, rfl, h⟩
  · replace h := h.2 ((nf hb))
    refine awp_skip (then_n (spine_c ?_))
    refine awp_spine ?_
    refine awp_rc tab [1, 3, 4] [] [(1, .dat (.tup [.d (.sl (.sl (.int .i64))) ((farkas_Empty.fn a1).1), vi ((farkas_Empty.fn a1).2)]))] [] [OkC prog 18 [.agg [vi a1.1, .d (.sl (.sl t_api_Cond)) a1.2]] (.tup [.d (.sl (.sl (.int .i64))) ((farkas_Empty.fn a1).1), vi ((farkas_Empty.fn a1).2)])] ⟨50, [(1, .er [vi a1.1, .d (.sl (.sl t_api_Cond)) a1.2]), (3, .d (.sl (.sl (.int .i64))) ((farkas_Empty.fn a1).1)), (4, vi ((farkas_Empty.fn a1).2))], []⟩ (by kernel_rfl) (AllP.of (ok_farkas_Empty a1) trivial) ?_
    refine then_n (spine_c ?_)
    refine awp_abs (fun (x1 : (List (List Int)) × Int) => ⟨50, [(1, .er [vi a1.1, .d (.sl (.sl t_api_Cond)) a1.2]), (3, .d (.sl (.sl (.int .i64))) x1.1), (4, vi x1.2)], []⟩) (farkas_Empty.fn a1) ?_
    intro x1 hx1
    replace h := h x1 hx1
    refine awp_spine ?_
    refine awp_rc tab [3, 4, 5, 6] [] [(1, .dat (.tup [.d (.sl (.sl (.int .i64))) ((ref09_Empty.fn a1).1), vi ((ref09_Empty.fn a1).2)]))] [] [OkC prog 19 [.agg [vi a1.1, .d (.sl (.sl t_api_Cond)) a1.2]] (.tup [.d (.sl (.sl (.int .i64))) ((ref09_Empty.fn a1).1), vi ((ref09_Empty.fn a1).2)])] ⟨50, [(3, .d (.sl (.sl (.int .i64))) x1.1), (4, vi x1.2), (5, .d (.sl (.sl (.int .i64))) ((ref09_Empty.fn a1).1)), (6, vi ((ref09_Empty.fn a1).2))], []⟩ (by kernel_rfl) (AllP.of (ok_ref09_Empty a1) trivial) ?_
    refine then_n (spine_c ?_)
    refine awp_abs (fun (x2 : (List (List Int)) × Int) => ⟨50, [(3, .d (.sl (.sl (.int .i64))) x1.1), (4, vi x1.2), (5, .d (.sl (.sl (.int .i64))) x2.1), (6, vi x2.2)], []⟩) (ref09_Empty.fn a1) ?_
    intro x2 hx2
    replace h := h x2 hx2
    refine awp_spine ?_
    refine awp_rc tab [3, 5, 32] [] [] [] [(!(x1.2 != x2.2)) = true → (!(x1.2 != x2.2)) = true ∧ True, (!(x1.2 != x2.2)) = true → (!(x1.2 != x2.2)) = true ∧ True, (!(x1.2 != x2.2)) = true → (!(x1.2 != x2.2)) = true ∧ ((!(x1.2 != x2.2)) = true ∧ True), (x1.2 != x2.2) = false → (!(x1.2 != x2.2)) = true] ⟨50, [(3, .d (.sl (.sl (.int .i64))) x1.1), (5, .d (.sl (.sl (.int .i64))) x2.1), (32, vb ((x1.2 != x2.2) || ((x1.1.length : Int) != (x2.1.length : Int))))], []⟩ (by kernel_rfl) (AllP.of (fun hg => ⟨hg, trivial⟩) (AllP.of (fun hg => ⟨hg, trivial⟩) (AllP.of (fun hg => ⟨hg, hg, trivial⟩) (AllP.of (fun hc => not_f hc) trivial)))) ?_
    refine then_n (spine_c ?_)
    refine awp_cond (b := (x1.2 != x2.2) || ((x1.1.length : Int) != (x2.1.length : Int))) (by kernel_rfl) (fun hb => ?_) (fun hb => ?_)
    · replace h := h.1 (hb)
      refine awp_spine ?_
      refine awp_rc tab [2] [] [] [] [] ⟨50, [(2, vb false)], []⟩ (by kernel_rfl) (trivial) ?_
      refine then_n (spine_c ?_)
      refine awp_ret (then_r (then_r (then_r (then_r (then_r (then_r (?_)))))))
      exact ret_r (m := 0) (r := vb false) (objs := []) hk [.keep [2]] ⟨50, [(2, vb false)], []⟩ (by kernel_rfl) (by kernel_rfl) (Nat.le_refl 0) ⟨false, rfl, rfl, h⟩
    · replace h := h.2 (hb)
      refine awp_skip (then_n (spine_c ?_))
      refine awp_spine ?_
      refine awp_rc tab [3, 5, 34, 35] [] [] [] [] ⟨50, [(3, .d (.sl (.sl (.int .i64))) x1.1), (5, .d (.sl (.sl (.int .i64))) x2.1), (34, vi (x1.1.length : Int)), (35, vi (0 : Int))], []⟩ (by kernel_rfl) (trivial) ?_
      refine then_n (spine_c ?_)
      refine awp_len 3 [] (T := (.sl (.int .i64))) (l := x1.1) (by kernel_rfl) fun hl => ?_
      replace h := h hl
      refine awp_block ?_
      obtain ⟨I6, ⟨n6a, hz6⟩, hI6⟩ := h
      refine awp_loopN (fun n s => ∃ (x4 : Int), I6 n x4 ∧ s = ⟨50, [(3, .d (.sl (.sl (.int .i64))) x1.1), (5, .d (.sl (.sl (.int .i64))) x2.1), (34, vi (x1.1.length : Int)), (35, vi x4)], []⟩) (n := n6a) (s0 := ⟨50, [(3, .d (.sl (.sl (.int .i64))) x1.1), (5, .d (.sl (.sl (.int .i64))) x2.1), (34, vi (x1.1.length : Int)), (35, vi (0 : Int))], []⟩) (wk_ghosts hk (l := [.keep [3, 5, 34, 35], .keep [3, 5, 34, 35], .keep [3, 5, 34, 35], .keep [3, 5, 34, 35]]) (by kernel_rfl)) ⟨0, hz6, rfl⟩ ?_
      rintro n6 s ⟨x4, hx6, rfl⟩
      have h := hI6 n6 x4 hx6
      refine awp_spine ?_
      refine awp_rc tab [3, 5, 34, 35, 36] [] [] [] [] ⟨50, [(3, .d (.sl (.sl (.int .i64))) x1.1), (5, .d (.sl (.sl (.int .i64))) x2.1), (34, vi (x1.1.length : Int)), (35, vi x4), (36, vb (decide (x4 < (x1.1.length : Int))))], []⟩ (by kernel_rfl) (trivial) ?_
      refine then_n (spine_c ?_)
      refine awp_spine ?_
      refine awp_cond (b := decide (x4 < (x1.1.length : Int))) (by kernel_rfl) (fun hb => ?_) (fun hb => ?_)
      · replace h := h.1 (of_decide_eq_true hb)
        refine awp_skip (then_n (spine_c ?_))
        refine awp_spine ?_
        refine awp_block ?_
        refine awp_spine ?_
        refine awp_rc tab [3, 5, 7, 34, 35] [] [] [] [] ⟨50, [(3, .d (.sl (.sl (.int .i64))) x1.1), (5, .d (.sl (.sl (.int .i64))) x2.1), (7, vi x4), (34, vi (x1.1.length : Int)), (35, vi x4)], []⟩ (by kernel_rfl) (trivial) ?_
        refine then_n (spine_c ?_)
        refine awp_spine ?_
        obtain ⟨o3, o4, h⟩ := h
        refine awp_dr tab mixed [3, 5, 34, 35, 47] [] [(8, .dat (vb (law09_list.fn (x1.1.getD (Int.toNat x4) []) (x2.1.getD (Int.toNat x4) []))))] [] ⟨[[], [], [0, 1], [0, 1, 2], [], [], [4, 5], [4, 5, 6], [0, 1, 2, 3, 4, 5, 6, 7], [0, 1, 2, 3, 4, 5, 6, 7, 8]], [.d (.sl (.sl (.int .i64))) x1.1, vi x4, .er [.d (.sl (.int .i64)) (x1.1.getD (Int.toNat x4) [])], .d (.sl (.int .i64)) (x1.1.getD (Int.toNat x4) []), .d (.sl (.sl (.int .i64))) x2.1, vi x4, .er [.d (.sl (.int .i64)) (x2.1.getD (Int.toNat x4) [])], .d (.sl (.int .i64)) (x2.1.getD (Int.toNat x4) []), vb (law09_list.fn (x1.1.getD (Int.toNat x4) []) (x2.1.getD (Int.toNat x4) [])), vb (!(law09_list.fn (x1.1.getD (Int.toNat x4) []) (x2.1.getD (Int.toNat x4) [])))], [none, none, some ((0 : Int) ≤ x4 ∧ x4 < (x1.1.length : Int)), none, none, none, some ((0 : Int) ≤ x4 ∧ x4 < (x2.1.length : Int)), none, some (OkC prog 15 [.d (.sl (.int .i64)) (x1.1.getD (Int.toNat x4) []), .d (.sl (.int .i64)) (x2.1.getD (Int.toNat x4) [])] (vb (law09_list.fn (x1.1.getD (Int.toNat x4) []) (x2.1.getD (Int.toNat x4) [])))), none], [], [([], [])]⟩ ⟨50, [(3, .d (.sl (.sl (.int .i64))) x1.1), (5, .d (.sl (.sl (.int .i64))) x2.1), (34, vi (x1.1.length : Int)), (35, vi x4), (47, vb (!(law09_list.fn (x1.1.getD (Int.toNat x4) []) (x2.1.getD (Int.toNat x4) []))))], []⟩ (by kernel_rfl) (AllO.n (AllO.n (AllO.s (o3) (AllO.n (AllO.n (AllO.n (AllO.s (o4) (AllO.n (AllO.s (ok_law09_list (x1.1.getD (Int.toNat x4) []) (x2.1.getD (Int.toNat x4) [])) (AllO.n (AllO.e))))))))))) ?_
        refine then_n (spine_c ?_)
        refine awp_cond (b := !(law09_list.fn (x1.1.getD (Int.toNat x4) []) (x2.1.getD (Int.toNat x4) []))) (by kernel_rfl) (fun hb => ?_) (fun hb => ?_)
        · replace h := h.1 ((nt hb))
          refine awp_spine ?_
          refine awp_rc tab [2] [] [] [] [] ⟨50, [(2, vb false)], []⟩ (by kernel_rfl) (trivial) ?_
          refine then_n (spine_c ?_)
          refine awp_ret (then_r (then_r (then_r (blk_r (then_r (then_r (then_r (then_r (blk_r (then_r (then_r (then_r (then_r (then_r (then_r (?_))))))))))))))))
          exact ret_r (m := 0) (r := vb false) (objs := []) hk [.keep [2]] ⟨50, [(2, vb false)], []⟩ (by kernel_rfl) (by kernel_rfl) (Nat.le_refl 0) ⟨false, rfl, rfl, h⟩
        · replace h := h.2 ((nf hb))
          refine awp_skip (then_n (spine_e (then_n (spine_e (blk_n (then_n (spine_c ?_)))))))
          obtain ⟨o5, h⟩ := h
          refine awp_rc tab [3, 5, 34, 35] [] [] [] [-9223372036854775808 ≤ x4 + (1 : Int) ∧ x4 + (1 : Int) ≤ 9223372036854775807] ⟨50, [(3, .d (.sl (.sl (.int .i64))) x1.1), (5, .d (.sl (.sl (.int .i64))) x2.1), (34, vi (x1.1.length : Int)), (35, vi (x4 + (1 : Int)))], []⟩ (by kernel_rfl) (AllP.of (o5) trivial) ?_
          refine then_n (spine_e (then_n (spine_e (then_n (spine_e (then_n (?_)))))))
          obtain ⟨m, hm, h⟩ := h
          exact ⟨m, hm, ⟨50, [(3, .d (.sl (.sl (.int .i64))) x1.1), (5, .d (.sl (.sl (.int .i64))) x2.1), (34, vi (x1.1.length : Int)), (35, vi (x4 + (1 : Int)))], []⟩, wk_ghosts hk (l := [.keep [3, 5, 34, 35], .keep [3, 5, 34, 35], .keep [3, 5, 34, 35]]) (by kernel_rfl), x4 + (1 : Int), h, rfl⟩
      · replace h := h.2 (of_decide_eq_false hb)
        refine awp_exit (then_x (then_x (then_x (blk_h (then_n (spine_c ?_))))))
        refine awp_spine ?_
        obtain ⟨o6, h⟩ := h
        refine awp_rc tab [2] [] [(0, .dat (vb law09_awake.fn))] [] [OkC prog 10 [] (vb law09_awake.fn)] ⟨50, [(2, vb law09_awake.fn)], []⟩ (by kernel_rfl) (AllP.of (ok_law09_awake (o6)) trivial) ?_
        refine then_n (spine_c ?_)
        refine awp_ret (then_r (then_r (then_r (then_r (then_r (then_r (then_r (?_))))))))
        exact ret_r (m := 0) (r := vb law09_awake.fn) (objs := []) hk [.keep [2]] ⟨50, [(2, vb law09_awake.fn)], []⟩ (by kernel_rfl) (by kernel_rfl) (Nat.le_refl 0) ⟨law09_awake.fn, rfl, rfl, h⟩
theorem ok_law09_FarkasEmpty (a1 : api_Set) (h : law09_FarkasEmpty.pre a1) : OkC prog 5 [.agg [vi a1.1, .d (.sl (.sl t_api_Cond)) a1.2]] (vb (law09_FarkasEmpty.fn a1)) :=
  OkC.of call_law09_FarkasEmpty ((walk_law09_FarkasEmpty a1 _ (law09_FarkasEmpty.spec a1 h)).mono fun r o ⟨x, hr, ho, hx⟩ => ⟨by rw [hr, hx], ho⟩) rfl rfl (fun _ => rfl)

end Go.Proofs.Ytlncingakpelbaa
