/- Part of a proof that a law of the program holds for every input: printed by a program of this work. No conditions. -/
import Derived.Test.YtlncingakpelbaaK5
namespace Go.Proofs.Ytlncingakpelbaa
open Go
set_option linter.unusedVariables false
set_option maxHeartbeats 4000000

noncomputable abbrev Bfarkas_point_with : Code := bodyOf Try.f32
theorem call_farkas_point_with : CallOk prog 32 := ⟨_, Try.func32, by kernel_rfl, by kernel_rfl⟩
theorem walk_farkas_point_with (a1 : farkas_point) (a2 : farkas_fraction) (Q : farkas_point × Int → Prop) (h : farkas_point_with.wp a1 a2 Q) : VCalls prog 32 [.agg [.d (.sl (.int .i64)) a1.1, vi a1.2], .agg [vi a2.1, vi a2.2]] [] (fun r o => ∃ x, r = .tup [.agg [.d (.sl (.int .i64)) x.1.1, vi x.1.2], vi x.2] ∧ o = [] ∧ Q x) := by
  refine vcalls_body tab Try.func32 (c := (spine (subC [0] Bfarkas_point_with) [(spine (subC [1, 0] Bfarkas_point_with) [(spine (subC [1, 1, 0] Bfarkas_point_with) [(spine (subC [1, 1, 1, 0] Bfarkas_point_with) [(spine (subC [1, 1, 1, 1, 0] Bfarkas_point_with) [(spine (subC [1, 1, 1, 1, 1, 0, 0] Bfarkas_point_with) [(.cond (.tmp 60) (spine (subC [1, 1, 1, 1, 1, 0, 1, 0, 0] Bfarkas_point_with) [.ret]) .skip), (spine (subC [1, 1, 1, 1, 1, 1, 0] Bfarkas_point_with) [(spine (subC [1, 1, 1, 1, 1, 1, 1, 0] Bfarkas_point_with) [(spine (subC [1, 1, 1, 1, 1, 1, 1, 1, 0] Bfarkas_point_with) [(spine (subC [1, 1, 1, 1, 1, 1, 1, 1, 1, 0, 0] Bfarkas_point_with) [(.cond (.tmp 80) (spine (subC [1, 1, 1, 1, 1, 1, 1, 1, 1, 0, 1, 0, 0] Bfarkas_point_with) [.ret]) .skip), (spine (subC [1, 1, 1, 1, 1, 1, 1, 1, 1, 1, 0] Bfarkas_point_with) [(spine (subC [1, 1, 1, 1, 1, 1, 1, 1, 1, 1, 1, 0, 0] Bfarkas_point_with) [(.block 0 (.loop (spine (subC [1, 1, 1, 1, 1, 1, 1, 1, 1, 1, 1, 0, 1, 0, 0, 0] Bfarkas_point_with) [(spine (.cond (.tmp 88) .skip (.exit 0)) [(spine (.block 1 (spine (subC [1, 1, 1, 1, 1, 1, 1, 1, 1, 1, 1, 0, 1, 0, 0, 1, 1, 0, 0, 0] Bfarkas_point_with) [(subC [1, 1, 1, 1, 1, 1, 1, 1, 1, 1, 1, 0, 1, 0, 0, 1, 1, 0, 0, 1] Bfarkas_point_with)])) [(subC [1, 1, 1, 1, 1, 1, 1, 1, 1, 1, 1, 0, 1, 0, 0, 1, 1, 1] Bfarkas_point_with)])])]))), (spine (subC [1, 1, 1, 1, 1, 1, 1, 1, 1, 1, 1, 1, 0, 0] Bfarkas_point_with) [(.cond (.tmp 108) (spine (subC [1, 1, 1, 1, 1, 1, 1, 1, 1, 1, 1, 1, 0, 1, 0, 0] Bfarkas_point_with) [.ret]) .skip), (spine (subC [1, 1, 1, 1, 1, 1, 1, 1, 1, 1, 1, 1, 1, 0] Bfarkas_point_with) [(spine (subC [1, 1, 1, 1, 1, 1, 1, 1, 1, 1, 1, 1, 1, 1, 0, 0] Bfarkas_point_with) [(.block 2 (.loop (spine (subC [1, 1, 1, 1, 1, 1, 1, 1, 1, 1, 1, 1, 1, 1, 0, 1, 0, 0, 0] Bfarkas_point_with) [(spine (.cond (.tmp 124) .skip (.exit 2)) [(spine (.block 3 (spine (subC [1, 1, 1, 1, 1, 1, 1, 1, 1, 1, 1, 1, 1, 1, 0, 1, 0, 0, 1, 1, 0, 0, 0] Bfarkas_point_with) [(spine (subC [1, 1, 1, 1, 1, 1, 1, 1, 1, 1, 1, 1, 1, 1, 0, 1, 0, 0, 1, 1, 0, 0, 1, 0] Bfarkas_point_with) [(.cond (.tmp 132) (spine (subC [1, 1, 1, 1, 1, 1, 1, 1, 1, 1, 1, 1, 1, 1, 0, 1, 0, 0, 1, 1, 0, 0, 1, 1, 0, 0] Bfarkas_point_with) [.ret]) .skip)])])) [(subC [1, 1, 1, 1, 1, 1, 1, 1, 1, 1, 1, 1, 1, 1, 0, 1, 0, 0, 1, 1, 1] Bfarkas_point_with)])])]))), (spine (subC [1, 1, 1, 1, 1, 1, 1, 1, 1, 1, 1, 1, 1, 1, 1, 0] Bfarkas_point_with) [.ret])])])])])])])])])])])])])])])])) (by kernel_rfl) (Nat.le_of_ble_eq_true (by kernel_rfl)) fun cx hd hi hk => ?_
  show AWp prog cx _ _ ⟨136, [(0, .agg [.d (.sl (.int .i64)) a1.1, vi a1.2]), (1, .agg [vi a2.1, vi a2.2])], []⟩
  replace hk : cx.E.len = 0 := hk
  unfold farkas_point_with.wp at h
  refine awp_spine ?_
  refine awp_rc tab [2, 3, 4] [] [] [0, 1] [] ⟨136, [(2, .er [.d (.sl (.int .i64)) a1.1, vi a1.2]), (3, .er [vi a2.1, vi a2.2]), (4, .ref 0 0 0)], [.box [.nils, vi (0 : Int)]]⟩ (by kernel_rfl) (trivial) ?_
  refine then_n (spine_c ?_)
  refine awp_spine ?_
  obtain ⟨o1, h⟩ := h
  refine awp_rc tab [2, 3, 4, 6] [] [(5, .dat (.tup [vi ((num_Gcd.fn [a2.1, a2.2]).1), vi ((num_Gcd.fn [a2.1, a2.2]).2)]))] [4] [2 * 1 ≤ 16777216, OkC prog 59 [.d (.sl (.int .i64)) [a2.1, a2.2]] (.tup [vi ((num_Gcd.fn [a2.1, a2.2]).1), vi ((num_Gcd.fn [a2.1, a2.2]).2)])] ⟨136, [(2, .er [.d (.sl (.int .i64)) a1.1, vi a1.2]), (3, .er [vi a2.1, vi a2.2]), (4, .ref 0 0 0), (6, vi ((num_Gcd.fn [a2.1, a2.2]).1))], [.box [.nils, vi (0 : Int)]]⟩ (by kernel_rfl) (AllP.of (by decide) (AllP.of (ok_num_Gcd [a2.1, a2.2] (o1)) trivial)) ?_
  refine then_n (spine_c ?_)
  refine awp_abs (fun (x1 : Int × Int) => ⟨136, [(2, .er [.d (.sl (.int .i64)) a1.1, vi a1.2]), (3, .er [vi a2.1, vi a2.2]), (4, .ref 0 0 0), (6, vi x1.1)], [.box [.nils, vi (0 : Int)]]⟩) (num_Gcd.fn [a2.1, a2.2]) ?_
  intro x1 hx1
  replace h := h x1 hx1
  refine awp_spine ?_
  obtain ⟨o2, o3, h⟩ := h
  refine awp_dr tab mixed [2, 4, 8, 9] [] [] [] ⟨[[], [0], [], [0, 1, 2], [], [4], [], [4, 5, 6], [0, 1, 2, 3], [0, 1, 2, 3, 4, 5, 6, 7, 8]], [.er [vi a2.1, vi a2.2], vi a2.1, vi x1.1, vi (Int.tdiv a2.1 x1.1), .er [vi a2.2], vi a2.2, vi x1.1, vi (Int.tdiv a2.2 x1.1), vi (Int.tdiv a2.1 x1.1), vi (Int.tdiv a2.2 x1.1)], [none, none, none, some (x1.1 ≠ 0 ∧ -9223372036854775808 ≤ Int.tdiv a2.1 x1.1 ∧ Int.tdiv a2.1 x1.1 ≤ 9223372036854775807), none, none, none, some (x1.1 ≠ 0 ∧ -9223372036854775808 ≤ Int.tdiv a2.2 x1.1 ∧ Int.tdiv a2.2 x1.1 ≤ 9223372036854775807), none, none], [], [([], [.box [.nils, vi (0 : Int)]])]⟩ ⟨136, [(2, .er [.d (.sl (.int .i64)) a1.1, vi a1.2]), (4, .ref 0 0 0), (8, vi (Int.tdiv a2.1 x1.1)), (9, vi (Int.tdiv a2.2 x1.1))], [.box [.nils, vi (0 : Int)]]⟩ (by kernel_rfl) (AllO.n (AllO.n (AllO.n (AllO.s (o2) (AllO.n (AllO.n (AllO.n (AllO.s (o3) (AllO.n (AllO.n (AllO.e))))))))))) ?_
  refine then_n (spine_c ?_)
  refine awp_spine ?_
  obtain ⟨o4, h⟩ := h
  refine awp_rc tab [2, 4, 8, 9, 10] [] [(4, .dat (.tup [vi ((num_Gcd.fn [Int.tdiv a2.1 x1.1, a1.2]).1), vi ((num_Gcd.fn [Int.tdiv a2.1 x1.1, a1.2]).2)]))] [3] [2 * 1 ≤ 16777216, OkC prog 59 [.d (.sl (.int .i64)) [Int.tdiv a2.1 x1.1, a1.2]] (.tup [vi ((num_Gcd.fn [Int.tdiv a2.1 x1.1, a1.2]).1), vi ((num_Gcd.fn [Int.tdiv a2.1 x1.1, a1.2]).2)])] ⟨136, [(2, .er [.d (.sl (.int .i64)) a1.1, vi a1.2]), (4, .ref 0 0 0), (8, vi (Int.tdiv a2.1 x1.1)), (9, vi (Int.tdiv a2.2 x1.1)), (10, vi ((num_Gcd.fn [Int.tdiv a2.1 x1.1, a1.2]).1))], [.box [.nils, vi (0 : Int)]]⟩ (by kernel_rfl) (AllP.of (by decide) (AllP.of (ok_num_Gcd [Int.tdiv a2.1 x1.1, a1.2] (o4)) trivial)) ?_
  refine then_n (spine_c ?_)
  refine awp_abs (fun (x2 : Int × Int) => ⟨136, [(2, .er [.d (.sl (.int .i64)) a1.1, vi a1.2]), (4, .ref 0 0 0), (8, vi (Int.tdiv a2.1 x1.1)), (9, vi (Int.tdiv a2.2 x1.1)), (10, vi x2.1)], [.box [.nils, vi (0 : Int)]]⟩) (num_Gcd.fn [Int.tdiv a2.1 x1.1, a1.2]) ?_
  intro x2 hx2
  replace h := h x2 hx2
  refine awp_abs (fun (x3 : Int) => ⟨136, [(2, .er [.d (.sl (.int .i64)) a1.1, vi a1.2]), (4, .ref 0 0 0), (8, vi (Int.tdiv a2.1 x1.1)), (9, vi (Int.tdiv a2.2 x1.1)), (10, vi x3)], [.box [.nils, vi (0 : Int)]]⟩) (x2.1) ?_
  intro x3 hx3
  replace h := h x3 hx3
  refine awp_spine ?_
  obtain ⟨o5, o6, h⟩ := h
  refine awp_dr tab mixed [2, 4, 8, 9, 12] [] [] [] ⟨[[], [], [0, 1], [], [3], [], [3, 4, 5], [0, 1, 2], [0, 1, 2, 3, 4, 5, 6, 7]], [vi (Int.tdiv a2.1 x1.1), vi x3, vi (Int.tdiv (Int.tdiv a2.1 x1.1) x3), .er [vi a1.2], vi a1.2, vi x3, vi (Int.tdiv a1.2 x3), vi (Int.tdiv (Int.tdiv a2.1 x1.1) x3), vi (Int.tdiv a1.2 x3)], [none, none, some (x3 ≠ 0 ∧ -9223372036854775808 ≤ Int.tdiv (Int.tdiv a2.1 x1.1) x3 ∧ Int.tdiv (Int.tdiv a2.1 x1.1) x3 ≤ 9223372036854775807), none, none, none, some (x3 ≠ 0 ∧ -9223372036854775808 ≤ Int.tdiv a1.2 x3 ∧ Int.tdiv a1.2 x3 ≤ 9223372036854775807), none, none], [], [([], [.box [.nils, vi (0 : Int)]])]⟩ ⟨136, [(2, .er [.d (.sl (.int .i64)) a1.1, vi a1.2]), (4, .ref 0 0 0), (8, vi (Int.tdiv (Int.tdiv a2.1 x1.1) x3)), (9, vi (Int.tdiv a2.2 x1.1)), (12, vi (Int.tdiv a1.2 x3))], [.box [.nils, vi (0 : Int)]]⟩ (by kernel_rfl) (AllO.n (AllO.n (AllO.s (o5) (AllO.n (AllO.n (AllO.n (AllO.s (o6) (AllO.n (AllO.n (AllO.e)))))))))) ?_
  refine then_n (spine_c ?_)
  refine awp_abs (fun (x4 : Int) => ⟨136, [(2, .er [.d (.sl (.int .i64)) a1.1, vi a1.2]), (4, .ref 0 0 0), (8, vi x4), (9, vi (Int.tdiv a2.2 x1.1)), (12, vi (Int.tdiv a1.2 x3))], [.box [.nils, vi (0 : Int)]]⟩) (Int.tdiv (Int.tdiv a2.1 x1.1) x3) ?_
  intro x4 hx4
  replace h := h x4 hx4
  refine awp_spine ?_
  obtain ⟨o7, h⟩ := h
  refine awp_rc tab [2, 4, 8, 9, 12, 60] [] [] [] [(!(decide ((Int.tdiv a2.2 x1.1) > (268435456 : Int)))) = true → (!(decide ((Int.tdiv a2.2 x1.1) > (268435456 : Int)))) = true ∧ ((!(decide ((Int.tdiv a2.2 x1.1) > (268435456 : Int)))) = true ∧ (-9223372036854775808 ≤ (Int.tdiv a1.2 x3) * (Int.tdiv a2.2 x1.1) ∧ (Int.tdiv a1.2 x3) * (Int.tdiv a2.2 x1.1) ≤ 9223372036854775807)), (!(decide ((Int.tdiv a2.2 x1.1) > (268435456 : Int)))) = true → (!(decide ((Int.tdiv a2.2 x1.1) > (268435456 : Int)))) = true ∧ True, (decide ((Int.tdiv a2.2 x1.1) > (268435456 : Int))) = false → (!(decide ((Int.tdiv a2.2 x1.1) > (268435456 : Int)))) = true] ⟨136, [(2, .er [.d (.sl (.int .i64)) a1.1, vi a1.2]), (4, .ref 0 0 0), (8, vi x4), (9, vi (Int.tdiv a2.2 x1.1)), (12, vi (Int.tdiv a1.2 x3)), (60, vb ((decide ((Int.tdiv a2.2 x1.1) > (268435456 : Int))) || (decide (((Int.tdiv a1.2 x3) * (Int.tdiv a2.2 x1.1)) > (268435456 : Int)))))], [.box [.nils, vi (0 : Int)]]⟩ (by kernel_rfl) (AllP.of (fun hg => ⟨hg, hg, (o7 hg)⟩) (AllP.of (fun hg => ⟨hg, trivial⟩) (AllP.of (fun hc => not_f hc) trivial))) ?_
  refine then_n (spine_c ?_)
  refine awp_cond (b := (decide ((Int.tdiv a2.2 x1.1) > (268435456 : Int))) || (decide (((Int.tdiv a1.2 x3) * (Int.tdiv a2.2 x1.1)) > (268435456 : Int)))) (by kernel_rfl) (fun hb => ?_) (fun hb => ?_)
  · replace h := h.1 (hb)
    refine awp_spine ?_
    refine awp_rc tab [4, 5] [] [] [] [] ⟨136, [(4, .ref 0 0 0), (5, vi (3 : Int))], [.box [.nils, vi (0 : Int)]]⟩ (by kernel_rfl) (trivial) ?_
    refine then_n (spine_c ?_)
    refine awp_ret (then_r (then_r (then_r (then_r (then_r (then_r (then_r (?_))))))))
    exact ret_r (m := 0) (r := .tup [.agg [.d (.sl (.int .i64)) ((((([] : List Int), 0), 3).1).1), vi ((((([] : List Int), 0), 3).1).2)], vi (((([] : List Int), 0), 3).2)]) (objs := []) hk [.keep [4, 5], .nilBox 0 [0] (.int .i64), .keep [4, 5]] ⟨136, [(4, .ref 0 0 0), (5, vi (3 : Int))], [.box [.d (.sl (.int .i64)) ([] : List Int), vi (0 : Int)]]⟩ (by kernel_rfl) (by kernel_rfl) (Nat.le_refl 0) ⟨((([] : List Int), 0), 3), rfl, rfl, h⟩
  · replace h := h.2 (hb)
    refine awp_skip (then_n (spine_c ?_))
    refine awp_spine ?_
    obtain ⟨o8, h⟩ := h
    refine awp_rc tab [2, 4, 8, 12] [] [] [] [-9223372036854775808 ≤ (Int.tdiv a1.2 x3) * (Int.tdiv a2.2 x1.1) ∧ (Int.tdiv a1.2 x3) * (Int.tdiv a2.2 x1.1) ≤ 9223372036854775807] ⟨136, [(2, .er [.d (.sl (.int .i64)) a1.1, vi a1.2]), (4, .ref 0 0 0), (8, vi x4), (12, vi ((Int.tdiv a1.2 x3) * (Int.tdiv a2.2 x1.1)))], [.box [.nils, vi (0 : Int)]]⟩ (by kernel_rfl) (AllP.of (o8) trivial) ?_
    refine then_n (spine_c ?_)
    refine awp_abs (fun (x5 : Int) => ⟨136, [(2, .er [.d (.sl (.int .i64)) a1.1, vi a1.2]), (4, .ref 0 0 0), (8, vi x4), (12, vi x5)], [.box [.nils, vi (0 : Int)]]⟩) ((Int.tdiv a1.2 x3) * (Int.tdiv a2.2 x1.1)) ?_
    intro x5 hx5
    replace h := h x5 hx5
    refine awp_spine ?_
    obtain ⟨o9, h⟩ := h
    refine awp_rc tab [2, 4, 8, 12, 13] [] [(4, .dat (.tup [vi ((num_Gcd.fn [x5, a1.2]).1), vi ((num_Gcd.fn [x5, a1.2]).2)]))] [3] [2 * 1 ≤ 16777216, OkC prog 59 [.d (.sl (.int .i64)) [x5, a1.2]] (.tup [vi ((num_Gcd.fn [x5, a1.2]).1), vi ((num_Gcd.fn [x5, a1.2]).2)])] ⟨136, [(2, .er [.d (.sl (.int .i64)) a1.1, vi a1.2]), (4, .ref 0 0 0), (8, vi x4), (12, vi x5), (13, vi ((num_Gcd.fn [x5, a1.2]).1))], [.box [.nils, vi (0 : Int)]]⟩ (by kernel_rfl) (AllP.of (by decide) (AllP.of (ok_num_Gcd [x5, a1.2] (o9)) trivial)) ?_
    refine then_n (spine_c ?_)
    refine awp_abs (fun (x6 : Int × Int) => ⟨136, [(2, .er [.d (.sl (.int .i64)) a1.1, vi a1.2]), (4, .ref 0 0 0), (8, vi x4), (12, vi x5), (13, vi x6.1)], [.box [.nils, vi (0 : Int)]]⟩) (num_Gcd.fn [x5, a1.2]) ?_
    intro x6 hx6
    replace h := h x6 hx6
    refine awp_spine ?_
    obtain ⟨o10, o11, h⟩ := h
    refine awp_rc tab [2, 4, 8, 12, 15] [] [] [] [x6.1 ≠ 0 ∧ -9223372036854775808 ≤ Int.tdiv a1.2 x6.1 ∧ Int.tdiv a1.2 x6.1 ≤ 9223372036854775807, -9223372036854775808 ≤ (Int.tdiv a1.2 x6.1) * x5 ∧ (Int.tdiv a1.2 x6.1) * x5 ≤ 9223372036854775807] ⟨136, [(2, .er [.d (.sl (.int .i64)) a1.1, vi a1.2]), (4, .ref 0 0 0), (8, vi x4), (12, vi x5), (15, vi ((Int.tdiv a1.2 x6.1) * x5))], [.box [.nils, vi (0 : Int)]]⟩ (by kernel_rfl) (AllP.of (o10) (AllP.of (o11) trivial)) ?_
    refine then_n (spine_c ?_)
    refine awp_spine ?_
    refine awp_rc tab [2, 4, 8, 12, 15, 80] [] [] [] [] ⟨136, [(2, .er [.d (.sl (.int .i64)) a1.1, vi a1.2]), (4, .ref 0 0 0), (8, vi x4), (12, vi x5), (15, vi ((Int.tdiv a1.2 x6.1) * x5)), (80, vb (decide (((Int.tdiv a1.2 x6.1) * x5) > (268435456 : Int))))], [.box [.nils, vi (0 : Int)]]⟩ (by kernel_rfl) (trivial) ?_
    refine then_n (spine_c ?_)
    refine awp_cond (b := decide (((Int.tdiv a1.2 x6.1) * x5) > (268435456 : Int))) (by kernel_rfl) (fun hb => ?_) (fun hb => ?_)
    · replace h := h.1 (of_decide_eq_true hb)
      refine awp_spine ?_
      refine awp_rc tab [4, 5] [] [] [] [] ⟨136, [(4, .ref 0 0 0), (5, vi (3 : Int))], [.box [.nils, vi (0 : Int)]]⟩ (by kernel_rfl) (trivial) ?_
      refine then_n (spine_c ?_)
      refine awp_ret (then_r (then_r (then_r (then_r (then_r (then_r (then_r (then_r (then_r (then_r (then_r (?_))))))))))))
      exact ret_r (m := 0) (r := .tup [.agg [.d (.sl (.int .i64)) ((((([] : List Int), 0), 3).1).1), vi ((((([] : List Int), 0), 3).1).2)], vi (((([] : List Int), 0), 3).2)]) (objs := []) hk [.keep [4, 5], .nilBox 0 [0] (.int .i64), .keep [4, 5]] ⟨136, [(4, .ref 0 0 0), (5, vi (3 : Int))], [.box [.d (.sl (.int .i64)) ([] : List Int), vi (0 : Int)]]⟩ (by kernel_rfl) (by kernel_rfl) (Nat.le_refl 0) ⟨((([] : List Int), 0), 3), rfl, rfl, h⟩
    · replace h := h.2 (of_decide_eq_false hb)
      refine awp_skip (then_n (spine_c ?_))
      refine awp_spine ?_
      refine awp_rc tab [2, 4, 8, 12, 15, 16] [] [] [] [] ⟨136, [(2, .er [.d (.sl (.int .i64)) a1.1, vi a1.2]), (4, .ref 0 0 0), (8, vi x4), (12, vi x5), (15, vi ((Int.tdiv a1.2 x6.1) * x5)), (16, .ref 1 0 0)], [.box [.nils, vi (0 : Int)], .box [.nils, vi ((Int.tdiv a1.2 x6.1) * x5)]]⟩ (by kernel_rfl) (trivial) ?_
      refine then_n (spine_c ?_)
      refine awp_spine ?_
      refine awp_rc tab [2, 4, 8, 12, 15, 16, 85, 86, 87] [] [] [] [] ⟨136, [(2, .er [.d (.sl (.int .i64)) a1.1, vi a1.2]), (4, .ref 0 0 0), (8, vi x4), (12, vi x5), (15, vi ((Int.tdiv a1.2 x6.1) * x5)), (16, .ref 1 0 0), (85, .d (.sl (.int .i64)) a1.1), (86, vi (a1.1.length : Int)), (87, vi (0 : Int))], [.box [.nils, vi (0 : Int)], .box [.nils, vi ((Int.tdiv a1.2 x6.1) * x5)]]⟩ (by kernel_rfl) (trivial) ?_
      refine then_n (spine_c ?_)
      refine awp_len 2 [0] (T := (.int .i64)) (l := a1.1) (by kernel_rfl) fun hl => ?_
      replace h := h hl
      refine awp_block ?_
      obtain ⟨I13, ⟨n13a, hz13⟩, hI13⟩ := h
      refine awp_loopN (fun n s => ∃ (x9 : Int) (x10 : (List Int)), I13 n x9 x10 ∧ s = ⟨136, [(2, .er [.d (.sl (.int .i64)) a1.1, vi a1.2]), (4, .ref 0 0 0), (8, vi x4), (12, vi x5), (15, vi ((Int.tdiv a1.2 x6.1) * x5)), (16, .ref 1 0 0), (85, .d (.sl (.int .i64)) a1.1), (86, vi (a1.1.length : Int)), (87, vi x9)], [.box [.nils, vi (0 : Int)], .box [.osl 2 0, vi ((Int.tdiv a1.2 x6.1) * x5)], .row (.int .i64) x10 0]⟩) (n := n13a) (s0 := ⟨136, [(2, .er [.d (.sl (.int .i64)) a1.1, vi a1.2]), (4, .ref 0 0 0), (8, vi x4), (12, vi x5), (15, vi ((Int.tdiv a1.2 x6.1) * x5)), (16, .ref 1 0 0), (85, .d (.sl (.int .i64)) a1.1), (86, vi (a1.1.length : Int)), (87, vi (0 : Int))], [.box [.nils, vi (0 : Int)], .box [.osl 2 0, vi ((Int.tdiv a1.2 x6.1) * x5)], .row (.int .i64) ([] : List Int) 0]⟩) (wk_ghosts hk (l := [.keep [2, 4, 8, 12, 15, 16, 85, 86, 87], .adoptBox 1 0 (.int .i64), .keep [2, 4, 8, 12, 15, 16, 85, 86, 87], .keep [2, 4, 8, 12, 15, 16, 85, 86, 87], .keep [2, 4, 8, 12, 15, 16, 85, 86, 87]]) (by kernel_rfl)) ⟨0, ([] : List Int), hz13, rfl⟩ ?_
      rintro n13 s ⟨x9, x10, hx13, rfl⟩
      have h := hI13 n13 x9 x10 hx13
      refine awp_spine ?_
      refine awp_rc tab [2, 4, 8, 12, 15, 16, 85, 86, 87, 88] [] [] [] [] ⟨136, [(2, .er [.d (.sl (.int .i64)) a1.1, vi a1.2]), (4, .ref 0 0 0), (8, vi x4), (12, vi x5), (15, vi ((Int.tdiv a1.2 x6.1) * x5)), (16, .ref 1 0 0), (85, .d (.sl (.int .i64)) a1.1), (86, vi (a1.1.length : Int)), (87, vi x9), (88, vb (decide (x9 < (a1.1.length : Int))))], [.box [.nils, vi (0 : Int)], .box [.osl 2 0, vi ((Int.tdiv a1.2 x6.1) * x5)], .row (.int .i64) x10 0]⟩ (by kernel_rfl) (trivial) ?_
      refine then_n (spine_c ?_)
      refine awp_spine ?_
      refine awp_cond (b := decide (x9 < (a1.1.length : Int))) (by kernel_rfl) (fun hb => ?_) (fun hb => ?_)
      · replace h := h.1 (of_decide_eq_true hb)
        refine awp_skip (then_n (spine_c ?_))
        refine awp_spine ?_
        refine awp_block ?_
        refine awp_spine ?_
        obtain ⟨o12, h⟩ := h
        refine awp_rc tab [2, 4, 8, 12, 15, 16, 18, 85, 86, 87] [] [] [] [(0 : Int) ≤ x9 ∧ x9 < (a1.1.length : Int)] ⟨136, [(2, .er [.d (.sl (.int .i64)) a1.1, vi a1.2]), (4, .ref 0 0 0), (8, vi x4), (12, vi x5), (15, vi ((Int.tdiv a1.2 x6.1) * x5)), (16, .ref 1 0 0), (18, vi (gI a1.1 x9)), (85, .d (.sl (.int .i64)) a1.1), (86, vi (a1.1.length : Int)), (87, vi x9)], [.box [.nils, vi (0 : Int)], .box [.osl 2 0, vi ((Int.tdiv a1.2 x6.1) * x5)], .row (.int .i64) x10 0]⟩ (by kernel_rfl) (AllP.of (o12) trivial) ?_
        refine then_n (spine_c ?_)
        obtain ⟨o13, o14, o15, h⟩ := h
        refine awp_dr tab mixed [2, 4, 8, 12, 15, 16, 85, 86, 87] [] [] [8] ⟨[[], [0], [], [], [], [4], [3, 4, 5], [2, 3, 4, 5, 6], [2, 3, 4, 5, 6, 7], [0, 1, 2, 3, 4, 5, 6, 7, 8], [0, 1, 2, 3, 4, 5, 6, 7, 8, 9], [0, 1, 2, 3, 4, 5, 6, 7, 8, 9, 10]], [.ref 1 0 0, .osl 2 0, vi (gI a1.1 x9), vi ((Int.tdiv a1.2 x6.1) * x5), .er [vi a1.2], vi a1.2, vi (Int.tdiv ((Int.tdiv a1.2 x6.1) * x5) a1.2), vi ((gI a1.1 x9) * (Int.tdiv ((Int.tdiv a1.2 x6.1) * x5) a1.2)), .d (.sl (.int .i64)) [(gI a1.1 x9) * (Int.tdiv ((Int.tdiv a1.2 x6.1) * x5) a1.2)], .osl 2 1, .ref 1 0 0, .tup []], [none, none, none, none, none, none, some (a1.2 ≠ 0 ∧ -9223372036854775808 ≤ Int.tdiv ((Int.tdiv a1.2 x6.1) * x5) a1.2 ∧ Int.tdiv ((Int.tdiv a1.2 x6.1) * x5) a1.2 ≤ 9223372036854775807), some (-9223372036854775808 ≤ (gI a1.1 x9) * (Int.tdiv ((Int.tdiv a1.2 x6.1) * x5) a1.2) ∧ (gI a1.1 x9) * (Int.tdiv ((Int.tdiv a1.2 x6.1) * x5) a1.2) ≤ 9223372036854775807), some (1 * 1 ≤ 16777216), some ((x10.length + [(gI a1.1 x9) * (Int.tdiv ((Int.tdiv a1.2 x6.1) * x5) a1.2)].length) * 8 ≤ 140737488355328 ∧ x10.length + [(gI a1.1 x9) * (Int.tdiv ((Int.tdiv a1.2 x6.1) * x5) a1.2)].length ≤ 9223372036854775807), none, none], [9, 11], [([], [.box [.nils, vi (0 : Int)], .box [.osl 2 0, vi ((Int.tdiv a1.2 x6.1) * x5)], .row (.int .i64) x10 0]), ([9], [.box [.nils, vi (0 : Int)], .box [.osl 2 0, vi ((Int.tdiv a1.2 x6.1) * x5)], .row (.int .i64) (x10 ++ [(gI a1.1 x9) * (Int.tdiv ((Int.tdiv a1.2 x6.1) * x5) a1.2)]) 1]), ([9, 11], [.box [.nils, vi (0 : Int)], .box [.osl 2 1, vi ((Int.tdiv a1.2 x6.1) * x5)], .row (.int .i64) (x10 ++ [(gI a1.1 x9) * (Int.tdiv ((Int.tdiv a1.2 x6.1) * x5) a1.2)]) 1])]⟩ ⟨136, [(2, .er [.d (.sl (.int .i64)) a1.1, vi a1.2]), (4, .ref 0 0 0), (8, vi x4), (12, vi x5), (15, vi ((Int.tdiv a1.2 x6.1) * x5)), (16, .ref 1 0 0), (85, .d (.sl (.int .i64)) a1.1), (86, vi (a1.1.length : Int)), (87, vi x9)], [.box [.nils, vi (0 : Int)], .box [.osl 2 1, vi ((Int.tdiv a1.2 x6.1) * x5)], .row (.int .i64) (x10 ++ [(gI a1.1 x9) * (Int.tdiv ((Int.tdiv a1.2 x6.1) * x5) a1.2)]) 1]⟩ (by kernel_rfl) (AllO.n (AllO.n (AllO.n (AllO.n (AllO.n (AllO.n (AllO.s (o13) (AllO.s (o14) (AllO.s (by decide) (AllO.s (o15) (AllO.n (AllO.n (AllO.e))))))))))))) ?_
        refine then_n (spine_e (blk_n (then_n (spine_c ?_))))
        refine awp_abs (fun (x14 : (List Int)) => ⟨136, [(2, .er [.d (.sl (.int .i64)) a1.1, vi a1.2]), (4, .ref 0 0 0), (8, vi x4), (12, vi x5), (15, vi ((Int.tdiv a1.2 x6.1) * x5)), (16, .ref 1 0 0), (85, .d (.sl (.int .i64)) a1.1), (86, vi (a1.1.length : Int)), (87, vi x9)], [.box [.nils, vi (0 : Int)], .box [.osl 2 1, vi ((Int.tdiv a1.2 x6.1) * x5)], .row (.int .i64) x14 1]⟩) (x10 ++ [(gI a1.1 x9) * (Int.tdiv ((Int.tdiv a1.2 x6.1) * x5) a1.2)]) ?_
        intro x14 hx14
        replace h := h x14 hx14
        obtain ⟨o16, h⟩ := h
        refine awp_rc tab [2, 4, 8, 12, 15, 16, 85, 86, 87] [] [] [] [-9223372036854775808 ≤ x9 + (1 : Int) ∧ x9 + (1 : Int) ≤ 9223372036854775807] ⟨136, [(2, .er [.d (.sl (.int .i64)) a1.1, vi a1.2]), (4, .ref 0 0 0), (8, vi x4), (12, vi x5), (15, vi ((Int.tdiv a1.2 x6.1) * x5)), (16, .ref 1 0 0), (85, .d (.sl (.int .i64)) a1.1), (86, vi (a1.1.length : Int)), (87, vi (x9 + (1 : Int)))], [.box [.nils, vi (0 : Int)], .box [.osl 2 1, vi ((Int.tdiv a1.2 x6.1) * x5)], .row (.int .i64) x14 1]⟩ (by kernel_rfl) (AllP.of (o16) trivial) ?_
        refine then_n (spine_e (then_n (spine_e (then_n (spine_e (then_n (?_)))))))
        obtain ⟨m, hm, h⟩ := h
        exact ⟨m, hm, ⟨136, [(2, .er [.d (.sl (.int .i64)) a1.1, vi a1.2]), (4, .ref 0 0 0), (8, vi x4), (12, vi x5), (15, vi ((Int.tdiv a1.2 x6.1) * x5)), (16, .ref 1 0 0), (85, .d (.sl (.int .i64)) a1.1), (86, vi (a1.1.length : Int)), (87, vi (x9 + (1 : Int)))], [.box [.nils, vi (0 : Int)], .box [.osl 2 0, vi ((Int.tdiv a1.2 x6.1) * x5)], .row (.int .i64) x14 0]⟩, wk_ghosts hk (l := [.keep [2, 4, 8, 12, 15, 16, 85, 86, 87], .keep [2, 4, 8, 12, 15, 16, 85, 86, 87], .reset 2, .keep [2, 4, 8, 12, 15, 16, 85, 86, 87]]) (by kernel_rfl), x9 + (1 : Int), x14, h, rfl⟩
      · replace h := h.2 (of_decide_eq_false hb)
        refine awp_exit (then_x (then_x (then_x (blk_h (then_n (spine_c ?_))))))
        refine awp_spine ?_
        refine awp_rc tab [4, 8, 12, 15, 16, 108] [] [] [] [(!(decide (x4 > (268435456 : Int)))) = true → (!(decide (x4 > (268435456 : Int)))) = true ∧ True, (decide (x4 > (268435456 : Int))) = false → (!(decide (x4 > (268435456 : Int)))) = true] ⟨136, [(4, .ref 0 0 0), (8, vi x4), (12, vi x5), (15, vi ((Int.tdiv a1.2 x6.1) * x5)), (16, .ref 1 0 0), (108, vb ((decide (x4 > (268435456 : Int))) || (decide (x4 < (-268435456)))))], [.box [.nils, vi (0 : Int)], .box [.osl 2 0, vi ((Int.tdiv a1.2 x6.1) * x5)], .row (.int .i64) x10 0]⟩ (by kernel_rfl) (AllP.of (fun hg => ⟨hg, trivial⟩) (AllP.of (fun hc => not_f hc) trivial)) ?_
        refine then_n (spine_c ?_)
        refine awp_cond (b := (decide (x4 > (268435456 : Int))) || (decide (x4 < (-268435456)))) (by kernel_rfl) (fun hb => ?_) (fun hb => ?_)
        · replace h := h.1 (hb)
          refine awp_spine ?_
          refine awp_rc tab [4, 5] [] [] [] [] ⟨136, [(4, .ref 0 0 0), (5, vi (3 : Int))], [.box [.nils, vi (0 : Int)], .box [.osl 2 0, vi ((Int.tdiv a1.2 x6.1) * x5)], .row (.int .i64) x10 0]⟩ (by kernel_rfl) (trivial) ?_
          refine then_n (spine_c ?_)
          refine awp_ret (then_r (then_r (then_r (then_r (then_r (then_r (then_r (then_r (then_r (then_r (then_r (then_r (then_r (then_r (?_)))))))))))))))
          exact ret_r (m := 0) (r := .tup [.agg [.d (.sl (.int .i64)) ((((([] : List Int), 0), 3).1).1), vi ((((([] : List Int), 0), 3).1).2)], vi (((([] : List Int), 0), 3).2)]) (objs := []) hk [.keep [4, 5], .nilBox 0 [0] (.int .i64), .keep [4, 5]] ⟨136, [(4, .ref 0 0 0), (5, vi (3 : Int))], [.box [.d (.sl (.int .i64)) ([] : List Int), vi (0 : Int)], .box [.osl 2 0, vi ((Int.tdiv a1.2 x6.1) * x5)], .row (.int .i64) x10 0]⟩ (by kernel_rfl) (by kernel_rfl) (Nat.le_refl 0) ⟨((([] : List Int), 0), 3), rfl, rfl, h⟩
        · replace h := h.2 (hb)
          refine awp_skip (then_n (spine_c ?_))
          refine awp_spine ?_
          obtain ⟨o17, o18, o19, h⟩ := h
          refine awp_dr tab mixed [4, 16] [] [] [7] ⟨[[], [0], [], [], [], [3, 4], [2, 3, 4, 5], [2, 3, 4, 5, 6], [0, 1, 2, 3, 4, 5, 6, 7], [0, 1, 2, 3, 4, 5, 6, 7, 8], [0, 1, 2, 3, 4, 5, 6, 7, 8, 9]], [.ref 1 0 0, .osl 2 0, vi x4, vi ((Int.tdiv a1.2 x6.1) * x5), vi x5, vi (Int.tdiv ((Int.tdiv a1.2 x6.1) * x5) x5), vi (x4 * (Int.tdiv ((Int.tdiv a1.2 x6.1) * x5) x5)), .d (.sl (.int .i64)) [x4 * (Int.tdiv ((Int.tdiv a1.2 x6.1) * x5) x5)], .osl 2 1, .ref 1 0 0, .tup []], [none, none, none, none, none, some (x5 ≠ 0 ∧ -9223372036854775808 ≤ Int.tdiv ((Int.tdiv a1.2 x6.1) * x5) x5 ∧ Int.tdiv ((Int.tdiv a1.2 x6.1) * x5) x5 ≤ 9223372036854775807), some (-9223372036854775808 ≤ x4 * (Int.tdiv ((Int.tdiv a1.2 x6.1) * x5) x5) ∧ x4 * (Int.tdiv ((Int.tdiv a1.2 x6.1) * x5) x5) ≤ 9223372036854775807), some (1 * 1 ≤ 16777216), some ((x10.length + [x4 * (Int.tdiv ((Int.tdiv a1.2 x6.1) * x5) x5)].length) * 8 ≤ 140737488355328 ∧ x10.length + [x4 * (Int.tdiv ((Int.tdiv a1.2 x6.1) * x5) x5)].length ≤ 9223372036854775807), none, none], [8, 10], [([], [.box [.nils, vi (0 : Int)], .box [.osl 2 0, vi ((Int.tdiv a1.2 x6.1) * x5)], .row (.int .i64) x10 0]), ([8], [.box [.nils, vi (0 : Int)], .box [.osl 2 0, vi ((Int.tdiv a1.2 x6.1) * x5)], .row (.int .i64) (x10 ++ [x4 * (Int.tdiv ((Int.tdiv a1.2 x6.1) * x5) x5)]) 1]), ([8, 10], [.box [.nils, vi (0 : Int)], .box [.osl 2 1, vi ((Int.tdiv a1.2 x6.1) * x5)], .row (.int .i64) (x10 ++ [x4 * (Int.tdiv ((Int.tdiv a1.2 x6.1) * x5) x5)]) 1])]⟩ ⟨136, [(4, .ref 0 0 0), (16, .ref 1 0 0)], [.box [.nils, vi (0 : Int)], .box [.osl 2 1, vi ((Int.tdiv a1.2 x6.1) * x5)], .row (.int .i64) (x10 ++ [x4 * (Int.tdiv ((Int.tdiv a1.2 x6.1) * x5) x5)]) 1]⟩ (by kernel_rfl) (AllO.n (AllO.n (AllO.n (AllO.n (AllO.n (AllO.s (o17) (AllO.s (o18) (AllO.s (by decide) (AllO.s (o19) (AllO.n (AllO.n (AllO.e)))))))))))) ?_
          refine then_n (spine_c ?_)
          refine awp_abs (fun (x15 : (List Int)) => ⟨136, [(4, .ref 0 0 0), (16, .ref 1 0 0)], [.box [.nils, vi (0 : Int)], .box [.osl 2 1, vi ((Int.tdiv a1.2 x6.1) * x5)], .row (.int .i64) x15 1]⟩) (x10 ++ [x4 * (Int.tdiv ((Int.tdiv a1.2 x6.1) * x5) x5)]) ?_
          intro x15 hx15
          replace h := h x15 hx15
          refine awp_spine ?_
          refine awp_rc tab [4, 16, 121, 122, 123] [] [] [] [] ⟨136, [(4, .ref 0 0 0), (16, .ref 1 0 0), (121, .osl 2 1), (122, vi (x15.length : Int)), (123, vi (0 : Int))], [.box [.nils, vi (0 : Int)], .box [.osl 2 1, vi ((Int.tdiv a1.2 x6.1) * x5)], .row (.int .i64) x15 1]⟩ (by kernel_rfl) (trivial) ?_
          refine then_n (spine_c ?_)
          refine awp_block ?_
          obtain ⟨I19, ⟨n19a, hz19⟩, hI19⟩ := h
          refine awp_loopN (fun n s => ∃ (x17 : Int), I19 n x17 ∧ s = ⟨136, [(4, .ref 0 0 0), (16, .ref 1 0 0), (121, .osl 2 0), (122, vi (x15.length : Int)), (123, vi x17)], [.box [.nils, vi (0 : Int)], .box [.osl 2 0, vi ((Int.tdiv a1.2 x6.1) * x5)], .row (.int .i64) x15 0]⟩) (n := n19a) (s0 := ⟨136, [(4, .ref 0 0 0), (16, .ref 1 0 0), (121, .osl 2 0), (122, vi (x15.length : Int)), (123, vi (0 : Int))], [.box [.nils, vi (0 : Int)], .box [.osl 2 0, vi ((Int.tdiv a1.2 x6.1) * x5)], .row (.int .i64) x15 0]⟩) (wk_ghosts hk (l := [.keep [4, 16, 121, 122, 123], .keep [4, 16, 121, 122, 123], .keep [4, 16, 121, 122, 123], .reset 2, .keep [4, 16, 121, 122, 123]]) (by kernel_rfl)) ⟨0, hz19, rfl⟩ ?_
          rintro n19 s ⟨x17, hx19, rfl⟩
          have h := hI19 n19 x17 hx19
          refine awp_spine ?_
          refine awp_rc tab [4, 16, 121, 122, 123, 124] [] [] [] [] ⟨136, [(4, .ref 0 0 0), (16, .ref 1 0 0), (121, .osl 2 0), (122, vi (x15.length : Int)), (123, vi x17), (124, vb (decide (x17 < (x15.length : Int))))], [.box [.nils, vi (0 : Int)], .box [.osl 2 0, vi ((Int.tdiv a1.2 x6.1) * x5)], .row (.int .i64) x15 0]⟩ (by kernel_rfl) (trivial) ?_
          refine then_n (spine_c ?_)
          refine awp_spine ?_
          refine awp_cond (b := decide (x17 < (x15.length : Int))) (by kernel_rfl) (fun hb => ?_) (fun hb => ?_)
          · replace h := h.1 (of_decide_eq_true hb)
            refine awp_skip (then_n (spine_c ?_))
            refine awp_spine ?_
            refine awp_block ?_
            refine awp_spine ?_
            obtain ⟨o20, o21, h⟩ := h
            refine awp_rc tab [4, 16, 20, 121, 122, 123] [] [] [] [(0 : Int) ≤ x17 ∧ x17 < (x15.length : Int), Int.toNat x17 < x15.length] ⟨136, [(4, .ref 0 0 0), (16, .ref 1 0 0), (20, vi (x15.getD (Int.toNat x17) (0 : Int))), (121, .osl 2 0), (122, vi (x15.length : Int)), (123, vi x17)], [.box [.nils, vi (0 : Int)], .box [.osl 2 0, vi ((Int.tdiv a1.2 x6.1) * x5)], .row (.int .i64) x15 0]⟩ (by kernel_rfl) (AllP.of (o20) (AllP.of (o21) trivial)) ?_
            refine then_n (spine_c ?_)
            refine awp_abs (fun (x20 : Int) => ⟨136, [(4, .ref 0 0 0), (16, .ref 1 0 0), (20, vi x20), (121, .osl 2 0), (122, vi (x15.length : Int)), (123, vi x17)], [.box [.nils, vi (0 : Int)], .box [.osl 2 0, vi ((Int.tdiv a1.2 x6.1) * x5)], .row (.int .i64) x15 0]⟩) ((x15.getD (Int.toNat x17) (0 : Int))) ?_
            intro x20 hx20
            replace h := h x20 hx20
            refine awp_spine ?_
            refine awp_rc tab [4, 16, 121, 122, 123, 132] [] [] [] [(!(decide (x20 > (268435456 : Int)))) = true → (!(decide (x20 > (268435456 : Int)))) = true ∧ True, (decide (x20 > (268435456 : Int))) = false → (!(decide (x20 > (268435456 : Int)))) = true] ⟨136, [(4, .ref 0 0 0), (16, .ref 1 0 0), (121, .osl 2 0), (122, vi (x15.length : Int)), (123, vi x17), (132, vb ((decide (x20 > (268435456 : Int))) || (decide (x20 < (-268435456)))))], [.box [.nils, vi (0 : Int)], .box [.osl 2 0, vi ((Int.tdiv a1.2 x6.1) * x5)], .row (.int .i64) x15 0]⟩ (by kernel_rfl) (AllP.of (fun hg => ⟨hg, trivial⟩) (AllP.of (fun hc => not_f hc) trivial)) ?_
            refine then_n (spine_c ?_)
            refine awp_cond (b := (decide (x20 > (268435456 : Int))) || (decide (x20 < (-268435456)))) (by kernel_rfl) (fun hb => ?_) (fun hb => ?_)
            · replace h := h.1 (hb)
              refine awp_spine ?_
              refine awp_rc tab [4, 5] [] [] [] [] ⟨136, [(4, .ref 0 0 0), (5, vi (3 : Int))], [.box [.nils, vi (0 : Int)], .box [.osl 2 0, vi ((Int.tdiv a1.2 x6.1) * x5)], .row (.int .i64) x15 0]⟩ (by kernel_rfl) (trivial) ?_
              refine then_n (spine_c ?_)
              refine awp_ret (then_r (then_r (then_r (blk_r (then_r (then_r (then_r (then_r (blk_r (then_r (then_r (then_r (then_r (then_r (then_r (then_r (then_r (then_r (then_r (then_r (then_r (then_r (then_r (then_r (?_)))))))))))))))))))))))))
              exact ret_r (m := 0) (r := .tup [.agg [.d (.sl (.int .i64)) ((((([] : List Int), 0), 3).1).1), vi ((((([] : List Int), 0), 3).1).2)], vi (((([] : List Int), 0), 3).2)]) (objs := []) hk [.keep [4, 5], .nilBox 0 [0] (.int .i64), .keep [4, 5]] ⟨136, [(4, .ref 0 0 0), (5, vi (3 : Int))], [.box [.d (.sl (.int .i64)) ([] : List Int), vi (0 : Int)], .box [.osl 2 0, vi ((Int.tdiv a1.2 x6.1) * x5)], .row (.int .i64) x15 0]⟩ (by kernel_rfl) (by kernel_rfl) (Nat.le_refl 0) ⟨((([] : List Int), 0), 3), rfl, rfl, h⟩
            · replace h := h.2 (hb)
              refine awp_skip (then_n (spine_e (then_n (spine_e (blk_n (then_n (spine_c ?_)))))))
              obtain ⟨o22, h⟩ := h
              refine awp_rc tab [4, 16, 121, 122, 123] [] [] [] [-9223372036854775808 ≤ x17 + (1 : Int) ∧ x17 + (1 : Int) ≤ 9223372036854775807] ⟨136, [(4, .ref 0 0 0), (16, .ref 1 0 0), (121, .osl 2 0), (122, vi (x15.length : Int)), (123, vi (x17 + (1 : Int)))], [.box [.nils, vi (0 : Int)], .box [.osl 2 0, vi ((Int.tdiv a1.2 x6.1) * x5)], .row (.int .i64) x15 0]⟩ (by kernel_rfl) (AllP.of (o22) trivial) ?_
              refine then_n (spine_e (then_n (spine_e (then_n (spine_e (then_n (?_)))))))
              obtain ⟨m, hm, h⟩ := h
              exact ⟨m, hm, ⟨136, [(4, .ref 0 0 0), (16, .ref 1 0 0), (121, .osl 2 0), (122, vi (x15.length : Int)), (123, vi (x17 + (1 : Int)))], [.box [.nils, vi (0 : Int)], .box [.osl 2 0, vi ((Int.tdiv a1.2 x6.1) * x5)], .row (.int .i64) x15 0]⟩, wk_ghosts hk (l := [.keep [4, 16, 121, 122, 123], .keep [4, 16, 121, 122, 123], .keep [4, 16, 121, 122, 123]]) (by kernel_rfl), x17 + (1 : Int), h, rfl⟩
          · replace h := h.2 (of_decide_eq_false hb)
            refine awp_exit (then_x (then_x (then_x (blk_h (then_n (spine_c ?_))))))
            refine awp_spine ?_
            refine awp_rc tab [4, 5] [] [] [] [] ⟨136, [(4, .ref 0 0 0), (5, vi (0 : Int))], [.box [.osl 2 0, vi ((Int.tdiv a1.2 x6.1) * x5)], .box [.osl 2 0, vi ((Int.tdiv a1.2 x6.1) * x5)], .row (.int .i64) x15 0]⟩ (by kernel_rfl) (trivial) ?_
            refine then_n (spine_c ?_)
            refine awp_ret (then_r (then_r (then_r (then_r (then_r (then_r (then_r (then_r (then_r (then_r (then_r (then_r (then_r (then_r (then_r (then_r (?_)))))))))))))))))
            exact ret_r (m := 0) (r := .tup [.agg [.d (.sl (.int .i64)) ((((x15, (Int.tdiv a1.2 x6.1) * x5), 0).1).1), vi ((((x15, (Int.tdiv a1.2 x6.1) * x5), 0).1).2)], vi (((x15, (Int.tdiv a1.2 x6.1) * x5), 0).2)]) (objs := []) hk [.keep [4, 5], .freeze 2] ⟨136, [(4, .ref 0 0 0), (5, vi (0 : Int))], [.box [.d (.sl (.int .i64)) x15, vi ((Int.tdiv a1.2 x6.1) * x5)], .box [.d (.sl (.int .i64)) x15, vi ((Int.tdiv a1.2 x6.1) * x5)], .dead]⟩ (by kernel_rfl) (by kernel_rfl) (Nat.le_refl 0) ⟨((x15, (Int.tdiv a1.2 x6.1) * x5), 0), rfl, rfl, h⟩
theorem ok_farkas_point_with (a1 : farkas_point) (a2 : farkas_fraction) (h : farkas_point_with.pre a1 a2) : OkC prog 32 [.agg [.d (.sl (.int .i64)) a1.1, vi a1.2], .agg [vi a2.1, vi a2.2]] (.tup [.agg [.d (.sl (.int .i64)) (((farkas_point_with.fn a1 a2).1).1), vi (((farkas_point_with.fn a1 a2).1).2)], vi ((farkas_point_with.fn a1 a2).2)]) :=
  OkC.of call_farkas_point_with ((walk_farkas_point_with a1 a2 _ (farkas_point_with.spec a1 a2 h)).mono fun r o ⟨x, hr, ho, hx⟩ => ⟨by rw [hr, hx], ho⟩) rfl rfl (fun _ => rfl)

noncomputable abbrev Bslices_Clone_Sint_int : Code := bodyOf Try.f57
theorem call_slices_Clone_Sint_int : CallOk prog 57 := ⟨_, Try.func57, by kernel_rfl, by kernel_rfl⟩
theorem walk_slices_Clone_Sint_int (a1 : (List Int)) (Q : (List Int) → Prop) (h : slices_Clone_Sint_int.wp a1 Q) : VCalls prog 57 [.d (.sl (.int .i64)) a1] [] (fun r o => ∃ x, r = .osl 0 0 ∧ o = [.row (.int .i64) x 0] ∧ Q x) := by
  refine vcalls_body tab Try.func57 (c := (spine (subC [0] Bslices_Clone_Sint_int) [(spine (subC [1, 0, 0] Bslices_Clone_Sint_int) [(.cond (.tmp 4) (spine (subC [1, 0, 1, 0, 0] Bslices_Clone_Sint_int) [.ret]) .skip), (spine (subC [1, 1, 0] Bslices_Clone_Sint_int) [.ret])])])) (by kernel_rfl) (Nat.le_of_ble_eq_true (by kernel_rfl)) fun cx hd hi hk => ?_
  show AWp prog cx _ _ ⟨8, [(0, .d (.sl (.int .i64)) a1)], []⟩
  replace hk : cx.E.len = 0 := hk
  unfold slices_Clone_Sint_int.wp at h
  refine awp_spine ?_
  refine awp_rc tab [0] [] [] [] [] ⟨8, [(0, .d (.sl (.int .i64)) a1)], []⟩ (by kernel_rfl) (trivial) ?_
  refine then_n (spine_c ?_)
  refine awp_spine ?_
  refine awp_rgo (by kernel_rfl) ?_
  refine aops_eq (l' := [0, 1]) (by kernel_rfl) ?_
  refine aops_segc tab [0] [1] (by kernel_rfl) [0, 3] [] [] [] [] ⟨8, [(0, .d (.sl (.int .i64)) a1), (3, .d (.sl (.int .i64)) a1)], []⟩ (by kernel_rfl) (trivial) ?_
  refine aops_nilcmp tab (T := (.int .i64)) (xs := a1) (d := 4) (q := true) (by kernel_rfl) fun b1 hb1 => ?_
  replace h := h b1 hb1
  refine aops_segc tab [] [] (by kernel_rfl) [0, 4] [] [] [] [] ⟨8, [(0, .d (.sl (.int .i64)) a1), (4, vb b1)], []⟩ (by kernel_rfl) (trivial) (aops_nil ?_)
  refine then_n (spine_c ?_)
  refine awp_cond (b := b1) (by kernel_rfl) (fun hb => ?_) (fun hb => ?_)
  · replace h := h.1 (hb)
    refine awp_spine ?_
    refine awp_rc tab [2] [] [] [] [] ⟨8, [(2, .nils)], []⟩ (by kernel_rfl) (trivial) ?_
    refine then_n (spine_c ?_)
    refine awp_ret (then_r (then_r (then_r (?_))))
    exact ret_r (m := 1) (r := .osl 0 0) (objs := [.row (.int .i64) ([] : List Int) 0]) hk [.keep [2], .cut 0, .adopt 2 (.int .i64), .keep [2]] ⟨8, [(2, .osl 0 0)], [.row (.int .i64) ([] : List Int) 0]⟩ (by kernel_rfl) (by kernel_rfl) (Nat.zero_le _) ⟨([] : List Int), rfl, rfl, h⟩
  · replace h := h.2 (hb)
    refine awp_skip (then_n (spine_c ?_))
    refine awp_spine ?_
    obtain ⟨o1, h⟩ := h
    refine awp_rc tab [2] [] [] [] [0 * 1 ≤ 16777216, (([] : List Int).length + a1.length) * 8 ≤ 140737488355328 ∧ ([] : List Int).length + a1.length ≤ 9223372036854775807] ⟨8, [(2, .osl 0 1)], [.row (.int .i64) (([] : List Int) ++ a1) 1]⟩ (by kernel_rfl) (AllP.of (by decide) (AllP.of (o1) trivial)) ?_
    refine then_n (spine_c ?_)
    refine awp_ret (then_r (then_r (then_r (?_))))
    exact ret_r (m := 1) (r := .osl 0 0) (objs := [.row (.int .i64) (([] : List Int) ++ a1) 0]) hk [.keep [2], .reset 0, .keep [2]] ⟨8, [(2, .osl 0 0)], [.row (.int .i64) (([] : List Int) ++ a1) 0]⟩ (by kernel_rfl) (by kernel_rfl) (Nat.zero_le _) ⟨([] : List Int) ++ a1, rfl, rfl, h⟩
theorem ok_slices_Clone_Sint_int (a1 : (List Int)) (h : slices_Clone_Sint_int.pre a1) : OkO prog 57 [.d (.sl (.int .i64)) a1] (.int .i64) (slices_Clone_Sint_int.fn a1) :=
  OkO.of call_slices_Clone_Sint_int ((walk_slices_Clone_Sint_int a1 _ (slices_Clone_Sint_int.spec a1 h)).mono fun r o ⟨x, hr, ho, hx⟩ => ⟨hr, by rw [ho, hx]⟩) rfl

noncomputable abbrev Bfarkas_table_refuted : Code := bodyOf Try.f27
theorem call_farkas_table_refuted : CallOk prog 27 := ⟨_, Try.func27, by kernel_rfl, by kernel_rfl⟩
theorem walk_farkas_table_refuted (a1 : farkas_table) (Q : (List Int) × Bool → Prop) (h : farkas_table_refuted.wp a1 Q) : VCalls prog 27 [.agg [vi a1.1, .d (.sl t_farkas_row) a1.2]] [] (fun r o => ∃ x, r = .tup [.d (.sl (.int .i64)) x.1, vb x.2] ∧ o = [] ∧ Q x) := by
  refine vcalls_body tab Try.func27 (c := (spine (subC [0] Bfarkas_table_refuted) [(spine (subC [1, 0, 0] Bfarkas_table_refuted) [(.block 0 (.loop (spine (subC [1, 0, 1, 0, 0, 0] Bfarkas_table_refuted) [(spine (.cond (.tmp 13) .skip (.exit 0)) [(spine (.block 1 (spine (subC [1, 0, 1, 0, 0, 1, 1, 0, 0, 0] Bfarkas_table_refuted) [(spine (subC [1, 0, 1, 0, 0, 1, 1, 0, 0, 1, 0] Bfarkas_table_refuted) [(spine (subC [1, 0, 1, 0, 0, 1, 1, 0, 0, 1, 1, 0, 0] Bfarkas_table_refuted) [(.cond (.tmp 32) (.exit 1) .skip), (spine (subC [1, 0, 1, 0, 0, 1, 1, 0, 0, 1, 1, 1, 0] Bfarkas_table_refuted) [(spine (subC [1, 0, 1, 0, 0, 1, 1, 0, 0, 1, 1, 1, 1, 0, 0] Bfarkas_table_refuted) [(.cond (.tmp 41) (spine (subC [1, 0, 1, 0, 0, 1, 1, 0, 0, 1, 1, 1, 1, 0, 1, 0, 0] Bfarkas_table_refuted) [(.block 2 (.loop (spine (subC [1, 0, 1, 0, 0, 1, 1, 0, 0, 1, 1, 1, 1, 0, 1, 0, 1, 0, 0, 0] Bfarkas_table_refuted) [(spine (.cond (.tmp 45) .skip (.exit 2)) [(spine (.block 3 (spine (subC [1, 0, 1, 0, 0, 1, 1, 0, 0, 1, 1, 1, 1, 0, 1, 0, 1, 0, 0, 1, 1, 0, 0, 0] Bfarkas_table_refuted) [(subC [1, 0, 1, 0, 0, 1, 1, 0, 0, 1, 1, 1, 1, 0, 1, 0, 1, 0, 0, 1, 1, 0, 0, 1] Bfarkas_table_refuted)])) [(subC [1, 0, 1, 0, 0, 1, 1, 0, 0, 1, 1, 1, 1, 0, 1, 0, 1, 0, 0, 1, 1, 1] Bfarkas_table_refuted)])])])))]) .skip), (spine (subC [1, 0, 1, 0, 0, 1, 1, 0, 0, 1, 1, 1, 1, 1, 0] Bfarkas_table_refuted) [.ret])])])])])])) [(subC [1, 0, 1, 0, 0, 1, 1, 1] Bfarkas_table_refuted)])])]))), (spine (subC [1, 1, 0] Bfarkas_table_refuted) [.ret])])])) (by kernel_rfl) (Nat.le_of_ble_eq_true (by kernel_rfl)) fun cx hd hi hk => ?_
  show AWp prog cx _ _ ⟨58, [(0, .agg [vi a1.1, .d (.sl t_farkas_row) a1.2])], []⟩
  replace hk : cx.E.len = 0 := hk
  unfold farkas_table_refuted.wp at h
  refine awp_spine ?_
  refine awp_rc tab [1] [] [] [0] [] ⟨58, [(1, .er [vi a1.1, .d (.sl t_farkas_row) a1.2])], []⟩ (by kernel_rfl) (trivial) ?_
  refine then_n (spine_c ?_)
  refine awp_spine ?_
  refine awp_rc tab [1, 10, 11, 12] [] [] [] [] ⟨58, [(1, .er [vi a1.1, .d (.sl t_farkas_row) a1.2]), (10, .d (.sl t_farkas_row) a1.2), (11, vi (a1.2.length : Int)), (12, vi (0 : Int))], []⟩ (by kernel_rfl) (trivial) ?_
  refine then_n (spine_c ?_)
  refine awp_len 1 [1] (T := t_farkas_row) (l := a1.2) (by kernel_rfl) fun hl => ?_
  replace h := h hl
  refine awp_block ?_
  obtain ⟨I4, ⟨n4a, hz4⟩, hI4⟩ := h
  refine awp_loopN (fun n s => ∃ (x2 : Int), I4 n x2 ∧ s = ⟨58, [(1, .er [vi a1.1, .d (.sl t_farkas_row) a1.2]), (10, .d (.sl t_farkas_row) a1.2), (11, vi (a1.2.length : Int)), (12, vi x2)], []⟩) (n := n4a) (s0 := ⟨58, [(1, .er [vi a1.1, .d (.sl t_farkas_row) a1.2]), (10, .d (.sl t_farkas_row) a1.2), (11, vi (a1.2.length : Int)), (12, vi (0 : Int))], []⟩) (wk_ghosts hk (l := [.keep [1, 10, 11, 12], .keep [1, 10, 11, 12], .keep [1, 10, 11, 12], .keep [1, 10, 11, 12]]) (by kernel_rfl)) ⟨0, hz4, rfl⟩ ?_
  rintro n4 s ⟨x2, hx4, rfl⟩
  have h := hI4 n4 x2 hx4
  refine awp_spine ?_
  refine awp_rc tab [1, 10, 11, 12, 13] [] [] [] [] ⟨58, [(1, .er [vi a1.1, .d (.sl t_farkas_row) a1.2]), (10, .d (.sl t_farkas_row) a1.2), (11, vi (a1.2.length : Int)), (12, vi x2), (13, vb (decide (x2 < (a1.2.length : Int))))], []⟩ (by kernel_rfl) (trivial) ?_
  refine then_n (spine_c ?_)
  refine awp_spine ?_
  refine awp_cond (b := decide (x2 < (a1.2.length : Int))) (by kernel_rfl) (fun hb => ?_) (fun hb => ?_)
  · replace h := h.1 (of_decide_eq_true hb)
    refine awp_skip (then_n (spine_c ?_))
    refine awp_spine ?_
    refine awp_block ?_
    refine awp_spine ?_
    obtain ⟨o1, h⟩ := h
    refine awp_rc tab [1, 5, 10, 11, 12] [] [] [] [(0 : Int) ≤ x2 ∧ x2 < (a1.2.length : Int)] ⟨58, [(1, .er [vi a1.1, .d (.sl t_farkas_row) a1.2]), (5, .ref 0 0 0), (10, .d (.sl t_farkas_row) a1.2), (11, vi (a1.2.length : Int)), (12, vi x2)], [.box [vb ((a1.2.getD (Int.toNat x2) d_farkas_row).1), .d (.sl (.int .i64)) ((a1.2.getD (Int.toNat x2) d_farkas_row).2)]]⟩ (by kernel_rfl) (AllP.of (o1) trivial) ?_
    refine then_n (spine_c ?_)
    refine awp_abs (fun (x5 : farkas_row) => ⟨58, [(1, .er [vi a1.1, .d (.sl t_farkas_row) a1.2]), (5, .ref 0 0 0), (10, .d (.sl t_farkas_row) a1.2), (11, vi (a1.2.length : Int)), (12, vi x2)], [.box [vb x5.1, .d (.sl (.int .i64)) x5.2]]⟩) (a1.2.getD (Int.toNat x2) d_farkas_row) ?_
    intro x5 hx5
    replace h := h x5 hx5
    refine awp_spine ?_
    obtain ⟨o2, h⟩ := h
    refine awp_rc tab [1, 5, 6, 10, 11, 12] [] [] [] [(0 : Int) ≤ a1.1 ∧ a1.1 < (x5.2.length : Int)] ⟨58, [(1, .er [vi a1.1, .d (.sl t_farkas_row) a1.2]), (5, .ref 0 0 0), (6, vi (gI x5.2 a1.1)), (10, .d (.sl t_farkas_row) a1.2), (11, vi (a1.2.length : Int)), (12, vi x2)], [.box [vb x5.1, .d (.sl (.int .i64)) x5.2]]⟩ (by kernel_rfl) (AllP.of (o2) trivial) ?_
    refine then_n (spine_c ?_)
    refine awp_spine ?_
    refine awp_rc tab [1, 5, 6, 10, 11, 12, 32] [] [] [] [(decide ((gI x5.2 a1.1) ≥ (0 : Int))) = true → (decide ((gI x5.2 a1.1) ≥ (0 : Int))) = true ∧ True, (decide ((gI x5.2 a1.1) ≥ (0 : Int))) = true → (decide ((gI x5.2 a1.1) ≥ (0 : Int))) = true ∧ True, (decide ((gI x5.2 a1.1) ≥ (0 : Int))) = true → (decide ((gI x5.2 a1.1) ≥ (0 : Int))) = true ∧ True, ((decide ((gI x5.2 a1.1) ≥ (0 : Int))) && (!(!x5.1))) = true → ((decide ((gI x5.2 a1.1) ≥ (0 : Int))) && (!(!x5.1))) = true ∧ True, (decide ((gI x5.2 a1.1) ≥ (0 : Int))) = true → (decide ((gI x5.2 a1.1) ≥ (0 : Int))) = true ∧ ((!x5.1) = false → ((decide ((gI x5.2 a1.1) ≥ (0 : Int))) && (!(!x5.1))) = true), (decide ((gI x5.2 a1.1) ≥ (0 : Int))) = true → (decide ((gI x5.2 a1.1) ≥ (0 : Int))) = true] ⟨58, [(1, .er [vi a1.1, .d (.sl t_farkas_row) a1.2]), (5, .ref 0 0 0), (6, vi (gI x5.2 a1.1)), (10, .d (.sl t_farkas_row) a1.2), (11, vi (a1.2.length : Int)), (12, vi x2), (32, vb ((decide ((gI x5.2 a1.1) ≥ (0 : Int))) && ((!x5.1) || ((gI x5.2 a1.1) == (0 : Int)))))], [.box [vb x5.1, .d (.sl (.int .i64)) x5.2]]⟩ (by kernel_rfl) (AllP.of (fun hg => ⟨hg, trivial⟩) (AllP.of (fun hg => ⟨hg, trivial⟩) (AllP.of (fun hg => ⟨hg, trivial⟩) (AllP.of (fun hg => ⟨hg, trivial⟩) (AllP.of (fun hg => ⟨hg, fun hc => and_f hg hc⟩) (AllP.of (fun hc => hc) trivial)))))) ?_
    refine then_n (spine_c ?_)
    refine awp_cond (b := (decide ((gI x5.2 a1.1) ≥ (0 : Int))) && ((!x5.1) || ((gI x5.2 a1.1) == (0 : Int)))) (by kernel_rfl) (fun hb => ?_) (fun hb => ?_)
    · replace h := h.1 (hb)
      refine awp_exit (then_x (then_x (then_x (blk_h (then_n (spine_c ?_))))))
      obtain ⟨o3, h⟩ := h
      refine awp_rc tab [1, 10, 11, 12] [] [] [] [-9223372036854775808 ≤ x2 + (1 : Int) ∧ x2 + (1 : Int) ≤ 9223372036854775807] ⟨58, [(1, .er [vi a1.1, .d (.sl t_farkas_row) a1.2]), (10, .d (.sl t_farkas_row) a1.2), (11, vi (a1.2.length : Int)), (12, vi (x2 + (1 : Int)))], [.box [vb x5.1, .d (.sl (.int .i64)) x5.2]]⟩ (by kernel_rfl) (AllP.of (o3) trivial) ?_
      refine then_n (spine_e (then_n (spine_e (then_n (spine_e (then_n (?_)))))))
      obtain ⟨m, hm, h⟩ := h
      exact ⟨m, hm, ⟨58, [(1, .er [vi a1.1, .d (.sl t_farkas_row) a1.2]), (10, .d (.sl t_farkas_row) a1.2), (11, vi (a1.2.length : Int)), (12, vi (x2 + (1 : Int)))], []⟩, wk_ghosts hk (l := [.keep [1, 10, 11, 12], .keep [1, 10, 11, 12], .cut 0, .keep [1, 10, 11, 12]]) (by kernel_rfl), x2 + (1 : Int), h, rfl⟩
    · replace h := h.2 (hb)
      refine awp_skip (then_n (spine_c ?_))
      refine awp_spine ?_
      obtain ⟨o4, o5, o6, h⟩ := h
      refine awp_rc tab [6, 7] [] [(6, .own (.int .i64) (slices_Clone_Sint_int.fn (x5.2.drop (Int.toNat (a1.1 + (1 : Int))))))] [] [-9223372036854775808 ≤ a1.1 + (1 : Int) ∧ a1.1 + (1 : Int) ≤ 9223372036854775807, (0 : Int) ≤ (a1.1 + (1 : Int)) ∧ (a1.1 + (1 : Int)) ≤ (x5.2.length : Int), OkO prog 57 [.d (.sl (.int .i64)) (x5.2.drop (Int.toNat (a1.1 + (1 : Int))))] (.int .i64) (slices_Clone_Sint_int.fn (x5.2.drop (Int.toNat (a1.1 + (1 : Int)))))] ⟨58, [(6, vi (gI x5.2 a1.1)), (7, .osl 1 0)], [.box [vb x5.1, .d (.sl (.int .i64)) x5.2], .row (.int .i64) (slices_Clone_Sint_int.fn (x5.2.drop (Int.toNat (a1.1 + (1 : Int))))) 0]⟩ (by kernel_rfl) (AllP.of (o4) (AllP.of (o5) (AllP.of (ok_slices_Clone_Sint_int (x5.2.drop (Int.toNat (a1.1 + (1 : Int)))) (o6)) trivial))) ?_
      refine then_n (spine_c ?_)
      refine awp_abs (fun (x6 : (List Int)) => ⟨58, [(6, vi (gI x5.2 a1.1)), (7, .osl 1 0)], [.box [vb x5.1, .d (.sl (.int .i64)) x5.2], .row (.int .i64) x6 0]⟩) (slices_Clone_Sint_int.fn (x5.2.drop (Int.toNat (a1.1 + (1 : Int))))) ?_
      intro x6 hx6
      replace h := h x6 hx6
      refine awp_spine ?_
      refine awp_rc tab [7, 41] [] [] [] [] ⟨58, [(7, .osl 1 0), (41, vb (decide ((gI x5.2 a1.1) > (0 : Int))))], [.box [vb x5.1, .d (.sl (.int .i64)) x5.2], .row (.int .i64) x6 0]⟩ (by kernel_rfl) (trivial) ?_
      refine then_n (spine_c ?_)
      refine awp_cond (b := decide ((gI x5.2 a1.1) > (0 : Int))) (by kernel_rfl) (fun hb => ?_) (fun hb => ?_)
      · replace h := h.1 (of_decide_eq_true hb)
        refine awp_spine ?_
        refine awp_rc tab [7, 43, 44] [] [] [] [] ⟨58, [(7, .osl 1 0), (43, vi (x6.length : Int)), (44, vi (0 : Int))], [.box [vb x5.1, .d (.sl (.int .i64)) x5.2], .row (.int .i64) x6 0]⟩ (by kernel_rfl) (trivial) ?_
        refine then_n (spine_c ?_)
        refine awp_block ?_
        obtain ⟨I13, ⟨n13a, hz13⟩, hI13⟩ := h
        refine awp_loopN (fun n s => ∃ (x9 : Int) (x10 : (List Int)), I13 n x9 x10 ∧ s = ⟨58, [(7, .osl 1 0), (43, vi (x6.length : Int)), (44, vi x9)], [.box [vb x5.1, .d (.sl (.int .i64)) x5.2], .row (.int .i64) x10 0]⟩) (n := n13a) (s0 := ⟨58, [(7, .osl 1 0), (43, vi (x6.length : Int)), (44, vi (0 : Int))], [.box [vb x5.1, .d (.sl (.int .i64)) x5.2], .row (.int .i64) x6 0]⟩) (wk_ghosts hk (l := [.keep [7, 43, 44], .keep [7, 43, 44], .keep [7, 43, 44], .keep [7, 43, 44]]) (by kernel_rfl)) ⟨0, x6, hz13, rfl⟩ ?_
        rintro n13 s ⟨x9, x10, hx13, rfl⟩
        have h := hI13 n13 x9 x10 hx13
        refine awp_spine ?_
        refine awp_rc tab [7, 43, 44, 45] [] [] [] [] ⟨58, [(7, .osl 1 0), (43, vi (x6.length : Int)), (44, vi x9), (45, vb (decide (x9 < (x6.length : Int))))], [.box [vb x5.1, .d (.sl (.int .i64)) x5.2], .row (.int .i64) x10 0]⟩ (by kernel_rfl) (trivial) ?_
        refine then_n (spine_c ?_)
        refine awp_spine ?_
        refine awp_cond (b := decide (x9 < (x6.length : Int))) (by kernel_rfl) (fun hb => ?_) (fun hb => ?_)
        · replace h := h.1 (of_decide_eq_true hb)
          refine awp_skip (then_n (spine_c ?_))
          refine awp_spine ?_
          refine awp_block ?_
          refine awp_spine ?_
          refine awp_rc tab [7, 8, 43, 44] [] [] [] [] ⟨58, [(7, .osl 1 0), (8, vi x9), (43, vi (x6.length : Int)), (44, vi x9)], [.box [vb x5.1, .d (.sl (.int .i64)) x5.2], .row (.int .i64) x10 0]⟩ (by kernel_rfl) (trivial) ?_
          refine then_n (spine_c ?_)
          obtain ⟨o7, o8, o9, o10, o11, h⟩ := h
          refine awp_rc tab [7, 43, 44] [] [] [] [(0 : Int) ≤ x9 ∧ x9 < (x10.length : Int), Int.toNat x9 < x10.length, -9223372036854775808 ≤ -(x10.getD (Int.toNat x9) (0 : Int)) ∧ -(x10.getD (Int.toNat x9) (0 : Int)) ≤ 9223372036854775807, (0 : Int) ≤ x9 ∧ x9 < (x10.length : Int), Int.toNat x9 < x10.length] ⟨58, [(7, .osl 1 0), (43, vi (x6.length : Int)), (44, vi x9)], [.box [vb x5.1, .d (.sl (.int .i64)) x5.2], .row (.int .i64) (x10.set (Int.toNat x9) (-(x10.getD (Int.toNat x9) (0 : Int)))) 0]⟩ (by kernel_rfl) (AllP.of (o7) (AllP.of (o8) (AllP.of (o9) (AllP.of (o10) (AllP.of (o11) trivial))))) ?_
          refine then_n (spine_e (blk_n (then_n (spine_c ?_))))
          refine awp_abs (fun (x14 : (List Int)) => ⟨58, [(7, .osl 1 0), (43, vi (x6.length : Int)), (44, vi x9)], [.box [vb x5.1, .d (.sl (.int .i64)) x5.2], .row (.int .i64) x14 0]⟩) (x10.set (Int.toNat x9) (-(x10.getD (Int.toNat x9) (0 : Int)))) ?_
          intro x14 hx14
          replace h := h x14 hx14
          obtain ⟨o12, h⟩ := h
          refine awp_rc tab [7, 43, 44] [] [] [] [-9223372036854775808 ≤ x9 + (1 : Int) ∧ x9 + (1 : Int) ≤ 9223372036854775807] ⟨58, [(7, .osl 1 0), (43, vi (x6.length : Int)), (44, vi (x9 + (1 : Int)))], [.box [vb x5.1, .d (.sl (.int .i64)) x5.2], .row (.int .i64) x14 0]⟩ (by kernel_rfl) (AllP.of (o12) trivial) ?_
          refine then_n (spine_e (then_n (spine_e (then_n (spine_e (then_n (?_)))))))
          obtain ⟨m, hm, h⟩ := h
          exact ⟨m, hm, ⟨58, [(7, .osl 1 0), (43, vi (x6.length : Int)), (44, vi (x9 + (1 : Int)))], [.box [vb x5.1, .d (.sl (.int .i64)) x5.2], .row (.int .i64) x14 0]⟩, wk_ghosts hk (l := [.keep [7, 43, 44], .keep [7, 43, 44], .keep [7, 43, 44]]) (by kernel_rfl), x9 + (1 : Int), x14, h, rfl⟩
        · replace h := h.2 (of_decide_eq_false hb)
          refine awp_exit (then_x (then_x (then_x (blk_h (then_n (spine_e (then_n (spine_c ?_))))))))
          refine awp_spine ?_
          refine awp_rc tab [2, 3] [] [] [] [] ⟨58, [(2, .osl 1 0), (3, vb true)], [.box [vb x5.1, .d (.sl (.int .i64)) x5.2], .row (.int .i64) x10 0]⟩ (by kernel_rfl) (trivial) ?_
          refine then_n (spine_c ?_)
          refine awp_ret (then_r (then_r (then_r (then_r (then_r (then_r (blk_r (then_r (then_r (then_r (then_r (blk_r (then_r (then_r (?_)))))))))))))))
          exact ret_r (m := 0) (r := .tup [.d (.sl (.int .i64)) ((x10, true).1), vb ((x10, true).2)]) (objs := []) hk [.keep [2, 3], .freeze 1] ⟨58, [(2, .d (.sl (.int .i64)) x10), (3, vb true)], [.box [vb x5.1, .d (.sl (.int .i64)) x5.2], .dead]⟩ (by kernel_rfl) (by kernel_rfl) (Nat.le_refl 0) ⟨(x10, true), rfl, rfl, h⟩
      · replace h := h.2 (of_decide_eq_false hb)
        refine awp_skip (then_n (spine_c ?_))
        refine awp_spine ?_
        refine awp_rc tab [2, 3] [] [] [] [] ⟨58, [(2, .osl 1 0), (3, vb true)], [.box [vb x5.1, .d (.sl (.int .i64)) x5.2], .row (.int .i64) x6 0]⟩ (by kernel_rfl) (trivial) ?_
        refine then_n (spine_c ?_)
        refine awp_ret (then_r (then_r (then_r (then_r (then_r (then_r (blk_r (then_r (then_r (then_r (then_r (blk_r (then_r (then_r (?_)))))))))))))))
        exact ret_r (m := 0) (r := .tup [.d (.sl (.int .i64)) ((x6, true).1), vb ((x6, true).2)]) (objs := []) hk [.keep [2, 3], .freeze 1] ⟨58, [(2, .d (.sl (.int .i64)) x6), (3, vb true)], [.box [vb x5.1, .d (.sl (.int .i64)) x5.2], .dead]⟩ (by kernel_rfl) (by kernel_rfl) (Nat.le_refl 0) ⟨(x6, true), rfl, rfl, h⟩
  · replace h := h.2 (of_decide_eq_false hb)
    refine awp_exit (then_x (then_x (then_x (blk_h (then_n (spine_c ?_))))))
    refine awp_spine ?_
    refine awp_rc tab [2, 3] [] [] [] [] ⟨58, [(2, .nils), (3, vb false)], []⟩ (by kernel_rfl) (trivial) ?_
    refine then_n (spine_c ?_)
    refine awp_ret (then_r (then_r (then_r (?_))))
    exact ret_r (m := 0) (r := .tup [.d (.sl (.int .i64)) ((([] : List Int), false).1), vb ((([] : List Int), false).2)]) (objs := []) hk [.keep [2, 3], .nilAt 2 [] (.int .i64), .keep [2, 3]] ⟨58, [(2, .d (.sl (.int .i64)) ([] : List Int)), (3, vb false)], []⟩ (by kernel_rfl) (by kernel_rfl) (Nat.le_refl 0) ⟨(([] : List Int), false), rfl, rfl, h⟩
theorem ok_farkas_table_refuted (a1 : farkas_table) (h : farkas_table_refuted.pre a1) : OkC prog 27 [.agg [vi a1.1, .d (.sl t_farkas_row) a1.2]] (.tup [.d (.sl (.int .i64)) ((farkas_table_refuted.fn a1).1), vb ((farkas_table_refuted.fn a1).2)]) :=
  OkC.of call_farkas_table_refuted ((walk_farkas_table_refuted a1 _ (farkas_table_refuted.spec a1 h)).mono fun r o ⟨x, hr, ho, hx⟩ => ⟨by rw [hr, hx], ho⟩) rfl rfl (fun _ => rfl)

noncomputable abbrev Bfarkas_Inner_1 : Code := bodyOf Try.f31
theorem call_farkas_Inner_1 : CallOk prog 31 := ⟨_, Try.func31, by kernel_rfl, by kernel_rfl⟩
noncomputable abbrev Bfarkas_Inner : Code := bodyOf Try.f13
theorem call_farkas_Inner : CallOk prog 13 := ⟨_, Try.func13, by kernel_rfl, by kernel_rfl⟩
theorem walk_farkas_Inner (a1 : (List api_Cond)) (a2 : Int) (Q : (List Int) × Int × Int → Prop) (h : farkas_Inner.wp a1 a2 Q) : VCalls prog 13 [.d (.sl t_api_Cond) a1, vi a2] [] (fun r o => ∃ x, r = .tup [.d (.sl (.int .i64)) x.1, vi x.2.1, vi x.2.2] ∧ o = [] ∧ Q x) := by
  refine vcalls_bodyG Try.func13 (c := (.seq (subC [0] Bfarkas_Inner) (.seq (spine (subC [1, 0, 0] Bfarkas_Inner) [(spine (subC [1, 0, 1, 0] Bfarkas_Inner) [(.cond (.tmp 17) (spine (subC [1, 0, 1, 1, 0, 0] Bfarkas_Inner) [.ret]) .skip)])]) (.seq (subC [1, 1, 0] Bfarkas_Inner) (.seq (spine (subC [1, 1, 1, 0, 0] Bfarkas_Inner) [(.cond (.tmp 26) (spine (subC [1, 1, 1, 0, 1, 0, 0] Bfarkas_Inner) [.ret]) .skip)]) (.seq (spine (subC [1, 1, 1, 1, 0, 0] Bfarkas_Inner) [(spine (subC [1, 1, 1, 1, 0, 1, 0] Bfarkas_Inner) [(.cond (.tmp 35) (spine (subC [1, 1, 1, 1, 0, 1, 1, 0, 0] Bfarkas_Inner) [.ret]) .skip)])]) (.seq (subC [1, 1, 1, 1, 1, 0] Bfarkas_Inner) (.seq (subC [1, 1, 1, 1, 1, 1, 0] Bfarkas_Inner) (spine (subC [1, 1, 1, 1, 1, 1, 1, 0, 0] Bfarkas_Inner) [(.block 0 (.loop (spine (subC [1, 1, 1, 1, 1, 1, 1, 0, 1, 0, 0, 0] Bfarkas_Inner) [(spine (.cond (.tmp 40) .skip (.exit 0)) [(spine (.block 1 (spine (subC [1, 1, 1, 1, 1, 1, 1, 0, 1, 0, 0, 1, 1, 0, 0, 0] Bfarkas_Inner) [(spine (subC [1, 1, 1, 1, 1, 1, 1, 0, 1, 0, 0, 1, 1, 0, 0, 1, 0] Bfarkas_Inner) [(spine (subC [1, 1, 1, 1, 1, 1, 1, 0, 1, 0, 0, 1, 1, 0, 0, 1, 1, 0] Bfarkas_Inner) [(.cond (.tmp 55) (spine (subC [1, 1, 1, 1, 1, 1, 1, 0, 1, 0, 0, 1, 1, 0, 0, 1, 1, 1, 0, 0] Bfarkas_Inner) [.ret]) .skip)])])])) [(subC [1, 1, 1, 1, 1, 1, 1, 0, 1, 0, 0, 1, 1, 1] Bfarkas_Inner)])])]))), (spine (subC [1, 1, 1, 1, 1, 1, 1, 1, 0] Bfarkas_Inner) [.ret])]))))))))) (by kernel_rfl) (Nat.le_of_ble_eq_true (by kernel_rfl)) fun E0 hk => ?_
  show AWpG prog ⟨E0, [], []⟩ _ _ ⟨62, [(0, .d (.sl t_api_Cond) a1), (1, vi a2)], []⟩
  replace hk : E0.len = 0 := hk
  have hkE : E0.len = 0 := hk
  unfold farkas_Inner.wp at h
  refine awpG_seq ?_
  refine awp_rc tab [0, 1, 4, 5, 6] [] [] [] [] ⟨62, [(0, .d (.sl t_api_Cond) a1), (1, vi a2), (4, .ref 0 0 0), (5, .ref 1 0 0), (6, .ref 2 0 0)], [.box [.nils], .box [vi (0 : Int)], .box [vi (0 : Int)]]⟩ (by kernel_rfl) (trivial) ?_
  refine then_n (?_)
  refine awpG_seq ?_
  refine awp_spine ?_
  refine awp_rc tab [0, 1, 4, 5, 6, 7] [] [(2, .dat (vi (farkas_asked.fn a1 a2)))] [] [OkC prog 25 [.d (.sl t_api_Cond) a1, vi a2] (vi (farkas_asked.fn a1 a2))] ⟨62, [(0, .d (.sl t_api_Cond) a1), (1, vi a2), (4, .ref 0 0 0), (5, .ref 1 0 0), (6, .ref 2 0 0), (7, vi (farkas_asked.fn a1 a2))], [.box [.nils], .box [vi (0 : Int)], .box [vi (0 : Int)]]⟩ (by kernel_rfl) (AllP.of (ok_farkas_asked a1 a2) trivial) ?_
  refine then_n (spine_c ?_)
  refine awp_abs (fun (x1 : Int) => ⟨62, [(0, .d (.sl t_api_Cond) a1), (1, vi a2), (4, .ref 0 0 0), (5, .ref 1 0 0), (6, .ref 2 0 0), (7, vi x1)], [.box [.nils], .box [vi (0 : Int)], .box [vi (0 : Int)]]⟩) (farkas_asked.fn a1 a2) ?_
  intro x1 hx1
  replace h := h x1 hx1
  refine awp_spine ?_
  refine awp_rc tab [0, 1, 4, 5, 6, 7, 17] [] [] [] [] ⟨62, [(0, .d (.sl t_api_Cond) a1), (1, vi a2), (4, .ref 0 0 0), (5, .ref 1 0 0), (6, .ref 2 0 0), (7, vi x1), (17, vb (x1 != (0 : Int)))], [.box [.nils], .box [vi (0 : Int)], .box [vi (0 : Int)]]⟩ (by kernel_rfl) (trivial) ?_
  refine then_n (spine_c ?_)
  refine awp_cond (b := x1 != (0 : Int)) (by kernel_rfl) (fun hb => ?_) (fun hb => ?_)
  · replace h := h.1 (bne_iff_ne.mp hb)
    refine awp_spine ?_
    refine awp_rc tab [4, 5, 6] [] [] [] [] ⟨62, [(4, .ref 0 0 0), (5, .ref 1 0 0), (6, .ref 2 0 0)], [.box [.nils], .box [vi (0 : Int)], .box [vi x1]]⟩ (by kernel_rfl) (trivial) ?_
    refine then_n (spine_c ?_)
    refine awp_ret (then_r (then_r (then_r (then_r (retW_G tab hk rfl (?_))))))
    exact ret_r (m := 0) (r := .tup [.d (.sl (.int .i64)) ((([] : List Int), 0, x1).1), vi ((([] : List Int), 0, x1).2.1), vi ((([] : List Int), 0, x1).2.2)]) (objs := []) hk [.keep [4, 5, 6], .nilBox 0 [0] (.int .i64), .keep [4, 5, 6]] ⟨62, [(4, .ref 0 0 0), (5, .ref 1 0 0), (6, .ref 2 0 0)], [.box [.d (.sl (.int .i64)) ([] : List Int)], .box [vi (0 : Int)], .box [vi x1]]⟩ (by kernel_rfl) (by kernel_rfl) (Nat.le_refl 0) ⟨(([] : List Int), 0, x1), rfl, rfl, h⟩
  · replace h := h.2 (bne_f hb)
    refine awp_skip (then_n (spine_e (then_n (spine_e (then_n (?_))))))
    refine awpG_seq ?_
    obtain ⟨o1, h⟩ := h
    refine awp_rc tab [1, 4, 5, 6, 8] [] [(2, .dat (.tup [.d (.sl t_farkas_table) ((farkas_eliminated.fn a1 a2).1), vi ((farkas_eliminated.fn a1 a2).2)]))] [] [OkC prog 26 [.d (.sl t_api_Cond) a1, vi a2] (.tup [.d (.sl t_farkas_table) ((farkas_eliminated.fn a1 a2).1), vi ((farkas_eliminated.fn a1 a2).2)])] ⟨62, [(1, vi a2), (4, .ref 0 0 0), (5, .ref 1 0 0), (6, .ref 2 0 0), (8, .d (.sl t_farkas_table) ((farkas_eliminated.fn a1 a2).1))], [.box [.nils], .box [vi (0 : Int)], .box [vi ((farkas_eliminated.fn a1 a2).2)]]⟩ (by kernel_rfl) (AllP.of (ok_farkas_eliminated a1 a2 (o1)) trivial) ?_
    refine then_n (?_)
    refine awpG_abs (fun (x2 : (List farkas_table) × Int) => ⟨62, [(1, vi a2), (4, .ref 0 0 0), (5, .ref 1 0 0), (6, .ref 2 0 0), (8, .d (.sl t_farkas_table) x2.1)], [.box [.nils], .box [vi (0 : Int)], .box [vi x2.2]]⟩) (farkas_eliminated.fn a1 a2) ?_
    intro x2 hx2
    replace h := h x2 hx2
    refine awpG_seq ?_
    refine awp_spine ?_
    refine awp_rc tab [1, 4, 5, 6, 8, 26] [] [] [] [] ⟨62, [(1, vi a2), (4, .ref 0 0 0), (5, .ref 1 0 0), (6, .ref 2 0 0), (8, .d (.sl t_farkas_table) x2.1), (26, vb (x2.2 != (0 : Int)))], [.box [.nils], .box [vi (0 : Int)], .box [vi x2.2]]⟩ (by kernel_rfl) (trivial) ?_
    refine then_n (spine_c ?_)
    refine awp_cond (b := x2.2 != (0 : Int)) (by kernel_rfl) (fun hb => ?_) (fun hb => ?_)
    · replace h := h.1 (bne_iff_ne.mp hb)
      refine awp_spine ?_
      refine awp_dr tab mixed [4, 5, 6] [] [] [] ⟨[[], [], [1], [0, 1, 2]], [vi x2.2, .tup [], .tup [], .tup []], [none, none, none, none], [], [([], [.box [.nils], .box [vi (0 : Int)], .box [vi x2.2]])]⟩ ⟨62, [(4, .ref 0 0 0), (5, .ref 1 0 0), (6, .ref 2 0 0)], [.box [.nils], .box [vi (0 : Int)], .box [vi x2.2]]⟩ (by kernel_rfl) (AllO.n (AllO.n (AllO.n (AllO.n (AllO.e))))) ?_
      refine then_n (spine_c ?_)
      refine awp_ret (then_r (then_r (then_r (retW_G tab hk rfl (?_)))))
      exact ret_r (m := 0) (r := .tup [.d (.sl (.int .i64)) ((([] : List Int), 0, x2.2).1), vi ((([] : List Int), 0, x2.2).2.1), vi ((([] : List Int), 0, x2.2).2.2)]) (objs := []) hk [.keep [4, 5, 6], .nilBox 0 [0] (.int .i64), .keep [4, 5, 6]] ⟨62, [(4, .ref 0 0 0), (5, .ref 1 0 0), (6, .ref 2 0 0)], [.box [.d (.sl (.int .i64)) ([] : List Int)], .box [vi (0 : Int)], .box [vi x2.2]]⟩ (by kernel_rfl) (by kernel_rfl) (Nat.le_refl 0) ⟨(([] : List Int), 0, x2.2), rfl, rfl, h⟩
    · replace h := h.2 (bne_f hb)
      refine awp_skip (then_n (spine_e (then_n (?_))))
      refine awpG_seq ?_
      refine awp_spine ?_
      obtain ⟨o2, o3, h⟩ := h
      refine awp_rc tab [1, 4, 5, 6, 8, 10] [] [(3, .dat (.tup [.d (.sl (.int .i64)) ((farkas_table_refuted.fn (x2.1.getD (Int.toNat (0 : Int)) d_farkas_table)).1), vb ((farkas_table_refuted.fn (x2.1.getD (Int.toNat (0 : Int)) d_farkas_table)).2)]))] [] [(0 : Int) ≤ (0 : Int) ∧ (0 : Int) < (x2.1.length : Int), OkC prog 27 [.agg [vi ((x2.1.getD (Int.toNat (0 : Int)) d_farkas_table).1), .d (.sl t_farkas_row) ((x2.1.getD (Int.toNat (0 : Int)) d_farkas_table).2)]] (.tup [.d (.sl (.int .i64)) ((farkas_table_refuted.fn (x2.1.getD (Int.toNat (0 : Int)) d_farkas_table)).1), vb ((farkas_table_refuted.fn (x2.1.getD (Int.toNat (0 : Int)) d_farkas_table)).2)])] ⟨62, [(1, vi a2), (4, .ref 0 0 0), (5, .ref 1 0 0), (6, .ref 2 0 0), (8, .d (.sl t_farkas_table) x2.1), (10, vb ((farkas_table_refuted.fn (x2.1.getD (Int.toNat (0 : Int)) d_farkas_table)).2))], [.box [.nils], .box [vi (0 : Int)], .box [vi x2.2]]⟩ (by kernel_rfl) (AllP.of (o2) (AllP.of (ok_farkas_table_refuted (x2.1.getD (Int.toNat (0 : Int)) d_farkas_table) (o3)) trivial)) ?_
      refine then_n (spine_c ?_)
      refine awp_abs (fun (x3 : (List Int) × Bool) => ⟨62, [(1, vi a2), (4, .ref 0 0 0), (5, .ref 1 0 0), (6, .ref 2 0 0), (8, .d (.sl t_farkas_table) x2.1), (10, vb x3.2)], [.box [.nils], .box [vi (0 : Int)], .box [vi x2.2]]⟩) (farkas_table_refuted.fn (x2.1.getD (Int.toNat (0 : Int)) d_farkas_table)) ?_
      intro x3 hx3
      replace h := h x3 hx3
      refine awp_spine ?_
      refine awp_rc tab [1, 4, 5, 6, 8, 35] [] [] [] [] ⟨62, [(1, vi a2), (4, .ref 0 0 0), (5, .ref 1 0 0), (6, .ref 2 0 0), (8, .d (.sl t_farkas_table) x2.1), (35, vb x3.2)], [.box [.nils], .box [vi (0 : Int)], .box [vi x2.2]]⟩ (by kernel_rfl) (trivial) ?_
      refine then_n (spine_c ?_)
      refine awp_cond (b := x3.2) (by kernel_rfl) (fun hb => ?_) (fun hb => ?_)
      · replace h := h.1 (hb)
        refine awp_spine ?_
        refine awp_rc tab [4, 5, 6] [] [] [] [] ⟨62, [(4, .ref 0 0 0), (5, .ref 1 0 0), (6, .ref 2 0 0)], [.box [.nils], .box [vi (0 : Int)], .box [vi (5 : Int)]]⟩ (by kernel_rfl) (trivial) ?_
        refine then_n (spine_c ?_)
        refine awp_ret (then_r (then_r (then_r (then_r (retW_G tab hk rfl (?_))))))
        exact ret_r (m := 0) (r := .tup [.d (.sl (.int .i64)) ((([] : List Int), 0, 5).1), vi ((([] : List Int), 0, 5).2.1), vi ((([] : List Int), 0, 5).2.2)]) (objs := []) hk [.keep [4, 5, 6], .nilBox 0 [0] (.int .i64), .keep [4, 5, 6]] ⟨62, [(4, .ref 0 0 0), (5, .ref 1 0 0), (6, .ref 2 0 0)], [.box [.d (.sl (.int .i64)) ([] : List Int)], .box [vi (0 : Int)], .box [vi (5 : Int)]]⟩ (by kernel_rfl) (by kernel_rfl) (Nat.le_refl 0) ⟨(([] : List Int), 0, 5), rfl, rfl, h⟩
      · replace h := h.2 (hb)
        refine awp_skip (then_n (spine_e (then_n (spine_e (then_n (?_))))))
        refine awpG_seq ?_
        refine awp_rc tab [1, 4, 5, 6, 8, 11] [] [] [] [] ⟨62, [(1, vi a2), (4, .ref 0 0 0), (5, .ref 1 0 0), (6, .ref 2 0 0), (8, .d (.sl t_farkas_table) x2.1), (11, .ref 3 0 0)], [.box [.nils], .box [vi (0 : Int)], .box [vi x2.2], .box [.nils, vi (1 : Int)]]⟩ (by kernel_rfl) (trivial) ?_
        refine then_n (?_)
        refine awpG_defer tab rfl (g := 31) (cv := [.ref 2 0 0, .ref 0 0 0, .ref 1 0 0]) (s1 := ⟨62, [(37, .fn (.func 31) [] [.ref 2 0 0, .ref 0 0 0, .ref 1 0 0]), (1, vi a2), (4, .ref 0 0 0), (5, .ref 1 0 0), (6, .ref 2 0 0), (8, .d (.sl t_farkas_table) x2.1), (11, .ref 3 0 0)], [.box [.nils], .box [vi (0 : Int)], .box [vi x2.2], .box [.nils, vi (1 : Int)]]⟩) [0] 1 (by kernel_rfl) (by kernel_rfl) (by kernel_rfl) (by kernel_rfl) fun cx2 hD => ?_
        refine awpG_of ?_
        have hk : cx2.E.len = 4 := hD.len
        refine awp_gh hk [.keep [1, 4, 5, 6, 8, 11]] ⟨62, [(1, vi a2), (4, .ref 0 0 0), (5, .ref 1 0 0), (6, .ref 2 0 0), (8, .d (.sl t_farkas_table) x2.1), (11, .ref 3 0 0)], [.box [.nils], .box [vi (0 : Int)], .box [vi x2.2], .box [.nils, vi (1 : Int)]]⟩ (by kernel_rfl) ?_
        refine awp_spine ?_
        refine awp_rc tab [4, 5, 6, 8, 11, 38, 39] [] [] [] [] ⟨62, [(4, .ref 0 0 0), (5, .ref 1 0 0), (6, .ref 2 0 0), (8, .d (.sl t_farkas_table) x2.1), (11, .ref 3 0 0), (38, vi a2), (39, vi (0 : Int))], [.box [.nils], .box [vi (0 : Int)], .box [vi x2.2], .box [.nils, vi (1 : Int)]]⟩ (by kernel_rfl) (trivial) ?_
        refine then_n (spine_c ?_)
        refine awp_block ?_
        obtain ⟨I12, ⟨n12a, hz12⟩, hI12⟩ := h
        refine awp_loopN (fun n s => ∃ (x4 : Int) (x5 : Int) (x6 : (List Int)) (x7 : Int), I12 n x4 x5 x6 x7 ∧ s = ⟨62, [(4, .ref 0 0 0), (5, .ref 1 0 0), (6, .ref 2 0 0), (8, .d (.sl t_farkas_table) x2.1), (11, .ref 3 0 0), (38, vi a2), (39, vi x4)], [.box [.nils], .box [vi (0 : Int)], .box [vi x5], .box [.d (.sl (.int .i64)) x6, vi x7]]⟩) (n := n12a) (s0 := ⟨62, [(4, .ref 0 0 0), (5, .ref 1 0 0), (6, .ref 2 0 0), (8, .d (.sl t_farkas_table) x2.1), (11, .ref 3 0 0), (38, vi a2), (39, vi (0 : Int))], [.box [.nils], .box [vi (0 : Int)], .box [vi x2.2], .box [.d (.sl (.int .i64)) ([] : List Int), vi (1 : Int)]]⟩) (wk_ghosts hk (l := [.keep [4, 5, 6, 8, 11, 38, 39], .keep [4, 5, 6, 8, 11, 38, 39], .nilBox 3 [0] (.int .i64), .keep [4, 5, 6, 8, 11, 38, 39], .keep [4, 5, 6, 8, 11, 38, 39]]) (by kernel_rfl)) ⟨0, x2.2, ([] : List Int), 1, hz12, rfl⟩ ?_
        rintro n12 s ⟨x4, x5, x6, x7, hx12, rfl⟩
        have h := hI12 n12 x4 x5 x6 x7 hx12
        refine awp_spine ?_
        refine awp_rc tab [4, 5, 6, 8, 11, 38, 39, 40] [] [] [] [] ⟨62, [(4, .ref 0 0 0), (5, .ref 1 0 0), (6, .ref 2 0 0), (8, .d (.sl t_farkas_table) x2.1), (11, .ref 3 0 0), (38, vi a2), (39, vi x4), (40, vb (decide (x4 < a2)))], [.box [.nils], .box [vi (0 : Int)], .box [vi x5], .box [.d (.sl (.int .i64)) x6, vi x7]]⟩ (by kernel_rfl) (trivial) ?_
        refine then_n (spine_c ?_)
        refine awp_spine ?_
        refine awp_cond (b := decide (x4 < a2)) (by kernel_rfl) (fun hb => ?_) (fun hb => ?_)
        · replace h := h.1 (of_decide_eq_true hb)
          refine awp_skip (then_n (spine_c ?_))
          refine awp_spine ?_
          refine awp_block ?_
          refine awp_spine ?_
          refine awp_rc tab [4, 5, 6, 8, 11, 12, 38, 39] [] [] [] [] ⟨62, [(4, .ref 0 0 0), (5, .ref 1 0 0), (6, .ref 2 0 0), (8, .d (.sl t_farkas_table) x2.1), (11, .ref 3 0 0), (12, vi x4), (38, vi a2), (39, vi x4)], [.box [.nils], .box [vi (0 : Int)], .box [vi x5], .box [.d (.sl (.int .i64)) x6, vi x7]]⟩ (by kernel_rfl) (trivial) ?_
          refine then_n (spine_c ?_)
          refine awp_spine ?_
          obtain ⟨o4, o5, o6, o7, h⟩ := h
          refine awp_dr tab mixed [4, 5, 6, 8, 11, 38, 39] [] [(7, .dat (.agg [vi ((farkas_point_value.fn (x6, x7) (x2.1.getD (Int.toNat (x4 + (1 : Int))) d_farkas_table)).1), vi ((farkas_point_value.fn (x6, x7) (x2.1.getD (Int.toNat (x4 + (1 : Int))) d_farkas_table)).2)])), (8, .dat (.tup [.agg [.d (.sl (.int .i64)) (((farkas_point_with.fn (x6, x7) (farkas_point_value.fn (x6, x7) (x2.1.getD (Int.toNat (x4 + (1 : Int))) d_farkas_table))).1).1), vi (((farkas_point_with.fn (x6, x7) (farkas_point_value.fn (x6, x7) (x2.1.getD (Int.toNat (x4 + (1 : Int))) d_farkas_table))).1).2)], vi ((farkas_point_with.fn (x6, x7) (farkas_point_value.fn (x6, x7) (x2.1.getD (Int.toNat (x4 + (1 : Int))) d_farkas_table))).2)]))] [] ⟨[[], [], [], [], [3], [2, 3, 4], [2, 3, 4, 5], [1, 2, 3, 4, 5, 6], [0, 1, 2, 3, 4, 5, 6, 7], [0, 1, 2, 3, 4, 5, 6, 7, 8], [0, 1, 2, 3, 4, 5, 6, 7, 8, 9], [0, 1, 2, 3, 4, 5, 6, 7, 8, 9], [0, 1, 2, 3, 4, 5, 6, 7, 8, 9, 10], [0, 1, 2, 3, 4, 5, 6, 7, 8, 9, 10, 11, 12]], [.agg [.d (.sl (.int .i64)) x6, vi x7], .agg [.d (.sl (.int .i64)) x6, vi x7], .d (.sl t_farkas_table) x2.1, vi x4, vi (x4 + (1 : Int)), .er [vi ((x2.1.getD (Int.toNat (x4 + (1 : Int))) d_farkas_table).1), .d (.sl t_farkas_row) ((x2.1.getD (Int.toNat (x4 + (1 : Int))) d_farkas_table).2)], .agg [vi ((x2.1.getD (Int.toNat (x4 + (1 : Int))) d_farkas_table).1), .d (.sl t_farkas_row) ((x2.1.getD (Int.toNat (x4 + (1 : Int))) d_farkas_table).2)], .agg [vi ((farkas_point_value.fn (x6, x7) (x2.1.getD (Int.toNat (x4 + (1 : Int))) d_farkas_table)).1), vi ((farkas_point_value.fn (x6, x7) (x2.1.getD (Int.toNat (x4 + (1 : Int))) d_farkas_table)).2)], .tup [.agg [.d (.sl (.int .i64)) (((farkas_point_with.fn (x6, x7) (farkas_point_value.fn (x6, x7) (x2.1.getD (Int.toNat (x4 + (1 : Int))) d_farkas_table))).1).1), vi (((farkas_point_with.fn (x6, x7) (farkas_point_value.fn (x6, x7) (x2.1.getD (Int.toNat (x4 + (1 : Int))) d_farkas_table))).1).2)], vi ((farkas_point_with.fn (x6, x7) (farkas_point_value.fn (x6, x7) (x2.1.getD (Int.toNat (x4 + (1 : Int))) d_farkas_table))).2)], .tup [.agg [.d (.sl (.int .i64)) (((farkas_point_with.fn (x6, x7) (farkas_point_value.fn (x6, x7) (x2.1.getD (Int.toNat (x4 + (1 : Int))) d_farkas_table))).1).1), vi (((farkas_point_with.fn (x6, x7) (farkas_point_value.fn (x6, x7) (x2.1.getD (Int.toNat (x4 + (1 : Int))) d_farkas_table))).1).2)], vi ((farkas_point_with.fn (x6, x7) (farkas_point_value.fn (x6, x7) (x2.1.getD (Int.toNat (x4 + (1 : Int))) d_farkas_table))).2)], .agg [.d (.sl (.int .i64)) (((farkas_point_with.fn (x6, x7) (farkas_point_value.fn (x6, x7) (x2.1.getD (Int.toNat (x4 + (1 : Int))) d_farkas_table))).1).1), vi (((farkas_point_with.fn (x6, x7) (farkas_point_value.fn (x6, x7) (x2.1.getD (Int.toNat (x4 + (1 : Int))) d_farkas_table))).1).2)], vi ((farkas_point_with.fn (x6, x7) (farkas_point_value.fn (x6, x7) (x2.1.getD (Int.toNat (x4 + (1 : Int))) d_farkas_table))).2), .tup [], .tup []], [none, none, none, none, some (-9223372036854775808 ≤ x4 + (1 : Int) ∧ x4 + (1 : Int) ≤ 9223372036854775807), some ((0 : Int) ≤ (x4 + (1 : Int)) ∧ (x4 + (1 : Int)) < (x2.1.length : Int)), none, some (OkC prog 33 [.agg [.d (.sl (.int .i64)) x6, vi x7], .agg [vi ((x2.1.getD (Int.toNat (x4 + (1 : Int))) d_farkas_table).1), .d (.sl t_farkas_row) ((x2.1.getD (Int.toNat (x4 + (1 : Int))) d_farkas_table).2)]] (.agg [vi ((farkas_point_value.fn (x6, x7) (x2.1.getD (Int.toNat (x4 + (1 : Int))) d_farkas_table)).1), vi ((farkas_point_value.fn (x6, x7) (x2.1.getD (Int.toNat (x4 + (1 : Int))) d_farkas_table)).2)])), some (OkC prog 32 [.agg [.d (.sl (.int .i64)) x6, vi x7], .agg [vi ((farkas_point_value.fn (x6, x7) (x2.1.getD (Int.toNat (x4 + (1 : Int))) d_farkas_table)).1), vi ((farkas_point_value.fn (x6, x7) (x2.1.getD (Int.toNat (x4 + (1 : Int))) d_farkas_table)).2)]] (.tup [.agg [.d (.sl (.int .i64)) (((farkas_point_with.fn (x6, x7) (farkas_point_value.fn (x6, x7) (x2.1.getD (Int.toNat (x4 + (1 : Int))) d_farkas_table))).1).1), vi (((farkas_point_with.fn (x6, x7) (farkas_point_value.fn (x6, x7) (x2.1.getD (Int.toNat (x4 + (1 : Int))) d_farkas_table))).1).2)], vi ((farkas_point_with.fn (x6, x7) (farkas_point_value.fn (x6, x7) (x2.1.getD (Int.toNat (x4 + (1 : Int))) d_farkas_table))).2)])), none, none, none, none, none], [12, 13], [([], [.box [.nils], .box [vi (0 : Int)], .box [vi x5], .box [.d (.sl (.int .i64)) x6, vi x7]]), ([12], [.box [.nils], .box [vi (0 : Int)], .box [vi x5], .box [.d (.sl (.int .i64)) (((farkas_point_with.fn (x6, x7) (farkas_point_value.fn (x6, x7) (x2.1.getD (Int.toNat (x4 + (1 : Int))) d_farkas_table))).1).1), vi (((farkas_point_with.fn (x6, x7) (farkas_point_value.fn (x6, x7) (x2.1.getD (Int.toNat (x4 + (1 : Int))) d_farkas_table))).1).2)]]), ([12, 13], [.box [.nils], .box [vi (0 : Int)], .box [vi ((farkas_point_with.fn (x6, x7) (farkas_point_value.fn (x6, x7) (x2.1.getD (Int.toNat (x4 + (1 : Int))) d_farkas_table))).2)], .box [.d (.sl (.int .i64)) (((farkas_point_with.fn (x6, x7) (farkas_point_value.fn (x6, x7) (x2.1.getD (Int.toNat (x4 + (1 : Int))) d_farkas_table))).1).1), vi (((farkas_point_with.fn (x6, x7) (farkas_point_value.fn (x6, x7) (x2.1.getD (Int.toNat (x4 + (1 : Int))) d_farkas_table))).1).2)]])]⟩ ⟨62, [(4, .ref 0 0 0), (5, .ref 1 0 0), (6, .ref 2 0 0), (8, .d (.sl t_farkas_table) x2.1), (11, .ref 3 0 0), (38, vi a2), (39, vi x4)], [.box [.nils], .box [vi (0 : Int)], .box [vi ((farkas_point_with.fn (x6, x7) (farkas_point_value.fn (x6, x7) (x2.1.getD (Int.toNat (x4 + (1 : Int))) d_farkas_table))).2)], .box [.d (.sl (.int .i64)) (((farkas_point_with.fn (x6, x7) (farkas_point_value.fn (x6, x7) (x2.1.getD (Int.toNat (x4 + (1 : Int))) d_farkas_table))).1).1), vi (((farkas_point_with.fn (x6, x7) (farkas_point_value.fn (x6, x7) (x2.1.getD (Int.toNat (x4 + (1 : Int))) d_farkas_table))).1).2)]]⟩ (by kernel_rfl) (AllO.n (AllO.n (AllO.n (AllO.n (AllO.s (o4) (AllO.s (o5) (AllO.n (AllO.s (ok_farkas_point_value (x6, x7) (x2.1.getD (Int.toNat (x4 + (1 : Int))) d_farkas_table) (o6)) (AllO.s (ok_farkas_point_with (x6, x7) (farkas_point_value.fn (x6, x7) (x2.1.getD (Int.toNat (x4 + (1 : Int))) d_farkas_table)) (o7)) (AllO.n (AllO.n (AllO.n (AllO.n (AllO.n (AllO.e))))))))))))))) ?_
          refine then_n (spine_c ?_)
          refine awp_abs (fun (x13 : farkas_fraction) => ⟨62, [(4, .ref 0 0 0), (5, .ref 1 0 0), (6, .ref 2 0 0), (8, .d (.sl t_farkas_table) x2.1), (11, .ref 3 0 0), (38, vi a2), (39, vi x4)], [.box [.nils], .box [vi (0 : Int)], .box [vi ((farkas_point_with.fn (x6, x7) x13).2)], .box [.d (.sl (.int .i64)) (((farkas_point_with.fn (x6, x7) x13).1).1), vi (((farkas_point_with.fn (x6, x7) x13).1).2)]]⟩) (farkas_point_value.fn (x6, x7) (x2.1.getD (Int.toNat (x4 + (1 : Int))) d_farkas_table)) ?_
          intro x13 hx13
          replace h := h x13 hx13
          refine awp_abs (fun (x14 : farkas_point × Int) => ⟨62, [(4, .ref 0 0 0), (5, .ref 1 0 0), (6, .ref 2 0 0), (8, .d (.sl t_farkas_table) x2.1), (11, .ref 3 0 0), (38, vi a2), (39, vi x4)], [.box [.nils], .box [vi (0 : Int)], .box [vi x14.2], .box [.d (.sl (.int .i64)) x14.1.1, vi x14.1.2]]⟩) (farkas_point_with.fn (x6, x7) x13) ?_
          intro x14 hx14
          replace h := h x14 hx14
          refine awp_abs (fun (x15 : Int) => ⟨62, [(4, .ref 0 0 0), (5, .ref 1 0 0), (6, .ref 2 0 0), (8, .d (.sl t_farkas_table) x2.1), (11, .ref 3 0 0), (38, vi a2), (39, vi x4)], [.box [.nils], .box [vi (0 : Int)], .box [vi x15], .box [.d (.sl (.int .i64)) x14.1.1, vi x14.1.2]]⟩) (x14.2) ?_
          intro x15 hx15
          replace h := h x15 hx15
          refine awp_abs (fun (x16 : (List Int)) => ⟨62, [(4, .ref 0 0 0), (5, .ref 1 0 0), (6, .ref 2 0 0), (8, .d (.sl t_farkas_table) x2.1), (11, .ref 3 0 0), (38, vi a2), (39, vi x4)], [.box [.nils], .box [vi (0 : Int)], .box [vi x15], .box [.d (.sl (.int .i64)) x16, vi x14.1.2]]⟩) (x14.1.1) ?_
          intro x16 hx16
          replace h := h x16 hx16
          refine awp_abs (fun (x17 : Int) => ⟨62, [(4, .ref 0 0 0), (5, .ref 1 0 0), (6, .ref 2 0 0), (8, .d (.sl t_farkas_table) x2.1), (11, .ref 3 0 0), (38, vi a2), (39, vi x4)], [.box [.nils], .box [vi (0 : Int)], .box [vi x15], .box [.d (.sl (.int .i64)) x16, vi x17]]⟩) (x14.1.2) ?_
          intro x17 hx17
          replace h := h x17 hx17
          refine awp_spine ?_
          refine awp_rc tab [4, 5, 6, 8, 11, 38, 39, 55] [] [] [] [] ⟨62, [(4, .ref 0 0 0), (5, .ref 1 0 0), (6, .ref 2 0 0), (8, .d (.sl t_farkas_table) x2.1), (11, .ref 3 0 0), (38, vi a2), (39, vi x4), (55, vb (x15 != (0 : Int)))], [.box [.nils], .box [vi (0 : Int)], .box [vi x15], .box [.d (.sl (.int .i64)) x16, vi x17]]⟩ (by kernel_rfl) (trivial) ?_
          refine then_n (spine_c ?_)
          refine awp_cond (b := x15 != (0 : Int)) (by kernel_rfl) (fun hb => ?_) (fun hb => ?_)
          · replace h := h.1 (bne_iff_ne.mp hb)
            refine awp_spine ?_
            refine awp_dr tab mixed [4, 5, 6] [] [] [] ⟨[[], [], [1], [0, 1, 2]], [vi x15, .tup [], .tup [], .tup []], [none, none, none, none], [], [([], [.box [.nils], .box [vi (0 : Int)], .box [vi x15], .box [.d (.sl (.int .i64)) x16, vi x17]])]⟩ ⟨62, [(4, .ref 0 0 0), (5, .ref 1 0 0), (6, .ref 2 0 0)], [.box [.nils], .box [vi (0 : Int)], .box [vi x15], .box [.d (.sl (.int .i64)) x16, vi x17]]⟩ (by kernel_rfl) (AllO.n (AllO.n (AllO.n (AllO.n (AllO.e))))) ?_
            refine then_n (spine_c ?_)
            refine awp_ret (then_r (then_r (then_r (then_r (blk_r (then_r (then_r (then_r (then_r (blk_r (then_r (?_))))))))))))
            refine retD tab hkE rfl hD (.inr rfl) Try.func31 (cg := (spine (subC [0] Bfarkas_Inner_1) [(.cond (.tmp 4) (subC [1, 0] Bfarkas_Inner_1) .skip)])) (by kernel_rfl) call_farkas_Inner_1 (by kernel_rfl) (by kernel_rfl) (s' := ⟨62, [(4, .ref 0 0 0), (5, .ref 1 0 0), (6, .ref 2 0 0)], [.box [.d (.sl (.int .i64)) ([] : List Int)], .box [vi (0 : Int)], .box [vi x15], .dead]⟩) (wk_ghosts hk (l := [.keep [4, 5, 6], .freeze 3, .nilBox 0 [0] (.int .i64)]) (by kernel_rfl)) fun cxg hgd hgi hk => ?_
            show AWp prog cxg _ _ ⟨5, [(0, .ref 2 0 0), (1, .ref 0 0 0), (2, .ref 1 0 0)], [.box [.d (.sl (.int .i64)) ([] : List Int)], .box [vi (0 : Int)], .box [vi x15], .dead]⟩
            replace hk : cxg.E.len = 4 := hk
            refine awp_spine ?_
            refine awp_rc tab [1, 2, 4] [] [] [] [] ⟨5, [(1, .ref 0 0 0), (2, .ref 1 0 0), (4, vb (x15 != (0 : Int)))], [.box [.d (.sl (.int .i64)) ([] : List Int)], .box [vi (0 : Int)], .box [vi x15], .dead]⟩ (by kernel_rfl) (trivial) ?_
            refine then_n (spine_c ?_)
            refine awp_cond (b := x15 != (0 : Int)) (by kernel_rfl) (fun hb => ?_) (fun hb => ?_)
            · replace h := h.1 (bne_iff_ne.mp hb)
              refine awp_rc tab [] [] [] [] [] ⟨5, [], [.box [.nils], .box [vi (0 : Int)], .box [vi x15], .dead]⟩ (by kernel_rfl) (trivial) ?_
              refine then_n (spine_e ?_)
              exact endG (m := 0) (he := .inl rfl) (r := .tup [.d (.sl (.int .i64)) ((([] : List Int), 0, x15).1), vi ((([] : List Int), 0, x15).2.1), vi ((([] : List Int), 0, x15).2.2)]) (objs := []) (hE := hkE) (hk0 := rfl) [.keep [4, 5, 6], .nilBox 0 [0] (.int .i64), .keep [4, 5, 6]] ⟨62, [(4, .ref 0 0 0), (5, .ref 1 0 0), (6, .ref 2 0 0)], [.box [.d (.sl (.int .i64)) ([] : List Int)], .box [vi (0 : Int)], .box [vi x15], .dead]⟩ (by kernel_rfl) (by kernel_rfl) (Nat.le_refl 0) ⟨(([] : List Int), 0, x15), rfl, rfl, h⟩
            · replace h := h.2 (bne_f hb)
              refine awp_skip (then_n (spine_e ?_))
              exact endG (m := 0) (he := .inl rfl) (r := .tup [.d (.sl (.int .i64)) ((([] : List Int), 0, x15).1), vi ((([] : List Int), 0, x15).2.1), vi ((([] : List Int), 0, x15).2.2)]) (objs := []) (hE := hkE) (hk0 := rfl) [.keep [4, 5, 6]] ⟨62, [(4, .ref 0 0 0), (5, .ref 1 0 0), (6, .ref 2 0 0)], [.box [.d (.sl (.int .i64)) ([] : List Int)], .box [vi (0 : Int)], .box [vi x15], .dead]⟩ (by kernel_rfl) (by kernel_rfl) (Nat.le_refl 0) ⟨(([] : List Int), 0, x15), rfl, rfl, h⟩
          · replace h := h.2 (bne_f hb)
            refine awp_skip (then_n (spine_e (then_n (spine_e (then_n (spine_e (blk_n (then_n (spine_c ?_)))))))))
            obtain ⟨o108, h⟩ := h
            refine awp_rc tab [4, 5, 6, 8, 11, 38, 39] [] [] [] [-9223372036854775808 ≤ x4 + (1 : Int) ∧ x4 + (1 : Int) ≤ 9223372036854775807] ⟨62, [(4, .ref 0 0 0), (5, .ref 1 0 0), (6, .ref 2 0 0), (8, .d (.sl t_farkas_table) x2.1), (11, .ref 3 0 0), (38, vi a2), (39, vi (x4 + (1 : Int)))], [.box [.nils], .box [vi (0 : Int)], .box [vi x15], .box [.d (.sl (.int .i64)) x16, vi x17]]⟩ (by kernel_rfl) (AllP.of (o108) trivial) ?_
            refine then_n (spine_e (then_n (spine_e (then_n (spine_e (then_n (?_)))))))
            obtain ⟨m, hm, h⟩ := h
            exact ⟨m, hm, ⟨62, [(4, .ref 0 0 0), (5, .ref 1 0 0), (6, .ref 2 0 0), (8, .d (.sl t_farkas_table) x2.1), (11, .ref 3 0 0), (38, vi a2), (39, vi (x4 + (1 : Int)))], [.box [.nils], .box [vi (0 : Int)], .box [vi x15], .box [.d (.sl (.int .i64)) x16, vi x17]]⟩, wk_ghosts hk (l := [.keep [4, 5, 6, 8, 11, 38, 39], .keep [4, 5, 6, 8, 11, 38, 39], .keep [4, 5, 6, 8, 11, 38, 39]]) (by kernel_rfl), x4 + (1 : Int), x15, x16, x17, h, rfl⟩
        · replace h := h.2 (of_decide_eq_false hb)
          refine awp_exit (then_x (then_x (then_x (blk_h (then_n (spine_c ?_))))))
          refine awp_spine ?_
          refine awp_dr tab mixed [4, 5, 6] [] [] [] ⟨[[], [0], [], [2], [0, 1], [0, 1, 2, 3, 4], [0, 1, 2, 3, 4, 5]], [.ref 3 0 0, .d (.sl (.int .i64)) x6, .ref 3 0 1, vi x7, .tup [], .tup [], .tup []], [none, none, none, none, none, none, none], [4, 5, 6], [([], [.box [.nils], .box [vi (0 : Int)], .box [vi x5], .box [.d (.sl (.int .i64)) x6, vi x7]]), ([4], [.box [.d (.sl (.int .i64)) x6], .box [vi (0 : Int)], .box [vi x5], .box [.d (.sl (.int .i64)) x6, vi x7]]), ([4, 5], [.box [.d (.sl (.int .i64)) x6], .box [vi x7], .box [vi x5], .box [.d (.sl (.int .i64)) x6, vi x7]]), ([4, 5, 6], [.box [.d (.sl (.int .i64)) x6], .box [vi x7], .box [vi (0 : Int)], .box [.d (.sl (.int .i64)) x6, vi x7]])]⟩ ⟨62, [(4, .ref 0 0 0), (5, .ref 1 0 0), (6, .ref 2 0 0)], [.box [.d (.sl (.int .i64)) x6], .box [vi x7], .box [vi (0 : Int)], .box [.d (.sl (.int .i64)) x6, vi x7]]⟩ (by kernel_rfl) (AllO.n (AllO.n (AllO.n (AllO.n (AllO.n (AllO.n (AllO.n (AllO.e)))))))) ?_
          refine then_n (spine_c ?_)
          refine awp_ret (then_r (then_r (?_)))
          refine retD tab hkE rfl hD (.inr rfl) Try.func31 (cg := (spine (subC [0] Bfarkas_Inner_1) [(.cond (.tmp 4) (subC [1, 0] Bfarkas_Inner_1) .skip)])) (by kernel_rfl) call_farkas_Inner_1 (by kernel_rfl) (by kernel_rfl) (s' := ⟨62, [(4, .ref 0 0 0), (5, .ref 1 0 0), (6, .ref 2 0 0)], [.box [.d (.sl (.int .i64)) x6], .box [vi x7], .box [vi (0 : Int)], .dead]⟩) (wk_ghosts hk (l := [.keep [4, 5, 6], .freeze 3]) (by kernel_rfl)) fun cxg hgd hgi hk => ?_
          show AWp prog cxg _ _ ⟨5, [(0, .ref 2 0 0), (1, .ref 0 0 0), (2, .ref 1 0 0)], [.box [.d (.sl (.int .i64)) x6], .box [vi x7], .box [vi (0 : Int)], .dead]⟩
          replace hk : cxg.E.len = 4 := hk
          refine awp_spine ?_
          refine awp_rc tab [1, 2, 4] [] [] [] [] ⟨5, [(1, .ref 0 0 0), (2, .ref 1 0 0), (4, vb ((0 : Int) != (0 : Int)))], [.box [.d (.sl (.int .i64)) x6], .box [vi x7], .box [vi (0 : Int)], .dead]⟩ (by kernel_rfl) (trivial) ?_
          refine then_n (spine_c ?_)
          refine awp_cond (b := (0 : Int) != (0 : Int)) (by kernel_rfl) (fun hb => ?_) (fun hb => ?_)
          · replace h := h.1 (bne_iff_ne.mp hb)
            refine awp_rc tab [] [] [] [] [] ⟨5, [], [.box [.nils], .box [vi (0 : Int)], .box [vi (0 : Int)], .dead]⟩ (by kernel_rfl) (trivial) ?_
            refine then_n (spine_e ?_)
            exact endG (m := 0) (he := .inl rfl) (r := .tup [.d (.sl (.int .i64)) ((([] : List Int), 0, 0).1), vi ((([] : List Int), 0, 0).2.1), vi ((([] : List Int), 0, 0).2.2)]) (objs := []) (hE := hkE) (hk0 := rfl) [.keep [4, 5, 6], .nilBox 0 [0] (.int .i64), .keep [4, 5, 6]] ⟨62, [(4, .ref 0 0 0), (5, .ref 1 0 0), (6, .ref 2 0 0)], [.box [.d (.sl (.int .i64)) ([] : List Int)], .box [vi (0 : Int)], .box [vi (0 : Int)], .dead]⟩ (by kernel_rfl) (by kernel_rfl) (Nat.le_refl 0) ⟨(([] : List Int), 0, 0), rfl, rfl, h⟩
          · replace h := h.2 (bne_f hb)
            refine awp_skip (then_n (spine_e ?_))
            exact endG (m := 0) (he := .inl rfl) (r := .tup [.d (.sl (.int .i64)) ((x6, x7, 0).1), vi ((x6, x7, 0).2.1), vi ((x6, x7, 0).2.2)]) (objs := []) (hE := hkE) (hk0 := rfl) [.keep [4, 5, 6]] ⟨62, [(4, .ref 0 0 0), (5, .ref 1 0 0), (6, .ref 2 0 0)], [.box [.d (.sl (.int .i64)) x6], .box [vi x7], .box [vi (0 : Int)], .dead]⟩ (by kernel_rfl) (by kernel_rfl) (Nat.le_refl 0) ⟨(x6, x7, 0), rfl, rfl, h⟩
theorem ok_farkas_Inner (a1 : (List api_Cond)) (a2 : Int) : OkC prog 13 [.d (.sl t_api_Cond) a1, vi a2] (.tup [.d (.sl (.int .i64)) ((farkas_Inner.fn a1 a2).1), vi ((farkas_Inner.fn a1 a2).2.1), vi ((farkas_Inner.fn a1 a2).2.2)]) :=
  OkC.of call_farkas_Inner ((walk_farkas_Inner a1 a2 _ (farkas_Inner.spec a1 a2)).mono fun r o ⟨x, hr, ho, hx⟩ => ⟨by rw [hr, hx], ho⟩) rfl rfl (fun _ => rfl)

noncomputable abbrev Bfarkas_Prove : Code := bodyOf Try.f11
theorem call_farkas_Prove : CallOk prog 11 := ⟨_, Try.func11, by kernel_rfl, by kernel_rfl⟩
theorem walk_farkas_Prove (a1 : (List api_Cond)) (a2 : Int) (Q : (List Int) × Int → Prop) (h : farkas_Prove.wp a1 a2 Q) : VCalls prog 11 [.d (.sl t_api_Cond) a1, vi a2] [] (fun r o => ∃ x, r = .tup [.d (.sl (.int .i64)) x.1, vi x.2] ∧ o = [] ∧ Q x) := by
  refine vcalls_body tab Try.func11 (c := (spine (subC [0] Bfarkas_Prove) [(spine (subC [1, 0, 0] Bfarkas_Prove) [(spine (subC [1, 0, 1, 0] Bfarkas_Prove) [(.cond (.tmp 15) (spine (subC [1, 0, 1, 1, 0, 0] Bfarkas_Prove) [.ret]) .skip)]), (spine (subC [1, 1, 0] Bfarkas_Prove) [(spine (subC [1, 1, 1, 0, 0] Bfarkas_Prove) [(.cond (.tmp 24) (spine (subC [1, 1, 1, 0, 1, 0, 0] Bfarkas_Prove) [.ret]) .skip), (spine (subC [1, 1, 1, 1, 0] Bfarkas_Prove) [(spine (subC [1, 1, 1, 1, 1, 0, 0] Bfarkas_Prove) [(.cond (.tmp 34) (spine (subC [1, 1, 1, 1, 1, 0, 1, 0, 0] Bfarkas_Prove) [.ret]) .skip), (spine (subC [1, 1, 1, 1, 1, 1, 0] Bfarkas_Prove) [.ret])])])])])])])) (by kernel_rfl) (Nat.le_of_ble_eq_true (by kernel_rfl)) fun cx hd hi hk => ?_
  show AWp prog cx _ _ ⟨36, [(0, .d (.sl t_api_Cond) a1), (1, vi a2)], []⟩
  replace hk : cx.E.len = 0 := hk
  unfold farkas_Prove.wp at h
  refine awp_spine ?_
  refine awp_rc tab [0, 1] [] [] [] [] ⟨36, [(0, .d (.sl t_api_Cond) a1), (1, vi a2)], []⟩ (by kernel_rfl) (trivial) ?_
  refine then_n (spine_c ?_)
  refine awp_spine ?_
  refine awp_rc tab [0, 1, 6] [] [(2, .dat (vi (farkas_asked.fn a1 a2)))] [] [OkC prog 25 [.d (.sl t_api_Cond) a1, vi a2] (vi (farkas_asked.fn a1 a2))] ⟨36, [(0, .d (.sl t_api_Cond) a1), (1, vi a2), (6, vi (farkas_asked.fn a1 a2))], []⟩ (by kernel_rfl) (AllP.of (ok_farkas_asked a1 a2) trivial) ?_
  refine then_n (spine_c ?_)
  refine awp_abs (fun (x1 : Int) => ⟨36, [(0, .d (.sl t_api_Cond) a1), (1, vi a2), (6, vi x1)], []⟩) (farkas_asked.fn a1 a2) ?_
  intro x1 hx1
  replace h := h x1 hx1
  refine awp_spine ?_
  refine awp_rc tab [0, 1, 6, 15] [] [] [] [] ⟨36, [(0, .d (.sl t_api_Cond) a1), (1, vi a2), (6, vi x1), (15, vb (x1 != (0 : Int)))], []⟩ (by kernel_rfl) (trivial) ?_
  refine then_n (spine_c ?_)
  refine awp_cond (b := x1 != (0 : Int)) (by kernel_rfl) (fun hb => ?_) (fun hb => ?_)
  · replace h := h.1 (bne_iff_ne.mp hb)
    refine awp_spine ?_
    refine awp_rc tab [4, 5] [] [] [] [] ⟨36, [(4, .nils), (5, vi x1)], []⟩ (by kernel_rfl) (trivial) ?_
    refine then_n (spine_c ?_)
    refine awp_ret (then_r (then_r (then_r (then_r (?_)))))
    exact ret_r (m := 0) (r := .tup [.d (.sl (.int .i64)) ((([] : List Int), x1).1), vi ((([] : List Int), x1).2)]) (objs := []) hk [.keep [4, 5], .nilAt 4 [] (.int .i64), .keep [4, 5]] ⟨36, [(4, .d (.sl (.int .i64)) ([] : List Int)), (5, vi x1)], []⟩ (by kernel_rfl) (by kernel_rfl) (Nat.le_refl 0) ⟨(([] : List Int), x1), rfl, rfl, h⟩
  · replace h := h.2 (bne_f hb)
    refine awp_skip (then_n (spine_e (then_n (spine_c ?_))))
    refine awp_spine ?_
    obtain ⟨o1, h⟩ := h
    refine awp_rc tab [7, 8] [] [(2, .dat (.tup [.d (.sl t_farkas_table) ((farkas_eliminated.fn a1 a2).1), vi ((farkas_eliminated.fn a1 a2).2)]))] [] [OkC prog 26 [.d (.sl t_api_Cond) a1, vi a2] (.tup [.d (.sl t_farkas_table) ((farkas_eliminated.fn a1 a2).1), vi ((farkas_eliminated.fn a1 a2).2)])] ⟨36, [(7, .d (.sl t_farkas_table) ((farkas_eliminated.fn a1 a2).1)), (8, vi ((farkas_eliminated.fn a1 a2).2))], []⟩ (by kernel_rfl) (AllP.of (ok_farkas_eliminated a1 a2 (o1)) trivial) ?_
    refine then_n (spine_c ?_)
    refine awp_abs (fun (x2 : (List farkas_table) × Int) => ⟨36, [(7, .d (.sl t_farkas_table) x2.1), (8, vi x2.2)], []⟩) (farkas_eliminated.fn a1 a2) ?_
    intro x2 hx2
    replace h := h x2 hx2
    refine awp_spine ?_
    refine awp_rc tab [7, 8, 24] [] [] [] [] ⟨36, [(7, .d (.sl t_farkas_table) x2.1), (8, vi x2.2), (24, vb (x2.2 != (0 : Int)))], []⟩ (by kernel_rfl) (trivial) ?_
    refine then_n (spine_c ?_)
    refine awp_cond (b := x2.2 != (0 : Int)) (by kernel_rfl) (fun hb => ?_) (fun hb => ?_)
    · replace h := h.1 (bne_iff_ne.mp hb)
      refine awp_spine ?_
      refine awp_rc tab [4, 5] [] [] [] [] ⟨36, [(4, .nils), (5, vi x2.2)], []⟩ (by kernel_rfl) (trivial) ?_
      refine then_n (spine_c ?_)
      refine awp_ret (then_r (then_r (then_r (then_r (then_r (?_))))))
      exact ret_r (m := 0) (r := .tup [.d (.sl (.int .i64)) ((([] : List Int), x2.2).1), vi ((([] : List Int), x2.2).2)]) (objs := []) hk [.keep [4, 5], .nilAt 4 [] (.int .i64), .keep [4, 5]] ⟨36, [(4, .d (.sl (.int .i64)) ([] : List Int)), (5, vi x2.2)], []⟩ (by kernel_rfl) (by kernel_rfl) (Nat.le_refl 0) ⟨(([] : List Int), x2.2), rfl, rfl, h⟩
    · replace h := h.2 (bne_f hb)
      refine awp_skip (then_n (spine_c ?_))
      refine awp_spine ?_
      obtain ⟨o2, o3, h⟩ := h
      refine awp_rc tab [9, 10] [] [(3, .dat (.tup [.d (.sl (.int .i64)) ((farkas_table_refuted.fn (x2.1.getD (Int.toNat (0 : Int)) d_farkas_table)).1), vb ((farkas_table_refuted.fn (x2.1.getD (Int.toNat (0 : Int)) d_farkas_table)).2)]))] [] [(0 : Int) ≤ (0 : Int) ∧ (0 : Int) < (x2.1.length : Int), OkC prog 27 [.agg [vi ((x2.1.getD (Int.toNat (0 : Int)) d_farkas_table).1), .d (.sl t_farkas_row) ((x2.1.getD (Int.toNat (0 : Int)) d_farkas_table).2)]] (.tup [.d (.sl (.int .i64)) ((farkas_table_refuted.fn (x2.1.getD (Int.toNat (0 : Int)) d_farkas_table)).1), vb ((farkas_table_refuted.fn (x2.1.getD (Int.toNat (0 : Int)) d_farkas_table)).2)])] ⟨36, [(9, .d (.sl (.int .i64)) ((farkas_table_refuted.fn (x2.1.getD (Int.toNat (0 : Int)) d_farkas_table)).1)), (10, vb ((farkas_table_refuted.fn (x2.1.getD (Int.toNat (0 : Int)) d_farkas_table)).2))], []⟩ (by kernel_rfl) (AllP.of (o2) (AllP.of (ok_farkas_table_refuted (x2.1.getD (Int.toNat (0 : Int)) d_farkas_table) (o3)) trivial)) ?_
      refine then_n (spine_c ?_)
      refine awp_abs (fun (x3 : (List Int) × Bool) => ⟨36, [(9, .d (.sl (.int .i64)) x3.1), (10, vb x3.2)], []⟩) (farkas_table_refuted.fn (x2.1.getD (Int.toNat (0 : Int)) d_farkas_table)) ?_
      intro x3 hx3
      replace h := h x3 hx3
      refine awp_abs (fun (x4 : (List Int)) => ⟨36, [(9, .d (.sl (.int .i64)) x4), (10, vb x3.2)], []⟩) (x3.1) ?_
      intro x4 hx4
      replace h := h x4 hx4
      refine awp_spine ?_
      refine awp_rc tab [9, 34] [] [] [] [] ⟨36, [(9, .d (.sl (.int .i64)) x4), (34, vb (!x3.2))], []⟩ (by kernel_rfl) (trivial) ?_
      refine then_n (spine_c ?_)
      refine awp_cond (b := !x3.2) (by kernel_rfl) (fun hb => ?_) (fun hb => ?_)
      · replace h := h.1 ((nt hb))
        refine awp_spine ?_
        refine awp_rc tab [4, 5] [] [] [] [] ⟨36, [(4, .nils), (5, vi (5 : Int))], []⟩ (by kernel_rfl) (trivial) ?_
        refine then_n (spine_c ?_)
        refine awp_ret (then_r (then_r (then_r (then_r (then_r (then_r (then_r (?_))))))))
        exact ret_r (m := 0) (r := .tup [.d (.sl (.int .i64)) ((([] : List Int), 5).1), vi ((([] : List Int), 5).2)]) (objs := []) hk [.keep [4, 5], .nilAt 4 [] (.int .i64), .keep [4, 5]] ⟨36, [(4, .d (.sl (.int .i64)) ([] : List Int)), (5, vi (5 : Int))], []⟩ (by kernel_rfl) (by kernel_rfl) (Nat.le_refl 0) ⟨(([] : List Int), 5), rfl, rfl, h⟩
      · replace h := h.2 ((nf hb))
        refine awp_skip (then_n (spine_c ?_))
        refine awp_spine ?_
        refine awp_rc tab [4, 5] [] [] [] [] ⟨36, [(4, .d (.sl (.int .i64)) x4), (5, vi (0 : Int))], []⟩ (by kernel_rfl) (trivial) ?_
        refine then_n (spine_c ?_)
        refine awp_ret (then_r (then_r (then_r (then_r (then_r (then_r (then_r (?_))))))))
        exact ret_r (m := 0) (r := .tup [.d (.sl (.int .i64)) ((x4, 0).1), vi ((x4, 0).2)]) (objs := []) hk [.keep [4, 5]] ⟨36, [(4, .d (.sl (.int .i64)) x4), (5, vi (0 : Int))], []⟩ (by kernel_rfl) (by kernel_rfl) (Nat.le_refl 0) ⟨(x4, 0), rfl, rfl, h⟩
theorem ok_farkas_Prove (a1 : (List api_Cond)) (a2 : Int) : OkC prog 11 [.d (.sl t_api_Cond) a1, vi a2] (.tup [.d (.sl (.int .i64)) ((farkas_Prove.fn a1 a2).1), vi ((farkas_Prove.fn a1 a2).2)]) :=
  OkC.of call_farkas_Prove ((walk_farkas_Prove a1 a2 _ (farkas_Prove.spec a1 a2)).mono fun r o ⟨x, hr, ho, hx⟩ => ⟨by rw [hr, hx], ho⟩) rfl rfl (fun _ => rfl)

noncomputable abbrev Blaw09_ge : Code := bodyOf Try.f24
theorem call_law09_ge : CallOk prog 24 := ⟨_, Try.func24, by kernel_rfl, by kernel_rfl⟩
theorem walk_law09_ge (a1 : Int) (a2 : (List Int)) (Q : api_Cond → Prop) (h : law09_ge.wp a1 a2 Q) : VCalls prog 24 [vi a1, .d (.sl (.int .i64)) a2] [] (fun r o => ∃ x, r = .agg [vi x.1, vi x.2.1, .d (.sl (.int .i64)) x.2.2.1, vi x.2.2.2] ∧ o = [] ∧ Q x) := by
  refine vcalls_body tab Try.func24 (c := (spine (subC [0] Blaw09_ge) [(spine (subC [1, 0] Blaw09_ge) [.ret])])) (by kernel_rfl) (Nat.le_of_ble_eq_true (by kernel_rfl)) fun cx hd hi hk => ?_
  show AWp prog cx _ _ ⟨9, [(0, vi a1), (1, .d (.sl (.int .i64)) a2)], []⟩
  replace hk : cx.E.len = 0 := hk
  unfold law09_ge.wp at h
  refine awp_spine ?_
  refine awp_rc tab [0, 1, 4] [] [] [] [] ⟨9, [(0, vi a1), (1, .d (.sl (.int .i64)) a2), (4, .ref 0 0 0)], [.box [vi (0 : Int), vi (0 : Int), .nils, vi (0 : Int)]]⟩ (by kernel_rfl) (trivial) ?_
  refine then_n (spine_c ?_)
  refine awp_spine ?_
  refine awp_rc tab [4] [] [] [] [] ⟨9, [(4, .ref 0 0 0)], [.box [vi (0 : Int), vi (0 : Int), .d (.sl (.int .i64)) a2, vi a1]]⟩ (by kernel_rfl) (trivial) ?_
  refine then_n (spine_c ?_)
  refine awp_ret (then_r (then_r (?_)))
  exact ret_r (m := 0) (r := .agg [vi ((0, 0, (a2, a1)).1), vi ((0, 0, (a2, a1)).2.1), .d (.sl (.int .i64)) (((0, 0, (a2, a1)).2.2).1), vi (((0, 0, (a2, a1)).2.2).2)]) (objs := []) hk [.keep [4]] ⟨9, [(4, .ref 0 0 0)], [.box [vi (0 : Int), vi (0 : Int), .d (.sl (.int .i64)) a2, vi a1]]⟩ (by kernel_rfl) (by kernel_rfl) (Nat.le_refl 0) ⟨(0, 0, (a2, a1)), rfl, rfl, h⟩
theorem ok_law09_ge (a1 : Int) (a2 : (List Int)) (h : law09_ge.pre a1 a2) : OkC prog 24 [vi a1, .d (.sl (.int .i64)) a2] (.agg [vi ((law09_ge.fn a1 a2).1), vi ((law09_ge.fn a1 a2).2.1), .d (.sl (.int .i64)) (((law09_ge.fn a1 a2).2.2).1), vi (((law09_ge.fn a1 a2).2.2).2)]) :=
  OkC.of call_law09_ge ((walk_law09_ge a1 a2 _ (law09_ge.spec a1 a2 h)).mono fun r o ⟨x, hr, ho, hx⟩ => ⟨by rw [hr, hx], ho⟩) rfl rfl (fun _ => rfl)

noncomputable abbrev Bref02_Order : Code := bodyOf Try.f40
theorem call_ref02_Order : CallOk prog 40 := ⟨_, Try.func40, by kernel_rfl, by kernel_rfl⟩
theorem walk_ref02_Order (a1 : (List Int)) (a2 : (List Int)) (Q : Int → Prop) (h : ref02_Order.wp a1 a2 Q) : VCalls prog 40 [.d (.sl (.int .i64)) a1, .d (.sl (.int .i64)) a2] [] (fun r o => ∃ x, r = vi x ∧ o = [] ∧ Q x) := by
  refine vcalls_body tab Try.func40 (c := (spine (subC [0] Bref02_Order) [(spine (subC [1, 0, 0] Bref02_Order) [(.block 0 (.loop (spine (subC [1, 0, 1, 0, 0, 0] Bref02_Order) [(spine (.cond (.tmp 9) .skip (.exit 0)) [(spine (.block 1 (spine (subC [1, 0, 1, 0, 0, 1, 1, 0, 0, 0] Bref02_Order) [(.block 2 (spine (subC [1, 0, 1, 0, 0, 1, 1, 0, 0, 1, 0, 0] Bref02_Order) [(.cond (.tmp 11) (spine (subC [1, 0, 1, 0, 0, 1, 1, 0, 0, 1, 0, 1, 0, 0] Bref02_Order) [.ret]) (spine (subC [1, 0, 1, 0, 0, 1, 1, 0, 0, 1, 0, 1, 1, 0] Bref02_Order) [(.cond (.tmp 21) (spine (subC [1, 0, 1, 0, 0, 1, 1, 0, 0, 1, 0, 1, 1, 1, 0, 0] Bref02_Order) [.ret]) .skip)]))]))])) [(subC [1, 0, 1, 0, 0, 1, 1, 1] Bref02_Order)])])]))), (spine (subC [1, 1, 0] Bref02_Order) [.ret])])])) (by kernel_rfl) (Nat.le_of_ble_eq_true (by kernel_rfl)) fun cx hd hi hk => ?_
  show AWp prog cx _ _ ⟨32, [(0, .d (.sl (.int .i64)) a1), (1, .d (.sl (.int .i64)) a2)], []⟩
  replace hk : cx.E.len = 0 := hk
  unfold ref02_Order.wp at h
  refine awp_spine ?_
  refine awp_rc tab [0, 1] [] [] [] [] ⟨32, [(0, .d (.sl (.int .i64)) a1), (1, .d (.sl (.int .i64)) a2)], []⟩ (by kernel_rfl) (trivial) ?_
  refine then_n (spine_c ?_)
  refine awp_spine ?_
  refine awp_rc tab [0, 1, 7, 8] [] [] [] [] ⟨32, [(0, .d (.sl (.int .i64)) a1), (1, .d (.sl (.int .i64)) a2), (7, vi (a1.length : Int)), (8, vi (0 : Int))], []⟩ (by kernel_rfl) (trivial) ?_
  refine then_n (spine_c ?_)
  refine awp_len 0 [] (T := (.int .i64)) (l := a1) (by kernel_rfl) fun hl => ?_
  replace h := h hl
  refine awp_block ?_
  obtain ⟨I4, ⟨n4a, hz4⟩, hI4⟩ := h
  refine awp_loopN (fun n s => ∃ (x2 : Int), I4 n x2 ∧ s = ⟨32, [(0, .d (.sl (.int .i64)) a1), (1, .d (.sl (.int .i64)) a2), (7, vi (a1.length : Int)), (8, vi x2)], []⟩) (n := n4a) (s0 := ⟨32, [(0, .d (.sl (.int .i64)) a1), (1, .d (.sl (.int .i64)) a2), (7, vi (a1.length : Int)), (8, vi (0 : Int))], []⟩) (wk_ghosts hk (l := [.keep [0, 1, 7, 8], .keep [0, 1, 7, 8], .keep [0, 1, 7, 8], .keep [0, 1, 7, 8]]) (by kernel_rfl)) ⟨0, hz4, rfl⟩ ?_
  rintro n4 s ⟨x2, hx4, rfl⟩
  have h := hI4 n4 x2 hx4
  refine awp_spine ?_
  refine awp_rc tab [0, 1, 7, 8, 9] [] [] [] [] ⟨32, [(0, .d (.sl (.int .i64)) a1), (1, .d (.sl (.int .i64)) a2), (7, vi (a1.length : Int)), (8, vi x2), (9, vb (decide (x2 < (a1.length : Int))))], []⟩ (by kernel_rfl) (trivial) ?_
  refine then_n (spine_c ?_)
  refine awp_spine ?_
  refine awp_cond (b := decide (x2 < (a1.length : Int))) (by kernel_rfl) (fun hb => ?_) (fun hb => ?_)
  · replace h := h.1 (of_decide_eq_true hb)
    refine awp_skip (then_n (spine_c ?_))
    refine awp_spine ?_
    refine awp_block ?_
    refine awp_spine ?_
    refine awp_rc tab [0, 1, 5, 7, 8] [] [] [] [] ⟨32, [(0, .d (.sl (.int .i64)) a1), (1, .d (.sl (.int .i64)) a2), (5, vi x2), (7, vi (a1.length : Int)), (8, vi x2)], []⟩ (by kernel_rfl) (trivial) ?_
    refine then_n (spine_c ?_)
    refine awp_block ?_
    refine awp_spine ?_
    obtain ⟨o1, o2, h⟩ := h
    refine awp_dr tab mixed [0, 1, 5, 7, 8, 11] [] [] [] ⟨[[], [], [0, 1], [0, 1, 2], [], [], [4, 5], [4, 5, 6], [0, 1, 2, 3, 4, 5, 6, 7], [0, 1, 2, 3, 4, 5, 6, 7, 8]], [.d (.sl (.int .i64)) a1, vi x2, .er [vi (gI a1 x2)], vi (gI a1 x2), .d (.sl (.int .i64)) a2, vi x2, .er [vi (gI a2 x2)], vi (gI a2 x2), vb (decide ((gI a1 x2) < (gI a2 x2))), vb (decide ((gI a1 x2) < (gI a2 x2)))], [none, none, some ((0 : Int) ≤ x2 ∧ x2 < (a1.length : Int)), none, none, none, some ((0 : Int) ≤ x2 ∧ x2 < (a2.length : Int)), none, none, none], [], [([], [])]⟩ ⟨32, [(0, .d (.sl (.int .i64)) a1), (1, .d (.sl (.int .i64)) a2), (5, vi x2), (7, vi (a1.length : Int)), (8, vi x2), (11, vb (decide ((gI a1 x2) < (gI a2 x2))))], []⟩ (by kernel_rfl) (AllO.n (AllO.n (AllO.s (o1) (AllO.n (AllO.n (AllO.n (AllO.s (o2) (AllO.n (AllO.n (AllO.n (AllO.e))))))))))) ?_
    refine then_n (spine_c ?_)
    refine awp_cond (b := decide ((gI a1 x2) < (gI a2 x2))) (by kernel_rfl) (fun hb => ?_) (fun hb => ?_)
    · replace h := h.1 (of_decide_eq_true hb)
      refine awp_spine ?_
      refine awp_rc tab [4] [] [] [] [] ⟨32, [(4, vi (-1))], []⟩ (by kernel_rfl) (trivial) ?_
      refine then_n (spine_c ?_)
      refine awp_ret (then_r (then_r (blk_r (then_r (blk_r (then_r (then_r (then_r (then_r (blk_r (then_r (then_r (?_)))))))))))))
      exact ret_r (m := 0) (r := vi (-1)) (objs := []) hk [.keep [4]] ⟨32, [(4, vi (-1))], []⟩ (by kernel_rfl) (by kernel_rfl) (Nat.le_refl 0) ⟨(-1), rfl, rfl, h⟩
    · replace h := h.2 (of_decide_eq_false hb)
      refine awp_spine ?_
      obtain ⟨o3, o4, h⟩ := h
      refine awp_dr tab mixed [0, 1, 7, 8, 21] [] [] [] ⟨[[], [], [0, 1], [0, 1, 2], [], [], [4, 5], [4, 5, 6], [0, 1, 2, 3, 4, 5, 6, 7], [0, 1, 2, 3, 4, 5, 6, 7, 8]], [.d (.sl (.int .i64)) a1, vi x2, .er [vi (gI a1 x2)], vi (gI a1 x2), .d (.sl (.int .i64)) a2, vi x2, .er [vi (gI a2 x2)], vi (gI a2 x2), vb (decide ((gI a1 x2) > (gI a2 x2))), vb (decide ((gI a1 x2) > (gI a2 x2)))], [none, none, some ((0 : Int) ≤ x2 ∧ x2 < (a1.length : Int)), none, none, none, some ((0 : Int) ≤ x2 ∧ x2 < (a2.length : Int)), none, none, none], [], [([], [])]⟩ ⟨32, [(0, .d (.sl (.int .i64)) a1), (1, .d (.sl (.int .i64)) a2), (7, vi (a1.length : Int)), (8, vi x2), (21, vb (decide ((gI a1 x2) > (gI a2 x2))))], []⟩ (by kernel_rfl) (AllO.n (AllO.n (AllO.s (o3) (AllO.n (AllO.n (AllO.n (AllO.s (o4) (AllO.n (AllO.n (AllO.n (AllO.e))))))))))) ?_
      refine then_n (spine_c ?_)
      refine awp_cond (b := decide ((gI a1 x2) > (gI a2 x2))) (by kernel_rfl) (fun hb => ?_) (fun hb => ?_)
      · replace h := h.1 (of_decide_eq_true hb)
        refine awp_spine ?_
        refine awp_rc tab [4] [] [] [] [] ⟨32, [(4, vi (1 : Int))], []⟩ (by kernel_rfl) (trivial) ?_
        refine then_n (spine_c ?_)
        refine awp_ret (then_r (then_r (then_r (blk_r (then_r (blk_r (then_r (then_r (then_r (then_r (blk_r (then_r (then_r (?_))))))))))))))
        exact ret_r (m := 0) (r := vi (1 : Int)) (objs := []) hk [.keep [4]] ⟨32, [(4, vi (1 : Int))], []⟩ (by kernel_rfl) (by kernel_rfl) (Nat.le_refl 0) ⟨1, rfl, rfl, h⟩
      · replace h := h.2 (of_decide_eq_false hb)
        refine awp_skip (then_n (spine_e (then_n (spine_e (blk_n (then_n (spine_e (blk_n (then_n (spine_c ?_))))))))))
        obtain ⟨o5, h⟩ := h
        refine awp_rc tab [0, 1, 7, 8] [] [] [] [-9223372036854775808 ≤ x2 + (1 : Int) ∧ x2 + (1 : Int) ≤ 9223372036854775807] ⟨32, [(0, .d (.sl (.int .i64)) a1), (1, .d (.sl (.int .i64)) a2), (7, vi (a1.length : Int)), (8, vi (x2 + (1 : Int)))], []⟩ (by kernel_rfl) (AllP.of (o5) trivial) ?_
        refine then_n (spine_e (then_n (spine_e (then_n (spine_e (then_n (?_)))))))
        obtain ⟨m, hm, h⟩ := h
        exact ⟨m, hm, ⟨32, [(0, .d (.sl (.int .i64)) a1), (1, .d (.sl (.int .i64)) a2), (7, vi (a1.length : Int)), (8, vi (x2 + (1 : Int)))], []⟩, wk_ghosts hk (l := [.keep [0, 1, 7, 8], .keep [0, 1, 7, 8], .keep [0, 1, 7, 8]]) (by kernel_rfl), x2 + (1 : Int), h, rfl⟩
  · replace h := h.2 (of_decide_eq_false hb)
    refine awp_exit (then_x (then_x (then_x (blk_h (then_n (spine_c ?_))))))
    refine awp_spine ?_
    refine awp_rc tab [4] [] [] [] [] ⟨32, [(4, vi (0 : Int))], []⟩ (by kernel_rfl) (trivial) ?_
    refine then_n (spine_c ?_)
    refine awp_ret (then_r (then_r (then_r (?_))))
    exact ret_r (m := 0) (r := vi (0 : Int)) (objs := []) hk [.keep [4]] ⟨32, [(4, vi (0 : Int))], []⟩ (by kernel_rfl) (by kernel_rfl) (Nat.le_refl 0) ⟨0, rfl, rfl, h⟩
theorem ok_ref02_Order (a1 : (List Int)) (a2 : (List Int)) (h : ref02_Order.pre a1 a2) : OkC prog 40 [.d (.sl (.int .i64)) a1, .d (.sl (.int .i64)) a2] (vi (ref02_Order.fn a1 a2)) :=
  OkC.of call_ref02_Order ((walk_ref02_Order a1 a2 _ (ref02_Order.spec a1 a2 h)).mono fun r o ⟨x, hr, ho, hx⟩ => ⟨by rw [hr, hx], ho⟩) rfl rfl (fun _ => rfl)

noncomputable abbrev Blaw09_list : Code := bodyOf Try.f15
theorem call_law09_list : CallOk prog 15 := ⟨_, Try.func15, by kernel_rfl, by kernel_rfl⟩
theorem walk_law09_list (a1 : (List Int)) (a2 : (List Int)) (Q : Bool → Prop) (h : law09_list.wp a1 a2 Q) : VCalls prog 15 [.d (.sl (.int .i64)) a1, .d (.sl (.int .i64)) a2] [] (fun r o => ∃ x, r = vb x ∧ o = [] ∧ Q x) := by
  refine vcalls_body tab Try.func15 (c := (spine (subC [0] Blaw09_list) [(spine (subC [1, 0] Blaw09_list) [.ret])])) (by kernel_rfl) (Nat.le_of_ble_eq_true (by kernel_rfl)) fun cx hd hi hk => ?_
  show AWp prog cx _ _ ⟨16, [(0, .d (.sl (.int .i64)) a1), (1, .d (.sl (.int .i64)) a2)], []⟩
  replace hk : cx.E.len = 0 := hk
  unfold law09_list.wp at h
  refine awp_spine ?_
  refine awp_rc tab [0, 1] [] [] [] [] ⟨16, [(0, .d (.sl (.int .i64)) a1), (1, .d (.sl (.int .i64)) a2)], []⟩ (by kernel_rfl) (trivial) ?_
  refine then_n (spine_c ?_)
  refine awp_spine ?_
  obtain ⟨o1, h⟩ := h
  refine awp_rc tab [4] [] [(8, .dat (vi (ref02_Order.fn a1 a2)))] [] [((a1.length : Int) == (a2.length : Int)) = true → ((a1.length : Int) == (a2.length : Int)) = true ∧ (((a1.length : Int) == (a2.length : Int)) = true ∧ (OkC prog 40 [.d (.sl (.int .i64)) a1, .d (.sl (.int .i64)) a2] (vi (ref02_Order.fn a1 a2)))), ((a1.length : Int) == (a2.length : Int)) = true → ((a1.length : Int) == (a2.length : Int)) = true ∧ True, ((a1.length : Int) == (a2.length : Int)) = true → ((a1.length : Int) == (a2.length : Int)) = true] ⟨16, [(4, vb (((a1.length : Int) == (a2.length : Int)) && ((ref02_Order.fn a1 a2) == (0 : Int))))], []⟩ (by kernel_rfl) (AllP.of (fun hg => ⟨hg, hg, ok_ref02_Order a1 a2 ((o1 hg))⟩) (AllP.of (fun hg => ⟨hg, trivial⟩) (AllP.of (fun hc => hc) trivial))) ?_
  refine then_n (spine_c ?_)
  refine awp_abs (fun (x1 : Int) => ⟨16, [(4, vb (((a1.length : Int) == (a2.length : Int)) && (x1 == (0 : Int))))], []⟩) (ref02_Order.fn a1 a2) ?_
  intro x1 hx1
  replace h := h x1 hx1
  refine awp_ret (then_r (then_r (?_)))
  exact ret_r (m := 0) (r := vb (((a1.length : Int) == (a2.length : Int)) && (x1 == (0 : Int)))) (objs := []) hk [.keep [4]] ⟨16, [(4, vb (((a1.length : Int) == (a2.length : Int)) && (x1 == (0 : Int))))], []⟩ (by kernel_rfl) (by kernel_rfl) (Nat.le_refl 0) ⟨((a1.length : Int) == (a2.length : Int)) && (x1 == (0 : Int)), rfl, rfl, h⟩
theorem ok_law09_list (a1 : (List Int)) (a2 : (List Int)) (h : law09_list.pre a1 a2) : OkC prog 15 [.d (.sl (.int .i64)) a1, .d (.sl (.int .i64)) a2] (vb (law09_list.fn a1 a2)) :=
  OkC.of call_law09_list ((walk_law09_list a1 a2 _ (law09_list.spec a1 a2 h)).mono fun r o ⟨x, hr, ho, hx⟩ => ⟨by rw [hr, hx], ho⟩) rfl rfl (fun _ => rfl)

end Go.Proofs.Ytlncingakpelbaa
