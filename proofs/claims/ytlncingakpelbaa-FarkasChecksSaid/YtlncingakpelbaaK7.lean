/- Part of a proof that a law of the program holds for every input: printed by a program of this work. No conditions. -/
import Derived.Test.YtlncingakpelbaaK6
namespace Go.Proofs.Ytlncingakpelbaa
open Go
set_option linter.unusedVariables false
set_option maxHeartbeats 4000000

noncomputable abbrev Blaw09_awake : Code := bodyOf Try.f10
theorem call_law09_awake : CallOk prog 10 := ⟨_, Try.func10, by kernel_rfl, by kernel_rfl⟩
theorem walk_law09_awake (Q : Bool → Prop) (h : law09_awake.wp Q) : VCalls prog 10 [] [] (fun r o => ∃ x, r = vb x ∧ o = [] ∧ Q x) := by
  refine vcalls_body tab Try.func10 (c := (spine (subC [0] Blaw09_awake) [(spine (subC [1, 0] Blaw09_awake) [(spine (subC [1, 1, 0] Blaw09_awake) [(spine (subC [1, 1, 1, 0] Blaw09_awake) [(spine (subC [1, 1, 1, 1, 0] Blaw09_awake) [(spine (subC [1, 1, 1, 1, 1, 0] Blaw09_awake) [(spine (subC [1, 1, 1, 1, 1, 1, 0] Blaw09_awake) [.ret])])])])])])])) (by kernel_rfl) (Nat.le_of_ble_eq_true (by kernel_rfl)) fun cx hd hi hk => ?_
  show AWp prog cx _ _ ⟨77, [], []⟩
  replace hk : cx.E.len = 0 := hk
  unfold law09_awake.wp at h
  refine awp_spine ?_
  refine awp_rc tab [] [] [] [] [] ⟨77, [], []⟩ (by kernel_rfl) (trivial) ?_
  refine then_n (spine_c ?_)
  refine awp_spine ?_
  obtain ⟨o1, o2, o3, h⟩ := h
  refine awp_rc tab [1, 2] [] [(1, .dat (.agg [vi ((law09_ge.fn (-3) [1]).1), vi ((law09_ge.fn (-3) [1]).2.1), .d (.sl (.int .i64)) (((law09_ge.fn (-3) [1]).2.2).1), vi (((law09_ge.fn (-3) [1]).2.2).2)])), (3, .dat (.agg [vi ((law09_ge.fn (2 : Int) [(-1)]).1), vi ((law09_ge.fn (2 : Int) [(-1)]).2.1), .d (.sl (.int .i64)) (((law09_ge.fn (2 : Int) [(-1)]).2.2).1), vi (((law09_ge.fn (2 : Int) [(-1)]).2.2).2)])), (5, .dat (.tup [.d (.sl (.int .i64)) ((farkas_Prove.fn [law09_ge.fn (-3) [1], law09_ge.fn (2 : Int) [(-1)]] (1 : Int)).1), vi ((farkas_Prove.fn [law09_ge.fn (-3) [1], law09_ge.fn (2 : Int) [(-1)]] (1 : Int)).2)]))] [0, 2, 4] [1 * 1 ≤ 16777216, OkC prog 24 [vi (-3), .d (.sl (.int .i64)) [1]] (.agg [vi ((law09_ge.fn (-3) [1]).1), vi ((law09_ge.fn (-3) [1]).2.1), .d (.sl (.int .i64)) (((law09_ge.fn (-3) [1]).2.2).1), vi (((law09_ge.fn (-3) [1]).2.2).2)]), 1 * 1 ≤ 16777216, OkC prog 24 [vi (2 : Int), .d (.sl (.int .i64)) [(-1)]] (.agg [vi ((law09_ge.fn (2 : Int) [(-1)]).1), vi ((law09_ge.fn (2 : Int) [(-1)]).2.1), .d (.sl (.int .i64)) (((law09_ge.fn (2 : Int) [(-1)]).2.2).1), vi (((law09_ge.fn (2 : Int) [(-1)]).2.2).2)]), 2 * 4 ≤ 16777216, OkC prog 11 [.d (.sl t_api_Cond) [law09_ge.fn (-3) [1], law09_ge.fn (2 : Int) [(-1)]], vi (1 : Int)] (.tup [.d (.sl (.int .i64)) ((farkas_Prove.fn [law09_ge.fn (-3) [1], law09_ge.fn (2 : Int) [(-1)]] (1 : Int)).1), vi ((farkas_Prove.fn [law09_ge.fn (-3) [1], law09_ge.fn (2 : Int) [(-1)]] (1 : Int)).2)])] ⟨77, [(1, .d (.sl (.int .i64)) ((farkas_Prove.fn [law09_ge.fn (-3) [1], law09_ge.fn (2 : Int) [(-1)]] (1 : Int)).1)), (2, vi ((farkas_Prove.fn [law09_ge.fn (-3) [1], law09_ge.fn (2 : Int) [(-1)]] (1 : Int)).2))], []⟩ (by kernel_rfl) (AllP.of (by decide) (AllP.of (ok_law09_ge (-3) [1] (o1)) (AllP.of (by decide) (AllP.of (ok_law09_ge (2 : Int) [(-1)] (o2)) (AllP.of (by decide) (AllP.of (ok_farkas_Prove [law09_ge.fn (-3) [1], law09_ge.fn (2 : Int) [(-1)]] (1 : Int) (o3)) trivial)))))) ?_
  refine then_n (spine_c ?_)
  refine awp_abs (fun (x1 : (List Int) × Int) => ⟨77, [(1, .d (.sl (.int .i64)) x1.1), (2, vi x1.2)], []⟩) (farkas_Prove.fn [law09_ge.fn (-3) [1], law09_ge.fn (2 : Int) [(-1)]] (1 : Int)) ?_
  intro x1 hx1
  replace h := h x1 hx1
  refine awp_abs (fun (x2 : (List Int)) => ⟨77, [(1, .d (.sl (.int .i64)) x2), (2, vi x1.2)], []⟩) (x1.1) ?_
  intro x2 hx2
  replace h := h x2 hx2
  refine awp_abs (fun (x3 : Int) => ⟨77, [(1, .d (.sl (.int .i64)) x2), (2, vi x3)], []⟩) (x1.2) ?_
  intro x3 hx3
  replace h := h x3 hx3
  refine awp_spine ?_
  refine awp_rc tab [1, 2, 3] [] [] [0] [1 * 1 ≤ 16777216, 1 * 4 ≤ 16777216] ⟨77, [(1, .d (.sl (.int .i64)) x2), (2, vi x3), (3, .osl 0 0)], [.row t_api_Cond [(1, 0, ([2], (-1)))] 0]⟩ (by kernel_rfl) (AllP.of (by decide) (AllP.of (by decide) trivial)) ?_
  refine then_n (spine_c ?_)
  refine awp_spine ?_
  refine awp_gh hk [.freeze 0, .keep [1, 2, 3]] ⟨77, [(1, .d (.sl (.int .i64)) x2), (2, vi x3), (3, .d (.sl t_api_Cond) [(1, 0, ([2], (-1)))])], [.dead]⟩ (by kernel_rfl) ?_
  obtain ⟨o4, h⟩ := h
  refine awp_rc tab [1, 2, 3, 5] [] [(1, .dat (.tup [.d (.sl (.int .i64)) ((farkas_Prove.fn [(1, 0, ([2], (-1)))] (1 : Int)).1), vi ((farkas_Prove.fn [(1, 0, ([2], (-1)))] (1 : Int)).2)]))] [] [OkC prog 11 [.d (.sl t_api_Cond) [(1, 0, ([2], (-1)))], vi (1 : Int)] (.tup [.d (.sl (.int .i64)) ((farkas_Prove.fn [(1, 0, ([2], (-1)))] (1 : Int)).1), vi ((farkas_Prove.fn [(1, 0, ([2], (-1)))] (1 : Int)).2)])] ⟨77, [(1, .d (.sl (.int .i64)) x2), (2, vi x3), (3, .d (.sl t_api_Cond) [(1, 0, ([2], (-1)))]), (5, vi ((farkas_Prove.fn [(1, 0, ([2], (-1)))] (1 : Int)).2))], [.dead]⟩ (by kernel_rfl) (AllP.of (ok_farkas_Prove [(1, 0, ([2], (-1)))] (1 : Int) (o4)) trivial) ?_
  refine then_n (spine_c ?_)
  refine awp_abs (fun (x4 : (List Int) × Int) => ⟨77, [(1, .d (.sl (.int .i64)) x2), (2, vi x3), (3, .d (.sl t_api_Cond) [(1, 0, ([2], (-1)))]), (5, vi x4.2)], [.dead]⟩) (farkas_Prove.fn [(1, 0, ([2], (-1)))] (1 : Int)) ?_
  intro x4 hx4
  replace h := h x4 hx4
  refine awp_abs (fun (x5 : Int) => ⟨77, [(1, .d (.sl (.int .i64)) x2), (2, vi x3), (3, .d (.sl t_api_Cond) [(1, 0, ([2], (-1)))]), (5, vi x5)], [.dead]⟩) (x4.2) ?_
  intro x5 hx5
  replace h := h x5 hx5
  refine awp_spine ?_
  obtain ⟨o5, h⟩ := h
  refine awp_rc tab [1, 2, 5, 6, 7, 8] [] [(1, .dat (.tup [.d (.sl (.int .i64)) ((farkas_Inner.fn [(1, 0, ([2], (-1)))] (1 : Int)).1), vi ((farkas_Inner.fn [(1, 0, ([2], (-1)))] (1 : Int)).2.1), vi ((farkas_Inner.fn [(1, 0, ([2], (-1)))] (1 : Int)).2.2)]))] [] [OkC prog 13 [.d (.sl t_api_Cond) [(1, 0, ([2], (-1)))], vi (1 : Int)] (.tup [.d (.sl (.int .i64)) ((farkas_Inner.fn [(1, 0, ([2], (-1)))] (1 : Int)).1), vi ((farkas_Inner.fn [(1, 0, ([2], (-1)))] (1 : Int)).2.1), vi ((farkas_Inner.fn [(1, 0, ([2], (-1)))] (1 : Int)).2.2)])] ⟨77, [(1, .d (.sl (.int .i64)) x2), (2, vi x3), (5, vi x5), (6, .d (.sl (.int .i64)) ((farkas_Inner.fn [(1, 0, ([2], (-1)))] (1 : Int)).1)), (7, vi ((farkas_Inner.fn [(1, 0, ([2], (-1)))] (1 : Int)).2.1)), (8, vi ((farkas_Inner.fn [(1, 0, ([2], (-1)))] (1 : Int)).2.2))], [.dead]⟩ (by kernel_rfl) (AllP.of (ok_farkas_Inner [(1, 0, ([2], (-1)))] (1 : Int) (o5)) trivial) ?_
  refine then_n (spine_c ?_)
  refine awp_abs (fun (x6 : (List Int) × Int × Int) => ⟨77, [(1, .d (.sl (.int .i64)) x2), (2, vi x3), (5, vi x5), (6, .d (.sl (.int .i64)) x6.1), (7, vi x6.2.1), (8, vi x6.2.2)], [.dead]⟩) (farkas_Inner.fn [(1, 0, ([2], (-1)))] (1 : Int)) ?_
  intro x6 hx6
  replace h := h x6 hx6
  refine awp_abs (fun (x7 : (List Int)) => ⟨77, [(1, .d (.sl (.int .i64)) x2), (2, vi x3), (5, vi x5), (6, .d (.sl (.int .i64)) x7), (7, vi x6.2.1), (8, vi x6.2.2)], [.dead]⟩) (x6.1) ?_
  intro x7 hx7
  replace h := h x7 hx7
  refine awp_abs (fun (x8 : Int) => ⟨77, [(1, .d (.sl (.int .i64)) x2), (2, vi x3), (5, vi x5), (6, .d (.sl (.int .i64)) x7), (7, vi x8), (8, vi x6.2.2)], [.dead]⟩) (x6.2.1) ?_
  intro x8 hx8
  replace h := h x8 hx8
  refine awp_abs (fun (x9 : Int) => ⟨77, [(1, .d (.sl (.int .i64)) x2), (2, vi x3), (5, vi x5), (6, .d (.sl (.int .i64)) x7), (7, vi x8), (8, vi x9)], [.dead]⟩) (x6.2.2) ?_
  intro x9 hx9
  replace h := h x9 hx9
  refine awp_spine ?_
  obtain ⟨o6, o7, o8, h⟩ := h
  refine awp_rc tab [1, 2, 5, 6, 7, 8, 9, 10] [] [(1, .dat (.agg [vi ((law09_ge.fn (0 : Int) [1, (-1)]).1), vi ((law09_ge.fn (0 : Int) [1, (-1)]).2.1), .d (.sl (.int .i64)) (((law09_ge.fn (0 : Int) [1, (-1)]).2.2).1), vi (((law09_ge.fn (0 : Int) [1, (-1)]).2.2).2)])), (3, .dat (.agg [vi ((law09_ge.fn (-1) [(-1), 1]).1), vi ((law09_ge.fn (-1) [(-1), 1]).2.1), .d (.sl (.int .i64)) (((law09_ge.fn (-1) [(-1), 1]).2.2).1), vi (((law09_ge.fn (-1) [(-1), 1]).2.2).2)])), (5, .dat (.tup [.d (.sl (.int .i64)) ((farkas_Prove.fn [law09_ge.fn (0 : Int) [1, (-1)], law09_ge.fn (-1) [(-1), 1]] (2 : Int)).1), vi ((farkas_Prove.fn [law09_ge.fn (0 : Int) [1, (-1)], law09_ge.fn (-1) [(-1), 1]] (2 : Int)).2)]))] [0, 2, 4] [2 * 1 ≤ 16777216, OkC prog 24 [vi (0 : Int), .d (.sl (.int .i64)) [1, (-1)]] (.agg [vi ((law09_ge.fn (0 : Int) [1, (-1)]).1), vi ((law09_ge.fn (0 : Int) [1, (-1)]).2.1), .d (.sl (.int .i64)) (((law09_ge.fn (0 : Int) [1, (-1)]).2.2).1), vi (((law09_ge.fn (0 : Int) [1, (-1)]).2.2).2)]), 2 * 1 ≤ 16777216, OkC prog 24 [vi (-1), .d (.sl (.int .i64)) [(-1), 1]] (.agg [vi ((law09_ge.fn (-1) [(-1), 1]).1), vi ((law09_ge.fn (-1) [(-1), 1]).2.1), .d (.sl (.int .i64)) (((law09_ge.fn (-1) [(-1), 1]).2.2).1), vi (((law09_ge.fn (-1) [(-1), 1]).2.2).2)]), 2 * 4 ≤ 16777216, OkC prog 11 [.d (.sl t_api_Cond) [law09_ge.fn (0 : Int) [1, (-1)], law09_ge.fn (-1) [(-1), 1]], vi (2 : Int)] (.tup [.d (.sl (.int .i64)) ((farkas_Prove.fn [law09_ge.fn (0 : Int) [1, (-1)], law09_ge.fn (-1) [(-1), 1]] (2 : Int)).1), vi ((farkas_Prove.fn [law09_ge.fn (0 : Int) [1, (-1)], law09_ge.fn (-1) [(-1), 1]] (2 : Int)).2)])] ⟨77, [(1, .d (.sl (.int .i64)) x2), (2, vi x3), (5, vi x5), (6, .d (.sl (.int .i64)) x7), (7, vi x8), (8, vi x9), (9, .d (.sl (.int .i64)) ((farkas_Prove.fn [law09_ge.fn (0 : Int) [1, (-1)], law09_ge.fn (-1) [(-1), 1]] (2 : Int)).1)), (10, vi ((farkas_Prove.fn [law09_ge.fn (0 : Int) [1, (-1)], law09_ge.fn (-1) [(-1), 1]] (2 : Int)).2))], [.dead]⟩ (by kernel_rfl) (AllP.of (by decide) (AllP.of (ok_law09_ge (0 : Int) [1, (-1)] (o6)) (AllP.of (by decide) (AllP.of (ok_law09_ge (-1) [(-1), 1] (o7)) (AllP.of (by decide) (AllP.of (ok_farkas_Prove [law09_ge.fn (0 : Int) [1, (-1)], law09_ge.fn (-1) [(-1), 1]] (2 : Int) (o8)) trivial)))))) ?_
  refine then_n (spine_c ?_)
  refine awp_abs (fun (x10 : (List Int) × Int) => ⟨77, [(1, .d (.sl (.int .i64)) x2), (2, vi x3), (5, vi x5), (6, .d (.sl (.int .i64)) x7), (7, vi x8), (8, vi x9), (9, .d (.sl (.int .i64)) x10.1), (10, vi x10.2)], [.dead]⟩) (farkas_Prove.fn [law09_ge.fn (0 : Int) [1, (-1)], law09_ge.fn (-1) [(-1), 1]] (2 : Int)) ?_
  intro x10 hx10
  replace h := h x10 hx10
  refine awp_abs (fun (x11 : (List Int)) => ⟨77, [(1, .d (.sl (.int .i64)) x2), (2, vi x3), (5, vi x5), (6, .d (.sl (.int .i64)) x7), (7, vi x8), (8, vi x9), (9, .d (.sl (.int .i64)) x11), (10, vi x10.2)], [.dead]⟩) (x10.1) ?_
  intro x11 hx11
  replace h := h x11 hx11
  refine awp_abs (fun (x12 : Int) => ⟨77, [(1, .d (.sl (.int .i64)) x2), (2, vi x3), (5, vi x5), (6, .d (.sl (.int .i64)) x7), (7, vi x8), (8, vi x9), (9, .d (.sl (.int .i64)) x11), (10, vi x12)], [.dead]⟩) (x10.2) ?_
  intro x12 hx12
  replace h := h x12 hx12
  refine awp_spine ?_
  obtain ⟨o9, o10, o11, h⟩ := h
  refine awp_rc tab [0] [] [(5, .dat (vb (law09_list.fn x2 [1, 1]))), (18, .dat (vb (law09_list.fn x7 [1]))), (31, .dat (vb (law09_list.fn x11 [1, 1])))] [] [(x3 == (0 : Int)) = true → 2 * 1 ≤ 16777216, (x3 == (0 : Int)) = true → (x3 == (0 : Int)) = true ∧ ((x3 == (0 : Int)) = true ∧ (OkC prog 15 [.d (.sl (.int .i64)) x2, .d (.sl (.int .i64)) [1, 1]] (vb (law09_list.fn x2 [1, 1])))), (x3 == (0 : Int)) = true → (x3 == (0 : Int)) = true, ((x3 == (0 : Int)) && (law09_list.fn x2 [1, 1])) = true → ((x3 == (0 : Int)) && (law09_list.fn x2 [1, 1])) = true ∧ True, ((x3 == (0 : Int)) && (law09_list.fn x2 [1, 1])) = true → ((x3 == (0 : Int)) && (law09_list.fn x2 [1, 1])) = true, (((x3 == (0 : Int)) && (law09_list.fn x2 [1, 1])) && (x5 == (5 : Int))) = true → (((x3 == (0 : Int)) && (law09_list.fn x2 [1, 1])) && (x5 == (5 : Int))) = true ∧ True, (((x3 == (0 : Int)) && (law09_list.fn x2 [1, 1])) && (x5 == (5 : Int))) = true → (((x3 == (0 : Int)) && (law09_list.fn x2 [1, 1])) && (x5 == (5 : Int))) = true, ((((x3 == (0 : Int)) && (law09_list.fn x2 [1, 1])) && (x5 == (5 : Int))) && (x9 == (0 : Int))) = true → 1 * 1 ≤ 16777216, ((((x3 == (0 : Int)) && (law09_list.fn x2 [1, 1])) && (x5 == (5 : Int))) && (x9 == (0 : Int))) = true → ((((x3 == (0 : Int)) && (law09_list.fn x2 [1, 1])) && (x5 == (5 : Int))) && (x9 == (0 : Int))) = true ∧ (((((x3 == (0 : Int)) && (law09_list.fn x2 [1, 1])) && (x5 == (5 : Int))) && (x9 == (0 : Int))) = true ∧ (OkC prog 15 [.d (.sl (.int .i64)) x7, .d (.sl (.int .i64)) [1]] (vb (law09_list.fn x7 [1])))), ((((x3 == (0 : Int)) && (law09_list.fn x2 [1, 1])) && (x5 == (5 : Int))) && (x9 == (0 : Int))) = true → ((((x3 == (0 : Int)) && (law09_list.fn x2 [1, 1])) && (x5 == (5 : Int))) && (x9 == (0 : Int))) = true, (((((x3 == (0 : Int)) && (law09_list.fn x2 [1, 1])) && (x5 == (5 : Int))) && (x9 == (0 : Int))) && (law09_list.fn x7 [1])) = true → (((((x3 == (0 : Int)) && (law09_list.fn x2 [1, 1])) && (x5 == (5 : Int))) && (x9 == (0 : Int))) && (law09_list.fn x7 [1])) = true ∧ True, (((((x3 == (0 : Int)) && (law09_list.fn x2 [1, 1])) && (x5 == (5 : Int))) && (x9 == (0 : Int))) && (law09_list.fn x7 [1])) = true → (((((x3 == (0 : Int)) && (law09_list.fn x2 [1, 1])) && (x5 == (5 : Int))) && (x9 == (0 : Int))) && (law09_list.fn x7 [1])) = true, ((((((x3 == (0 : Int)) && (law09_list.fn x2 [1, 1])) && (x5 == (5 : Int))) && (x9 == (0 : Int))) && (law09_list.fn x7 [1])) && (x8 == (2 : Int))) = true → ((((((x3 == (0 : Int)) && (law09_list.fn x2 [1, 1])) && (x5 == (5 : Int))) && (x9 == (0 : Int))) && (law09_list.fn x7 [1])) && (x8 == (2 : Int))) = true ∧ True, ((((((x3 == (0 : Int)) && (law09_list.fn x2 [1, 1])) && (x5 == (5 : Int))) && (x9 == (0 : Int))) && (law09_list.fn x7 [1])) && (x8 == (2 : Int))) = true → ((((((x3 == (0 : Int)) && (law09_list.fn x2 [1, 1])) && (x5 == (5 : Int))) && (x9 == (0 : Int))) && (law09_list.fn x7 [1])) && (x8 == (2 : Int))) = true, (((((((x3 == (0 : Int)) && (law09_list.fn x2 [1, 1])) && (x5 == (5 : Int))) && (x9 == (0 : Int))) && (law09_list.fn x7 [1])) && (x8 == (2 : Int))) && (x12 == (0 : Int))) = true → 2 * 1 ≤ 16777216, (((((((x3 == (0 : Int)) && (law09_list.fn x2 [1, 1])) && (x5 == (5 : Int))) && (x9 == (0 : Int))) && (law09_list.fn x7 [1])) && (x8 == (2 : Int))) && (x12 == (0 : Int))) = true → (((((((x3 == (0 : Int)) && (law09_list.fn x2 [1, 1])) && (x5 == (5 : Int))) && (x9 == (0 : Int))) && (law09_list.fn x7 [1])) && (x8 == (2 : Int))) && (x12 == (0 : Int))) = true ∧ ((((((((x3 == (0 : Int)) && (law09_list.fn x2 [1, 1])) && (x5 == (5 : Int))) && (x9 == (0 : Int))) && (law09_list.fn x7 [1])) && (x8 == (2 : Int))) && (x12 == (0 : Int))) = true ∧ (OkC prog 15 [.d (.sl (.int .i64)) x11, .d (.sl (.int .i64)) [1, 1]] (vb (law09_list.fn x11 [1, 1])))), (((((((x3 == (0 : Int)) && (law09_list.fn x2 [1, 1])) && (x5 == (5 : Int))) && (x9 == (0 : Int))) && (law09_list.fn x7 [1])) && (x8 == (2 : Int))) && (x12 == (0 : Int))) = true → (((((((x3 == (0 : Int)) && (law09_list.fn x2 [1, 1])) && (x5 == (5 : Int))) && (x9 == (0 : Int))) && (law09_list.fn x7 [1])) && (x8 == (2 : Int))) && (x12 == (0 : Int))) = true] ⟨77, [(0, vb ((((((((x3 == (0 : Int)) && (law09_list.fn x2 [1, 1])) && (x5 == (5 : Int))) && (x9 == (0 : Int))) && (law09_list.fn x7 [1])) && (x8 == (2 : Int))) && (x12 == (0 : Int))) && (law09_list.fn x11 [1, 1])))], [.dead]⟩ (by kernel_rfl) (AllP.of (fun hg => by decide) (AllP.of (fun hg => ⟨hg, hg, ok_law09_list x2 [1, 1] ((o9 hg))⟩) (AllP.of (fun hc => hc) (AllP.of (fun hg => ⟨hg, trivial⟩) (AllP.of (fun hc => hc) (AllP.of (fun hg => ⟨hg, trivial⟩) (AllP.of (fun hc => hc) (AllP.of (fun hg => by decide) (AllP.of (fun hg => ⟨hg, hg, ok_law09_list x7 [1] ((o10 hg))⟩) (AllP.of (fun hc => hc) (AllP.of (fun hg => ⟨hg, trivial⟩) (AllP.of (fun hc => hc) (AllP.of (fun hg => ⟨hg, trivial⟩) (AllP.of (fun hc => hc) (AllP.of (fun hg => by decide) (AllP.of (fun hg => ⟨hg, hg, ok_law09_list x11 [1, 1] ((o11 hg))⟩) (AllP.of (fun hc => hc) trivial))))))))))))))))) ?_
  refine then_n (spine_c ?_)
  refine awp_ret (then_r (then_r (then_r (then_r (then_r (then_r (then_r (?_))))))))
  exact ret_r (m := 0) (r := vb ((((((((x3 == (0 : Int)) && (law09_list.fn x2 [1, 1])) && (x5 == (5 : Int))) && (x9 == (0 : Int))) && (law09_list.fn x7 [1])) && (x8 == (2 : Int))) && (x12 == (0 : Int))) && (law09_list.fn x11 [1, 1]))) (objs := []) hk [.keep [0]] ⟨77, [(0, vb ((((((((x3 == (0 : Int)) && (law09_list.fn x2 [1, 1])) && (x5 == (5 : Int))) && (x9 == (0 : Int))) && (law09_list.fn x7 [1])) && (x8 == (2 : Int))) && (x12 == (0 : Int))) && (law09_list.fn x11 [1, 1])))], [.dead]⟩ (by kernel_rfl) (by kernel_rfl) (Nat.le_refl 0) ⟨(((((((x3 == (0 : Int)) && (law09_list.fn x2 [1, 1])) && (x5 == (5 : Int))) && (x9 == (0 : Int))) && (law09_list.fn x7 [1])) && (x8 == (2 : Int))) && (x12 == (0 : Int))) && (law09_list.fn x11 [1, 1]), rfl, rfl, h⟩
theorem ok_law09_awake (h : law09_awake.pre ) : OkC prog 10 [] (vb law09_awake.fn) :=
  OkC.of call_law09_awake ((walk_law09_awake  _ (law09_awake.spec  h)).mono fun r o ⟨x, hr, ho, hx⟩ => ⟨by rw [hr, hx], ho⟩) rfl rfl (fun _ => rfl)

noncomputable abbrev Bref09_trim : Code := bodyOf Try.f66
theorem call_ref09_trim : CallOk prog 66 := ⟨_, Try.func66, by kernel_rfl, by kernel_rfl⟩
theorem walk_ref09_trim (a1 : (List Int)) (Q : (List Int) → Prop) (h : ref09_trim.wp a1 Q) : VCalls prog 66 [.d (.sl (.int .i64)) a1] [] (fun r o => ∃ x, r = .d (.sl (.int .i64)) x ∧ o = [] ∧ Q x) := by
  refine vcalls_body tab Try.func66 (c := (spine (subC [0] Bref09_trim) [(spine (.block 0 (.loop (spine (subC [1, 0, 0, 0, 0, 0] Bref09_trim) [(.cond (.tmp 14) .skip (.exit 0)), (.block 1 (subC [1, 0, 0, 0, 1, 0] Bref09_trim))]))) [(spine (subC [1, 1, 0] Bref09_trim) [.ret])])])) (by kernel_rfl) (Nat.le_of_ble_eq_true (by kernel_rfl)) fun cx hd hi hk => ?_
  show AWp prog cx _ _ ⟨21, [(0, .d (.sl (.int .i64)) a1)], []⟩
  replace hk : cx.E.len = 0 := hk
  unfold ref09_trim.wp at h
  refine awp_spine ?_
  refine awp_rc tab [0] [] [] [] [] ⟨21, [(0, .d (.sl (.int .i64)) a1)], []⟩ (by kernel_rfl) (trivial) ?_
  refine then_n (spine_c ?_)
  refine awp_spine ?_
  refine awp_block ?_
  obtain ⟨I4, ⟨n4a, hz4⟩, hI4⟩ := h
  refine awp_loopN (fun n s => ∃ (x2 : (List Int)), I4 n x2 ∧ s = ⟨21, [(0, .d (.sl (.int .i64)) x2)], []⟩) (n := n4a) (s0 := ⟨21, [(0, .d (.sl (.int .i64)) a1)], []⟩) (wk_ghosts hk (l := [.keep [0], .keep [0], .keep [0], .keep [0]]) (by kernel_rfl)) ⟨a1, hz4, rfl⟩ ?_
  rintro n4 s ⟨x2, hx4, rfl⟩
  have h := hI4 n4 x2 hx4
  refine awp_spine ?_
  obtain ⟨o1, o2, h⟩ := h
  refine awp_rc tab [0, 14] [] [] [] [(decide ((x2.length : Int) > (0 : Int))) = true → (decide ((x2.length : Int) > (0 : Int))) = true ∧ True, (decide ((x2.length : Int) > (0 : Int))) = true → (decide ((x2.length : Int) > (0 : Int))) = true ∧ (-9223372036854775808 ≤ (x2.length : Int) - (1 : Int) ∧ (x2.length : Int) - (1 : Int) ≤ 9223372036854775807), (decide ((x2.length : Int) > (0 : Int))) = true → (decide ((x2.length : Int) > (0 : Int))) = true ∧ ((decide ((x2.length : Int) > (0 : Int))) = true ∧ ((0 : Int) ≤ ((x2.length : Int) - (1 : Int)) ∧ ((x2.length : Int) - (1 : Int)) < (x2.length : Int))), (decide ((x2.length : Int) > (0 : Int))) = true → (decide ((x2.length : Int) > (0 : Int))) = true ∧ True, (decide ((x2.length : Int) > (0 : Int))) = true → (decide ((x2.length : Int) > (0 : Int))) = true ∧ True, (decide ((x2.length : Int) > (0 : Int))) = true → (decide ((x2.length : Int) > (0 : Int))) = true] ⟨21, [(0, .d (.sl (.int .i64)) x2), (14, vb ((decide ((x2.length : Int) > (0 : Int))) && ((gI x2 ((x2.length : Int) - (1 : Int))) == (0 : Int))))], []⟩ (by kernel_rfl) (AllP.of (fun hg => ⟨hg, trivial⟩) (AllP.of (fun hg => ⟨hg, (o1 hg)⟩) (AllP.of (fun hg => ⟨hg, hg, (o2 hg)⟩) (AllP.of (fun hg => ⟨hg, trivial⟩) (AllP.of (fun hg => ⟨hg, trivial⟩) (AllP.of (fun hc => hc) trivial)))))) ?_
  refine then_n (spine_c ?_)
  refine awp_len 0 [] (T := (.int .i64)) (l := x2) (by kernel_rfl) fun hl => ?_
  replace h := h hl
  refine awp_cond (b := (decide ((x2.length : Int) > (0 : Int))) && ((gI x2 ((x2.length : Int) - (1 : Int))) == (0 : Int))) (by kernel_rfl) (fun hb => ?_) (fun hb => ?_)
  · replace h := h.1 (hb)
    refine awp_skip (then_n (spine_c ?_))
    refine awp_block ?_
    obtain ⟨o3, o4, h⟩ := h
    refine awp_rc tab [0] [] [] [] [-9223372036854775808 ≤ (x2.length : Int) - (1 : Int) ∧ (x2.length : Int) - (1 : Int) ≤ 9223372036854775807, (0 : Int) ≤ ((x2.length : Int) - (1 : Int)) ∧ ((x2.length : Int) - (1 : Int)) ≤ (x2.length : Int)] ⟨21, [(0, .d (.sl (.int .i64)) (x2.take (Int.toNat ((x2.length : Int) - (1 : Int)))))], []⟩ (by kernel_rfl) (AllP.of (o3) (AllP.of (o4) trivial)) ?_
    refine blk_n (then_n (spine_e (then_n (?_))))
    obtain ⟨m, hm, h⟩ := h
    exact ⟨m, hm, ⟨21, [(0, .d (.sl (.int .i64)) (x2.take (Int.toNat ((x2.length : Int) - (1 : Int)))))], []⟩, wk_ghosts hk (l := [.keep [0], .keep [0], .keep [0]]) (by kernel_rfl), x2.take (Int.toNat ((x2.length : Int) - (1 : Int))), h, rfl⟩
  · replace h := h.2 (hb)
    refine awp_exit (then_x (then_x (blk_h (then_n (spine_c ?_)))))
    refine awp_spine ?_
    refine awp_rc tab [2] [] [] [] [] ⟨21, [(2, .d (.sl (.int .i64)) x2)], []⟩ (by kernel_rfl) (trivial) ?_
    refine then_n (spine_c ?_)
    refine awp_ret (then_r (then_r (then_r (?_))))
    exact ret_r (m := 0) (r := .d (.sl (.int .i64)) x2) (objs := []) hk [.keep [2]] ⟨21, [(2, .d (.sl (.int .i64)) x2)], []⟩ (by kernel_rfl) (by kernel_rfl) (Nat.le_refl 0) ⟨x2, rfl, rfl, h⟩
theorem ok_ref09_trim (a1 : (List Int)) (h : ref09_trim.pre a1) : OkC prog 66 [.d (.sl (.int .i64)) a1] (.d (.sl (.int .i64)) (ref09_trim.fn a1)) :=
  OkC.of call_ref09_trim ((walk_ref09_trim a1 _ (ref09_trim.spec a1 h)).mono fun r o ⟨x, hr, ho, hx⟩ => ⟨by rw [hr, hx], ho⟩) rfl rfl (fun _ => rfl)

noncomputable abbrev Bref09_minus : Code := bodyOf Try.f74
theorem call_ref09_minus : CallOk prog 74 := ⟨_, Try.func74, by kernel_rfl, by kernel_rfl⟩
theorem walk_ref09_minus (a1 : (List Int)) (a2 : (List Int)) (Q : (List Int) → Prop) (h : ref09_minus.wp a1 a2 Q) : VCalls prog 74 [.d (.sl (.int .i64)) a1, .d (.sl (.int .i64)) a2] [] (fun r o => ∃ x, r = .d (.sl (.int .i64)) x ∧ o = [] ∧ Q x) := by
  refine vcalls_body tab Try.func74 (c := (spine (subC [0] Bref09_minus) [(spine (subC [1, 0] Bref09_minus) [(spine (subC [1, 1, 0] Bref09_minus) [(spine (subC [1, 1, 1, 0, 0] Bref09_minus) [(.block 0 (.loop (spine (subC [1, 1, 1, 0, 1, 0, 0, 0] Bref09_minus) [(spine (.cond (.tmp 12) .skip (.exit 0)) [(spine (.block 1 (spine (subC [1, 1, 1, 0, 1, 0, 0, 1, 1, 0, 0, 0] Bref09_minus) [(spine (subC [1, 1, 1, 0, 1, 0, 0, 1, 1, 0, 0, 1, 0] Bref09_minus) [(spine (subC [1, 1, 1, 0, 1, 0, 0, 1, 1, 0, 0, 1, 1, 0, 0] Bref09_minus) [(.cond (.tmp 23) (subC [1, 1, 1, 0, 1, 0, 0, 1, 1, 0, 0, 1, 1, 0, 1, 0] Bref09_minus) .skip), (spine (subC [1, 1, 1, 0, 1, 0, 0, 1, 1, 0, 0, 1, 1, 1, 0] Bref09_minus) [(spine (subC [1, 1, 1, 0, 1, 0, 0, 1, 1, 0, 0, 1, 1, 1, 1, 0, 0] Bref09_minus) [(.cond (.tmp 31) (subC [1, 1, 1, 0, 1, 0, 0, 1, 1, 0, 0, 1, 1, 1, 1, 0, 1, 0] Bref09_minus) .skip), (subC [1, 1, 1, 0, 1, 0, 0, 1, 1, 0, 0, 1, 1, 1, 1, 1] Bref09_minus)])])])])])) [(subC [1, 1, 1, 0, 1, 0, 0, 1, 1, 1] Bref09_minus)])])]))), (spine (subC [1, 1, 1, 1, 0] Bref09_minus) [.ret])])])])])) (by kernel_rfl) (Nat.le_of_ble_eq_true (by kernel_rfl)) fun cx hd hi hk => ?_
  show AWp prog cx _ _ ⟨41, [(0, .d (.sl (.int .i64)) a1), (1, .d (.sl (.int .i64)) a2)], []⟩
  replace hk : cx.E.len = 0 := hk
  unfold ref09_minus.wp at h
  refine awp_spine ?_
  refine awp_rc tab [0, 1] [] [] [] [] ⟨41, [(0, .d (.sl (.int .i64)) a1), (1, .d (.sl (.int .i64)) a2)], []⟩ (by kernel_rfl) (trivial) ?_
  refine then_n (spine_c ?_)
  refine awp_spine ?_
  refine awp_rc tab [0, 1, 5] [] [] [] [] ⟨41, [(0, .d (.sl (.int .i64)) a1), (1, .d (.sl (.int .i64)) a2), (5, .nils)], []⟩ (by kernel_rfl) (trivial) ?_
  refine then_n (spine_c ?_)
  refine awp_spine ?_
  refine awp_rc tab [0, 1, 5, 6] [] [] [] [] ⟨41, [(0, .d (.sl (.int .i64)) a1), (1, .d (.sl (.int .i64)) a2), (5, .nils), (6, vi (0 : Int))], []⟩ (by kernel_rfl) (trivial) ?_
  refine then_n (spine_c ?_)
  refine awp_spine ?_
  refine awp_rc tab [0, 1, 5, 6, 10, 11] [] [] [] [] ⟨41, [(0, .d (.sl (.int .i64)) a1), (1, .d (.sl (.int .i64)) a2), (5, .nils), (6, vi (0 : Int)), (10, vi (a1.length : Int)), (11, vi (0 : Int))], []⟩ (by kernel_rfl) (trivial) ?_
  refine then_n (spine_c ?_)
  refine awp_len 0 [] (T := (.int .i64)) (l := a1) (by kernel_rfl) fun hl => ?_
  replace h := h hl
  refine awp_block ?_
  obtain ⟨I10, ⟨n10a, hz10⟩, hI10⟩ := h
  refine awp_loopN (fun n s => ∃ (x4 : Int) (x5 : Int) (x6 : (List Int)), I10 n x4 x5 x6 ∧ s = ⟨41, [(0, .d (.sl (.int .i64)) a1), (1, .d (.sl (.int .i64)) a2), (5, .osl 0 0), (6, vi x4), (10, vi (a1.length : Int)), (11, vi x5)], [.row (.int .i64) x6 0]⟩) (n := n10a) (s0 := ⟨41, [(0, .d (.sl (.int .i64)) a1), (1, .d (.sl (.int .i64)) a2), (5, .osl 0 0), (6, vi (0 : Int)), (10, vi (a1.length : Int)), (11, vi (0 : Int))], [.row (.int .i64) ([] : List Int) 0]⟩) (wk_ghosts hk (l := [.keep [0, 1, 5, 6, 10, 11], .adopt 5 (.int .i64), .keep [0, 1, 5, 6, 10, 11], .keep [0, 1, 5, 6, 10, 11], .keep [0, 1, 5, 6, 10, 11]]) (by kernel_rfl)) ⟨0, 0, ([] : List Int), hz10, rfl⟩ ?_
  rintro n10 s ⟨x4, x5, x6, hx10, rfl⟩
  have h := hI10 n10 x4 x5 x6 hx10
  refine awp_spine ?_
  refine awp_rc tab [0, 1, 5, 6, 10, 11, 12] [] [] [] [] ⟨41, [(0, .d (.sl (.int .i64)) a1), (1, .d (.sl (.int .i64)) a2), (5, .osl 0 0), (6, vi x4), (10, vi (a1.length : Int)), (11, vi x5), (12, vb (decide (x5 < (a1.length : Int))))], [.row (.int .i64) x6 0]⟩ (by kernel_rfl) (trivial) ?_
  refine then_n (spine_c ?_)
  refine awp_spine ?_
  refine awp_cond (b := decide (x5 < (a1.length : Int))) (by kernel_rfl) (fun hb => ?_) (fun hb => ?_)
  · replace h := h.1 (of_decide_eq_true hb)
    refine awp_skip (then_n (spine_c ?_))
    refine awp_spine ?_
    refine awp_block ?_
    refine awp_spine ?_
    refine awp_rc tab [0, 1, 5, 6, 7, 10, 11] [] [] [] [] ⟨41, [(0, .d (.sl (.int .i64)) a1), (1, .d (.sl (.int .i64)) a2), (5, .osl 0 0), (6, vi x4), (7, vi x5), (10, vi (a1.length : Int)), (11, vi x5)], [.row (.int .i64) x6 0]⟩ (by kernel_rfl) (trivial) ?_
    refine then_n (spine_c ?_)
    refine awp_spine ?_
    obtain ⟨o1, o2, h⟩ := h
    refine awp_rc tab [0, 1, 5, 7, 8, 10, 11] [] [] [] [(0 : Int) ≤ x5 ∧ x5 < (a1.length : Int), -9223372036854775808 ≤ (gI a1 x5) - x4 ∧ (gI a1 x5) - x4 ≤ 9223372036854775807] ⟨41, [(0, .d (.sl (.int .i64)) a1), (1, .d (.sl (.int .i64)) a2), (5, .osl 0 0), (7, vi x5), (8, vi ((gI a1 x5) - x4)), (10, vi (a1.length : Int)), (11, vi x5)], [.row (.int .i64) x6 0]⟩ (by kernel_rfl) (AllP.of (o1) (AllP.of (o2) trivial)) ?_
    refine then_n (spine_c ?_)
    refine awp_spine ?_
    refine awp_rc tab [0, 1, 5, 7, 8, 10, 11, 23] [] [] [] [] ⟨41, [(0, .d (.sl (.int .i64)) a1), (1, .d (.sl (.int .i64)) a2), (5, .osl 0 0), (7, vi x5), (8, vi ((gI a1 x5) - x4)), (10, vi (a1.length : Int)), (11, vi x5), (23, vb (decide (x5 < (a2.length : Int))))], [.row (.int .i64) x6 0]⟩ (by kernel_rfl) (trivial) ?_
    refine then_n (spine_c ?_)
    refine awp_len 1 [] (T := (.int .i64)) (l := a2) (by kernel_rfl) fun hl => ?_
    replace h := h hl
    obtain ⟨R12, hA12, hB12⟩ := h
    refine awp_meet (fun s' => ∃ (x11 : Int), R12 x11 ∧ Wk cx s' ⟨41, [(0, .d (.sl (.int .i64)) a1), (1, .d (.sl (.int .i64)) a2), (5, .osl 0 0), (8, vi x11), (10, vi (a1.length : Int)), (11, vi x5)], [.row (.int .i64) x6 0]⟩) ?_ ?_
    · have h := hA12
      refine awp_cond (b := decide (x5 < (a2.length : Int))) (by kernel_rfl) (fun hb => ?_) (fun hb => ?_)
      · replace h := h.1 (of_decide_eq_true hb)
        obtain ⟨o3, o4, h⟩ := h
        refine awp_rc tab [0, 1, 5, 8, 10, 11] [] [] [] [(0 : Int) ≤ x5 ∧ x5 < (a2.length : Int), -9223372036854775808 ≤ ((gI a1 x5) - x4) - (gI a2 x5) ∧ ((gI a1 x5) - x4) - (gI a2 x5) ≤ 9223372036854775807] ⟨41, [(0, .d (.sl (.int .i64)) a1), (1, .d (.sl (.int .i64)) a2), (5, .osl 0 0), (8, vi (((gI a1 x5) - x4) - (gI a2 x5))), (10, vi (a1.length : Int)), (11, vi x5)], [.row (.int .i64) x6 0]⟩ (by kernel_rfl) (AllP.of (o3) (AllP.of (o4) trivial)) ?_
        refine then_n (?_)
        exact ⟨((gI a1 x5) - x4) - (gI a2 x5), h, wk_ghosts hk (l := [.keep [0, 1, 5, 8, 10, 11], .keep [0, 1, 5, 8, 10, 11], .keep [0, 1, 5, 8, 10, 11]]) (by kernel_rfl)⟩
      · replace h := h.2 (of_decide_eq_false hb)
        refine awp_skip (then_n (?_))
        exact ⟨(gI a1 x5) - x4, h, wk_ghosts hk (l := [.keep [0, 1, 5, 8, 10, 11], .keep [0, 1, 5, 8, 10, 11], .keep [0, 1, 5, 8, 10, 11]]) (by kernel_rfl)⟩
    · rintro s' ⟨x11, hx12, hw12⟩
      have h := hB12 x11 hx12
      refine spine_c (awp_wk hw12 ?_)
      refine awp_spine ?_
      refine awp_rc tab [0, 1, 5, 6, 8, 10, 11] [] [] [] [] ⟨41, [(0, .d (.sl (.int .i64)) a1), (1, .d (.sl (.int .i64)) a2), (5, .osl 0 0), (6, vi (0 : Int)), (8, vi x11), (10, vi (a1.length : Int)), (11, vi x5)], [.row (.int .i64) x6 0]⟩ (by kernel_rfl) (trivial) ?_
      refine then_n (spine_c ?_)
      refine awp_spine ?_
      refine awp_rc tab [0, 1, 5, 6, 8, 10, 11, 31] [] [] [] [] ⟨41, [(0, .d (.sl (.int .i64)) a1), (1, .d (.sl (.int .i64)) a2), (5, .osl 0 0), (6, vi (0 : Int)), (8, vi x11), (10, vi (a1.length : Int)), (11, vi x5), (31, vb (decide (x11 < (0 : Int))))], [.row (.int .i64) x6 0]⟩ (by kernel_rfl) (trivial) ?_
      refine then_n (spine_c ?_)
      refine awp_cond (b := decide (x11 < (0 : Int))) (by kernel_rfl) (fun hb => ?_) (fun hb => ?_)
      · replace h := h.1 (of_decide_eq_true hb)
        obtain ⟨o5, h⟩ := h
        refine awp_rc tab [0, 1, 5, 6, 8, 10, 11] [] [] [] [-9223372036854775808 ≤ x11 + (65536 : Int) ∧ x11 + (65536 : Int) ≤ 9223372036854775807] ⟨41, [(0, .d (.sl (.int .i64)) a1), (1, .d (.sl (.int .i64)) a2), (5, .osl 0 0), (6, vi (1 : Int)), (8, vi (x11 + (65536 : Int))), (10, vi (a1.length : Int)), (11, vi x5)], [.row (.int .i64) x6 0]⟩ (by kernel_rfl) (AllP.of (o5) trivial) ?_
        refine then_n (spine_c ?_)
        obtain ⟨o6, h⟩ := h
        refine awp_rc tab [0, 1, 5, 6, 10, 11] [] [] [2] [1 * 1 ≤ 16777216, (x6.length + [x11 + (65536 : Int)].length) * 8 ≤ 140737488355328 ∧ x6.length + [x11 + (65536 : Int)].length ≤ 9223372036854775807] ⟨41, [(0, .d (.sl (.int .i64)) a1), (1, .d (.sl (.int .i64)) a2), (5, .osl 0 1), (6, vi (1 : Int)), (10, vi (a1.length : Int)), (11, vi x5)], [.row (.int .i64) (x6 ++ [x11 + (65536 : Int)]) 1]⟩ (by kernel_rfl) (AllP.of (by decide) (AllP.of (o6) trivial)) ?_
        refine then_n (spine_e (then_n (spine_e (then_n (spine_e (then_n (spine_e (then_n (spine_e (blk_n (then_n (spine_c ?_))))))))))))
        obtain ⟨o7, h⟩ := h
        refine awp_rc tab [0, 1, 5, 6, 10, 11] [] [] [] [-9223372036854775808 ≤ x5 + (1 : Int) ∧ x5 + (1 : Int) ≤ 9223372036854775807] ⟨41, [(0, .d (.sl (.int .i64)) a1), (1, .d (.sl (.int .i64)) a2), (5, .osl 0 1), (6, vi (1 : Int)), (10, vi (a1.length : Int)), (11, vi (x5 + (1 : Int)))], [.row (.int .i64) (x6 ++ [x11 + (65536 : Int)]) 1]⟩ (by kernel_rfl) (AllP.of (o7) trivial) ?_
        refine then_n (spine_e (then_n (spine_e (then_n (spine_e (then_n (?_)))))))
        obtain ⟨m, hm, h⟩ := h
        exact ⟨m, hm, ⟨41, [(0, .d (.sl (.int .i64)) a1), (1, .d (.sl (.int .i64)) a2), (5, .osl 0 0), (6, vi (1 : Int)), (10, vi (a1.length : Int)), (11, vi (x5 + (1 : Int)))], [.row (.int .i64) (x6 ++ [x11 + (65536 : Int)]) 0]⟩, wk_ghosts hk (l := [.keep [0, 1, 5, 6, 10, 11], .keep [0, 1, 5, 6, 10, 11], .reset 0, .keep [0, 1, 5, 6, 10, 11]]) (by kernel_rfl), 1, x5 + (1 : Int), x6 ++ [x11 + (65536 : Int)], h, rfl⟩
      · replace h := h.2 (of_decide_eq_false hb)
        refine awp_skip (then_n (spine_c ?_))
        obtain ⟨o8, h⟩ := h
        refine awp_rc tab [0, 1, 5, 6, 10, 11] [] [] [2] [1 * 1 ≤ 16777216, (x6.length + [x11].length) * 8 ≤ 140737488355328 ∧ x6.length + [x11].length ≤ 9223372036854775807] ⟨41, [(0, .d (.sl (.int .i64)) a1), (1, .d (.sl (.int .i64)) a2), (5, .osl 0 1), (6, vi (0 : Int)), (10, vi (a1.length : Int)), (11, vi x5)], [.row (.int .i64) (x6 ++ [x11]) 1]⟩ (by kernel_rfl) (AllP.of (by decide) (AllP.of (o8) trivial)) ?_
        refine then_n (spine_e (then_n (spine_e (then_n (spine_e (then_n (spine_e (then_n (spine_e (blk_n (then_n (spine_c ?_))))))))))))
        obtain ⟨o9, h⟩ := h
        refine awp_rc tab [0, 1, 5, 6, 10, 11] [] [] [] [-9223372036854775808 ≤ x5 + (1 : Int) ∧ x5 + (1 : Int) ≤ 9223372036854775807] ⟨41, [(0, .d (.sl (.int .i64)) a1), (1, .d (.sl (.int .i64)) a2), (5, .osl 0 1), (6, vi (0 : Int)), (10, vi (a1.length : Int)), (11, vi (x5 + (1 : Int)))], [.row (.int .i64) (x6 ++ [x11]) 1]⟩ (by kernel_rfl) (AllP.of (o9) trivial) ?_
        refine then_n (spine_e (then_n (spine_e (then_n (spine_e (then_n (?_)))))))
        obtain ⟨m, hm, h⟩ := h
        exact ⟨m, hm, ⟨41, [(0, .d (.sl (.int .i64)) a1), (1, .d (.sl (.int .i64)) a2), (5, .osl 0 0), (6, vi (0 : Int)), (10, vi (a1.length : Int)), (11, vi (x5 + (1 : Int)))], [.row (.int .i64) (x6 ++ [x11]) 0]⟩, wk_ghosts hk (l := [.keep [0, 1, 5, 6, 10, 11], .keep [0, 1, 5, 6, 10, 11], .reset 0, .keep [0, 1, 5, 6, 10, 11]]) (by kernel_rfl), 0, x5 + (1 : Int), x6 ++ [x11], h, rfl⟩
  · replace h := h.2 (of_decide_eq_false hb)
    refine awp_exit (then_x (then_x (then_x (blk_h (then_n (spine_c ?_))))))
    refine awp_spine ?_
    refine awp_gh hk [.freeze 0, .keep [0, 1, 5, 6, 10, 11, 12]] ⟨41, [(0, .d (.sl (.int .i64)) a1), (1, .d (.sl (.int .i64)) a2), (5, .d (.sl (.int .i64)) x6), (6, vi x4), (10, vi (a1.length : Int)), (11, vi x5), (12, vb (decide (x5 < (a1.length : Int))))], [.dead]⟩ (by kernel_rfl) ?_
    obtain ⟨o10, h⟩ := h
    refine awp_rc tab [4] [] [(1, .dat (.d (.sl (.int .i64)) (ref09_trim.fn x6)))] [] [OkC prog 66 [.d (.sl (.int .i64)) x6] (.d (.sl (.int .i64)) (ref09_trim.fn x6))] ⟨41, [(4, .d (.sl (.int .i64)) (ref09_trim.fn x6))], [.dead]⟩ (by kernel_rfl) (AllP.of (ok_ref09_trim x6 (o10)) trivial) ?_
    refine then_n (spine_c ?_)
    refine awp_abs (fun (x13 : (List Int)) => ⟨41, [(4, .d (.sl (.int .i64)) x13)], [.dead]⟩) (ref09_trim.fn x6) ?_
    intro x13 hx13
    replace h := h x13 hx13
    refine awp_ret (then_r (then_r (then_r (then_r (then_r (?_))))))
    exact ret_r (m := 0) (r := .d (.sl (.int .i64)) x13) (objs := []) hk [.keep [4]] ⟨41, [(4, .d (.sl (.int .i64)) x13)], [.dead]⟩ (by kernel_rfl) (by kernel_rfl) (Nat.le_refl 0) ⟨x13, rfl, rfl, h⟩
theorem ok_ref09_minus (a1 : (List Int)) (a2 : (List Int)) (h : ref09_minus.pre a1 a2) : OkC prog 74 [.d (.sl (.int .i64)) a1, .d (.sl (.int .i64)) a2] (.d (.sl (.int .i64)) (ref09_minus.fn a1 a2)) :=
  OkC.of call_ref09_minus ((walk_ref09_minus a1 a2 _ (ref09_minus.spec a1 a2 h)).mono fun r o ⟨x, hr, ho, hx⟩ => ⟨by rw [hr, hx], ho⟩) rfl rfl (fun _ => rfl)

noncomputable abbrev Bref09_order : Code := bodyOf Try.f73
theorem call_ref09_order : CallOk prog 73 := ⟨_, Try.func73, by kernel_rfl, by kernel_rfl⟩
theorem walk_ref09_order (a1 : (List Int)) (a2 : (List Int)) (Q : Int → Prop) (h : ref09_order.wp a1 a2 Q) : VCalls prog 73 [.d (.sl (.int .i64)) a1, .d (.sl (.int .i64)) a2] [] (fun r o => ∃ x, r = vi x ∧ o = [] ∧ Q x) := by
  refine vcalls_body tab Try.func73 (c := (spine (subC [0] Bref09_order) [(spine (subC [1, 0, 0] Bref09_order) [(.cond (.tmp 10) (spine (subC [1, 0, 1, 0, 0, 0] Bref09_order) [(.cond (.tmp 15) (spine (subC [1, 0, 1, 0, 0, 1, 0, 0] Bref09_order) [.ret]) .skip), (spine (subC [1, 0, 1, 0, 1, 0] Bref09_order) [.ret])]) .skip), (spine (subC [1, 1, 0, 0] Bref09_order) [(.block 0 (.loop (spine (subC [1, 1, 0, 1, 0, 0, 0, 0] Bref09_order) [(.cond (.tmp 20) .skip (.exit 0)), (spine (.block 1 (spine (subC [1, 1, 0, 1, 0, 0, 1, 0, 0, 0] Bref09_order) [(.cond (.tmp 31) (spine (subC [1, 1, 0, 1, 0, 0, 1, 0, 0, 1, 0, 0, 0] Bref09_order) [(.cond (.tmp 40) (spine (subC [1, 1, 0, 1, 0, 0, 1, 0, 0, 1, 0, 0, 1, 0, 0] Bref09_order) [.ret]) .skip), (spine (subC [1, 1, 0, 1, 0, 0, 1, 0, 0, 1, 0, 1, 0] Bref09_order) [.ret])]) .skip)])) [(subC [1, 1, 0, 1, 0, 0, 1, 1] Bref09_order)])]))), (spine (subC [1, 1, 1, 0] Bref09_order) [.ret])])])])) (by kernel_rfl) (Nat.le_of_ble_eq_true (by kernel_rfl)) fun cx hd hi hk => ?_
  show AWp prog cx _ _ ⟨41, [(0, .d (.sl (.int .i64)) a1), (1, .d (.sl (.int .i64)) a2)], []⟩
  replace hk : cx.E.len = 0 := hk
  unfold ref09_order.wp at h
  refine awp_spine ?_
  refine awp_rc tab [0, 1] [] [] [] [] ⟨41, [(0, .d (.sl (.int .i64)) a1), (1, .d (.sl (.int .i64)) a2)], []⟩ (by kernel_rfl) (trivial) ?_
  refine then_n (spine_c ?_)
  refine awp_spine ?_
  refine awp_rc tab [0, 1, 10] [] [] [] [] ⟨41, [(0, .d (.sl (.int .i64)) a1), (1, .d (.sl (.int .i64)) a2), (10, vb ((a1.length : Int) != (a2.length : Int)))], []⟩ (by kernel_rfl) (trivial) ?_
  refine then_n (spine_c ?_)
  refine awp_len 0 [] (T := (.int .i64)) (l := a1) (by kernel_rfl) fun hl => ?_
  replace h := h hl
  refine awp_len 1 [] (T := (.int .i64)) (l := a2) (by kernel_rfl) fun hl => ?_
  replace h := h hl
  refine awp_cond (b := (a1.length : Int) != (a2.length : Int)) (by kernel_rfl) (fun hb => ?_) (fun hb => ?_)
  · replace h := h.1 (bne_iff_ne.mp hb)
    refine awp_spine ?_
    refine awp_rc tab [15] [] [] [] [] ⟨41, [(15, vb (decide ((a1.length : Int) < (a2.length : Int))))], []⟩ (by kernel_rfl) (trivial) ?_
    refine then_n (spine_c ?_)
    refine awp_cond (b := decide ((a1.length : Int) < (a2.length : Int))) (by kernel_rfl) (fun hb => ?_) (fun hb => ?_)
    · replace h := h.1 (of_decide_eq_true hb)
      refine awp_spine ?_
      refine awp_rc tab [4] [] [] [] [] ⟨41, [(4, vi (-1))], []⟩ (by kernel_rfl) (trivial) ?_
      refine then_n (spine_c ?_)
      refine awp_ret (then_r (then_r (then_r (then_r (?_)))))
      exact ret_r (m := 0) (r := vi (-1)) (objs := []) hk [.keep [4]] ⟨41, [(4, vi (-1))], []⟩ (by kernel_rfl) (by kernel_rfl) (Nat.le_refl 0) ⟨(-1), rfl, rfl, h⟩
    · replace h := h.2 (of_decide_eq_false hb)
      refine awp_skip (then_n (spine_c ?_))
      refine awp_spine ?_
      refine awp_rc tab [4] [] [] [] [] ⟨41, [(4, vi (1 : Int))], []⟩ (by kernel_rfl) (trivial) ?_
      refine then_n (spine_c ?_)
      refine awp_ret (then_r (then_r (then_r (then_r (?_)))))
      exact ret_r (m := 0) (r := vi (1 : Int)) (objs := []) hk [.keep [4]] ⟨41, [(4, vi (1 : Int))], []⟩ (by kernel_rfl) (by kernel_rfl) (Nat.le_refl 0) ⟨1, rfl, rfl, h⟩
  · replace h := h.2 (bne_f hb)
    refine awp_skip (then_n (spine_c ?_))
    refine awp_spine ?_
    obtain ⟨o1, h⟩ := h
    refine awp_rc tab [0, 1, 5] [] [] [] [-9223372036854775808 ≤ (a1.length : Int) - (1 : Int) ∧ (a1.length : Int) - (1 : Int) ≤ 9223372036854775807] ⟨41, [(0, .d (.sl (.int .i64)) a1), (1, .d (.sl (.int .i64)) a2), (5, vi ((a1.length : Int) - (1 : Int)))], []⟩ (by kernel_rfl) (AllP.of (o1) trivial) ?_
    refine then_n (spine_c ?_)
    refine awp_len 0 [] (T := (.int .i64)) (l := a1) (by kernel_rfl) fun hl => ?_
    replace h := h hl
    refine awp_block ?_
    obtain ⟨I4, ⟨n4a, hz4⟩, hI4⟩ := h
    refine awp_loopN (fun n s => ∃ (x2 : Int), I4 n x2 ∧ s = ⟨41, [(0, .d (.sl (.int .i64)) a1), (1, .d (.sl (.int .i64)) a2), (5, vi x2)], []⟩) (n := n4a) (s0 := ⟨41, [(0, .d (.sl (.int .i64)) a1), (1, .d (.sl (.int .i64)) a2), (5, vi ((a1.length : Int) - (1 : Int)))], []⟩) (wk_ghosts hk (l := [.keep [0, 1, 5], .keep [0, 1, 5], .keep [0, 1, 5], .keep [0, 1, 5]]) (by kernel_rfl)) ⟨(a1.length : Int) - (1 : Int), hz4, rfl⟩ ?_
    rintro n4 s ⟨x2, hx4, rfl⟩
    have h := hI4 n4 x2 hx4
    refine awp_spine ?_
    refine awp_rc tab [0, 1, 5, 20] [] [] [] [] ⟨41, [(0, .d (.sl (.int .i64)) a1), (1, .d (.sl (.int .i64)) a2), (5, vi x2), (20, vb (decide (x2 ≥ (0 : Int))))], []⟩ (by kernel_rfl) (trivial) ?_
    refine then_n (spine_c ?_)
    refine awp_cond (b := decide (x2 ≥ (0 : Int))) (by kernel_rfl) (fun hb => ?_) (fun hb => ?_)
    · replace h := h.1 (of_decide_eq_true hb)
      refine awp_skip (then_n (spine_c ?_))
      refine awp_spine ?_
      refine awp_block ?_
      refine awp_spine ?_
      obtain ⟨o2, o3, h⟩ := h
      refine awp_dr tab mixed [0, 1, 5, 31] [] [] [] ⟨[[], [], [0, 1], [0, 1, 2], [], [], [4, 5], [4, 5, 6], [0, 1, 2, 3, 4, 5, 6, 7]], [.d (.sl (.int .i64)) a1, vi x2, .er [vi (gI a1 x2)], vi (gI a1 x2), .d (.sl (.int .i64)) a2, vi x2, .er [vi (gI a2 x2)], vi (gI a2 x2), vb ((gI a1 x2) != (gI a2 x2))], [none, none, some ((0 : Int) ≤ x2 ∧ x2 < (a1.length : Int)), none, none, none, some ((0 : Int) ≤ x2 ∧ x2 < (a2.length : Int)), none, none], [], [([], [])]⟩ ⟨41, [(0, .d (.sl (.int .i64)) a1), (1, .d (.sl (.int .i64)) a2), (5, vi x2), (31, vb ((gI a1 x2) != (gI a2 x2)))], []⟩ (by kernel_rfl) (AllO.n (AllO.n (AllO.s (o2) (AllO.n (AllO.n (AllO.n (AllO.s (o3) (AllO.n (AllO.n (AllO.e)))))))))) ?_
      refine then_n (spine_c ?_)
      refine awp_cond (b := (gI a1 x2) != (gI a2 x2)) (by kernel_rfl) (fun hb => ?_) (fun hb => ?_)
      · replace h := h.1 (bne_iff_ne.mp hb)
        refine awp_spine ?_
        obtain ⟨o4, o5, h⟩ := h
        refine awp_dr tab mixed [40] [] [] [] ⟨[[], [], [0, 1], [0, 1, 2], [], [], [4, 5], [4, 5, 6], [0, 1, 2, 3, 4, 5, 6, 7]], [.d (.sl (.int .i64)) a1, vi x2, .er [vi (gI a1 x2)], vi (gI a1 x2), .d (.sl (.int .i64)) a2, vi x2, .er [vi (gI a2 x2)], vi (gI a2 x2), vb (decide ((gI a1 x2) < (gI a2 x2)))], [none, none, some ((0 : Int) ≤ x2 ∧ x2 < (a1.length : Int)), none, none, none, some ((0 : Int) ≤ x2 ∧ x2 < (a2.length : Int)), none, none], [], [([], [])]⟩ ⟨41, [(40, vb (decide ((gI a1 x2) < (gI a2 x2))))], []⟩ (by kernel_rfl) (AllO.n (AllO.n (AllO.s (o4) (AllO.n (AllO.n (AllO.n (AllO.s (o5) (AllO.n (AllO.n (AllO.e)))))))))) ?_
        refine then_n (spine_c ?_)
        refine awp_cond (b := decide ((gI a1 x2) < (gI a2 x2))) (by kernel_rfl) (fun hb => ?_) (fun hb => ?_)
        · replace h := h.1 (of_decide_eq_true hb)
          refine awp_spine ?_
          refine awp_rc tab [4] [] [] [] [] ⟨41, [(4, vi (-1))], []⟩ (by kernel_rfl) (trivial) ?_
          refine then_n (spine_c ?_)
          refine awp_ret (then_r (then_r (then_r (blk_r (then_r (then_r (then_r (blk_r (then_r (then_r (then_r (?_))))))))))))
          exact ret_r (m := 0) (r := vi (-1)) (objs := []) hk [.keep [4]] ⟨41, [(4, vi (-1))], []⟩ (by kernel_rfl) (by kernel_rfl) (Nat.le_refl 0) ⟨(-1), rfl, rfl, h⟩
        · replace h := h.2 (of_decide_eq_false hb)
          refine awp_skip (then_n (spine_c ?_))
          refine awp_spine ?_
          refine awp_rc tab [4] [] [] [] [] ⟨41, [(4, vi (1 : Int))], []⟩ (by kernel_rfl) (trivial) ?_
          refine then_n (spine_c ?_)
          refine awp_ret (then_r (then_r (then_r (blk_r (then_r (then_r (then_r (blk_r (then_r (then_r (then_r (?_))))))))))))
          exact ret_r (m := 0) (r := vi (1 : Int)) (objs := []) hk [.keep [4]] ⟨41, [(4, vi (1 : Int))], []⟩ (by kernel_rfl) (by kernel_rfl) (Nat.le_refl 0) ⟨1, rfl, rfl, h⟩
      · replace h := h.2 (bne_f hb)
        refine awp_skip (then_n (spine_e (blk_n (then_n (spine_c ?_)))))
        obtain ⟨o6, h⟩ := h
        refine awp_rc tab [0, 1, 5] [] [] [] [-9223372036854775808 ≤ x2 - (1 : Int) ∧ x2 - (1 : Int) ≤ 9223372036854775807] ⟨41, [(0, .d (.sl (.int .i64)) a1), (1, .d (.sl (.int .i64)) a2), (5, vi (x2 - (1 : Int)))], []⟩ (by kernel_rfl) (AllP.of (o6) trivial) ?_
        refine then_n (spine_e (then_n (spine_e (then_n (?_)))))
        obtain ⟨m, hm, h⟩ := h
        exact ⟨m, hm, ⟨41, [(0, .d (.sl (.int .i64)) a1), (1, .d (.sl (.int .i64)) a2), (5, vi (x2 - (1 : Int)))], []⟩, wk_ghosts hk (l := [.keep [0, 1, 5], .keep [0, 1, 5], .keep [0, 1, 5]]) (by kernel_rfl), x2 - (1 : Int), h, rfl⟩
    · replace h := h.2 (of_decide_eq_false hb)
      refine awp_exit (then_x (then_x (blk_h (then_n (spine_c ?_)))))
      refine awp_spine ?_
      refine awp_rc tab [4] [] [] [] [] ⟨41, [(4, vi (0 : Int))], []⟩ (by kernel_rfl) (trivial) ?_
      refine then_n (spine_c ?_)
      refine awp_ret (then_r (then_r (then_r (then_r (?_)))))
      exact ret_r (m := 0) (r := vi (0 : Int)) (objs := []) hk [.keep [4]] ⟨41, [(4, vi (0 : Int))], []⟩ (by kernel_rfl) (by kernel_rfl) (Nat.le_refl 0) ⟨0, rfl, rfl, h⟩
theorem ok_ref09_order (a1 : (List Int)) (a2 : (List Int)) (h : ref09_order.pre a1 a2) : OkC prog 73 [.d (.sl (.int .i64)) a1, .d (.sl (.int .i64)) a2] (vi (ref09_order.fn a1 a2)) :=
  OkC.of call_ref09_order ((walk_ref09_order a1 a2 _ (ref09_order.spec a1 a2 h)).mono fun r o ⟨x, hr, ho, hx⟩ => ⟨by rw [hr, hx], ho⟩) rfl rfl (fun _ => rfl)

noncomputable abbrev Bref09_plus : Code := bodyOf Try.f72
theorem call_ref09_plus : CallOk prog 72 := ⟨_, Try.func72, by kernel_rfl, by kernel_rfl⟩
theorem walk_ref09_plus (a1 : (List Int)) (a2 : (List Int)) (Q : (List Int) → Prop) (h : ref09_plus.wp a1 a2 Q) : VCalls prog 72 [.d (.sl (.int .i64)) a1, .d (.sl (.int .i64)) a2] [] (fun r o => ∃ x, r = .d (.sl (.int .i64)) x ∧ o = [] ∧ Q x) := by
  refine vcalls_body tab Try.func72 (c := (spine (subC [0] Bref09_plus) [(spine (subC [1, 0] Bref09_plus) [(spine (subC [1, 1, 0] Bref09_plus) [(spine (subC [1, 1, 1, 0, 0] Bref09_plus) [(.block 0 (.loop (spine (subC [1, 1, 1, 0, 1, 0, 0, 0, 0] Bref09_plus) [(.cond (.tmp 21) .skip (.exit 0)), (spine (.block 1 (spine (subC [1, 1, 1, 0, 1, 0, 0, 1, 0, 0, 0, 0] Bref09_plus) [(.cond (.tmp 27) (subC [1, 1, 1, 0, 1, 0, 0, 1, 0, 0, 0, 1, 0] Bref09_plus) .skip), (spine (subC [1, 1, 1, 0, 1, 0, 0, 1, 0, 0, 1, 0, 0] Bref09_plus) [(.cond (.tmp 37) (subC [1, 1, 1, 0, 1, 0, 0, 1, 0, 0, 1, 0, 1, 0] Bref09_plus) .skip), (spine (subC [1, 1, 1, 0, 1, 0, 0, 1, 0, 0, 1, 1, 0] Bref09_plus) [(subC [1, 1, 1, 0, 1, 0, 0, 1, 0, 0, 1, 1, 1] Bref09_plus)])])])) [(subC [1, 1, 1, 0, 1, 0, 0, 1, 1] Bref09_plus)])]))), (spine (subC [1, 1, 1, 1, 0] Bref09_plus) [.ret])])])])])) (by kernel_rfl) (Nat.le_of_ble_eq_true (by kernel_rfl)) fun cx hd hi hk => ?_
  show AWp prog cx _ _ ⟨53, [(0, .d (.sl (.int .i64)) a1), (1, .d (.sl (.int .i64)) a2)], []⟩
  replace hk : cx.E.len = 0 := hk
  unfold ref09_plus.wp at h
  refine awp_spine ?_
  refine awp_rc tab [0, 1] [] [] [] [] ⟨53, [(0, .d (.sl (.int .i64)) a1), (1, .d (.sl (.int .i64)) a2)], []⟩ (by kernel_rfl) (trivial) ?_
  refine then_n (spine_c ?_)
  refine awp_spine ?_
  refine awp_rc tab [0, 1, 5] [] [] [] [] ⟨53, [(0, .d (.sl (.int .i64)) a1), (1, .d (.sl (.int .i64)) a2), (5, .nils)], []⟩ (by kernel_rfl) (trivial) ?_
  refine then_n (spine_c ?_)
  refine awp_spine ?_
  refine awp_rc tab [0, 1, 5, 6] [] [] [] [] ⟨53, [(0, .d (.sl (.int .i64)) a1), (1, .d (.sl (.int .i64)) a2), (5, .nils), (6, vi (0 : Int))], []⟩ (by kernel_rfl) (trivial) ?_
  refine then_n (spine_c ?_)
  refine awp_spine ?_
  refine awp_rc tab [0, 1, 5, 6, 7] [] [] [] [] ⟨53, [(0, .d (.sl (.int .i64)) a1), (1, .d (.sl (.int .i64)) a2), (5, .nils), (6, vi (0 : Int)), (7, vi (0 : Int))], []⟩ (by kernel_rfl) (trivial) ?_
  refine then_n (spine_c ?_)
  refine awp_block ?_
  obtain ⟨I10, ⟨n10a, hz10⟩, hI10⟩ := h
  refine awp_loopN (fun n s => ∃ (x4 : Int) (x5 : Int) (x6 : (List Int)), I10 n x4 x5 x6 ∧ s = ⟨53, [(0, .d (.sl (.int .i64)) a1), (1, .d (.sl (.int .i64)) a2), (5, .osl 0 0), (6, vi x4), (7, vi x5)], [.row (.int .i64) x6 0]⟩) (n := n10a) (s0 := ⟨53, [(0, .d (.sl (.int .i64)) a1), (1, .d (.sl (.int .i64)) a2), (5, .osl 0 0), (6, vi (0 : Int)), (7, vi (0 : Int))], [.row (.int .i64) ([] : List Int) 0]⟩) (wk_ghosts hk (l := [.keep [0, 1, 5, 6, 7], .adopt 5 (.int .i64), .keep [0, 1, 5, 6, 7], .keep [0, 1, 5, 6, 7], .keep [0, 1, 5, 6, 7]]) (by kernel_rfl)) ⟨0, 0, ([] : List Int), hz10, rfl⟩ ?_
  rintro n10 s ⟨x4, x5, x6, hx10, rfl⟩
  have h := hI10 n10 x4 x5 x6 hx10
  refine awp_spine ?_
  refine awp_rc tab [0, 1, 5, 6, 7, 21] [] [] [] [(!(decide (x5 < (a1.length : Int)))) = true → (!(decide (x5 < (a1.length : Int)))) = true ∧ True, (!(decide (x5 < (a1.length : Int)))) = true → (!(decide (x5 < (a1.length : Int)))) = true ∧ ((!(decide (x5 < (a1.length : Int)))) = true ∧ True), (decide (x5 < (a1.length : Int))) = false → (!(decide (x5 < (a1.length : Int)))) = true, (!((decide (x5 < (a1.length : Int))) || (decide (x5 < (a2.length : Int))))) = true → (!((decide (x5 < (a1.length : Int))) || (decide (x5 < (a2.length : Int))))) = true ∧ True, ((decide (x5 < (a1.length : Int))) || (decide (x5 < (a2.length : Int)))) = false → (!((decide (x5 < (a1.length : Int))) || (decide (x5 < (a2.length : Int))))) = true] ⟨53, [(0, .d (.sl (.int .i64)) a1), (1, .d (.sl (.int .i64)) a2), (5, .osl 0 0), (6, vi x4), (7, vi x5), (21, vb (((decide (x5 < (a1.length : Int))) || (decide (x5 < (a2.length : Int)))) || (decide (x4 > (0 : Int)))))], [.row (.int .i64) x6 0]⟩ (by kernel_rfl) (AllP.of (fun hg => ⟨hg, trivial⟩) (AllP.of (fun hg => ⟨hg, hg, trivial⟩) (AllP.of (fun hc => not_f hc) (AllP.of (fun hg => ⟨hg, trivial⟩) (AllP.of (fun hc => not_f hc) trivial))))) ?_
  refine then_n (spine_c ?_)
  refine awp_len 0 [] (T := (.int .i64)) (l := a1) (by kernel_rfl) fun hl => ?_
  replace h := h hl
  refine awp_cond (b := ((decide (x5 < (a1.length : Int))) || (decide (x5 < (a2.length : Int)))) || (decide (x4 > (0 : Int)))) (by kernel_rfl) (fun hb => ?_) (fun hb => ?_)
  · replace h := h.1 (hb)
    refine awp_skip (then_n (spine_c ?_))
    refine awp_spine ?_
    refine awp_block ?_
    refine awp_spine ?_
    refine awp_rc tab [0, 1, 5, 6, 7, 27] [] [] [] [] ⟨53, [(0, .d (.sl (.int .i64)) a1), (1, .d (.sl (.int .i64)) a2), (5, .osl 0 0), (6, vi x4), (7, vi x5), (27, vb (decide (x5 < (a1.length : Int))))], [.row (.int .i64) x6 0]⟩ (by kernel_rfl) (trivial) ?_
    refine then_n (spine_c ?_)
    refine awp_len 0 [] (T := (.int .i64)) (l := a1) (by kernel_rfl) fun hl => ?_
    replace h := h hl
    obtain ⟨R12, hA12, hB12⟩ := h
    refine awp_meet (fun s' => ∃ (x11 : Int), R12 x11 ∧ Wk cx s' ⟨53, [(0, .d (.sl (.int .i64)) a1), (1, .d (.sl (.int .i64)) a2), (5, .osl 0 0), (6, vi x11), (7, vi x5)], [.row (.int .i64) x6 0]⟩) ?_ ?_
    · have h := hA12
      refine awp_cond (b := decide (x5 < (a1.length : Int))) (by kernel_rfl) (fun hb => ?_) (fun hb => ?_)
      · replace h := h.1 (of_decide_eq_true hb)
        obtain ⟨o1, o2, h⟩ := h
        refine awp_rc tab [0, 1, 5, 6, 7] [] [] [] [(0 : Int) ≤ x5 ∧ x5 < (a1.length : Int), -9223372036854775808 ≤ x4 + (gI a1 x5) ∧ x4 + (gI a1 x5) ≤ 9223372036854775807] ⟨53, [(0, .d (.sl (.int .i64)) a1), (1, .d (.sl (.int .i64)) a2), (5, .osl 0 0), (6, vi (x4 + (gI a1 x5))), (7, vi x5)], [.row (.int .i64) x6 0]⟩ (by kernel_rfl) (AllP.of (o1) (AllP.of (o2) trivial)) ?_
        refine then_n (?_)
        exact ⟨x4 + (gI a1 x5), h, wk_ghosts hk (l := [.keep [0, 1, 5, 6, 7], .keep [0, 1, 5, 6, 7], .keep [0, 1, 5, 6, 7]]) (by kernel_rfl)⟩
      · replace h := h.2 (of_decide_eq_false hb)
        refine awp_skip (then_n (?_))
        exact ⟨x4, h, wk_ghosts hk (l := [.keep [0, 1, 5, 6, 7], .keep [0, 1, 5, 6, 7], .keep [0, 1, 5, 6, 7]]) (by kernel_rfl)⟩
    · rintro s' ⟨x11, hx12, hw12⟩
      have h := hB12 x11 hx12
      refine spine_c (awp_wk hw12 ?_)
      refine awp_spine ?_
      refine awp_rc tab [0, 1, 5, 6, 7, 37] [] [] [] [] ⟨53, [(0, .d (.sl (.int .i64)) a1), (1, .d (.sl (.int .i64)) a2), (5, .osl 0 0), (6, vi x11), (7, vi x5), (37, vb (decide (x5 < (a2.length : Int))))], [.row (.int .i64) x6 0]⟩ (by kernel_rfl) (trivial) ?_
      refine then_n (spine_c ?_)
      refine awp_len 1 [] (T := (.int .i64)) (l := a2) (by kernel_rfl) fun hl => ?_
      replace h := h hl
      refine awp_cond (b := decide (x5 < (a2.length : Int))) (by kernel_rfl) (fun hb => ?_) (fun hb => ?_)
      · replace h := h.1 (of_decide_eq_true hb)
        obtain ⟨o3, o4, h⟩ := h
        refine awp_rc tab [0, 1, 5, 6, 7] [] [] [] [(0 : Int) ≤ x5 ∧ x5 < (a2.length : Int), -9223372036854775808 ≤ x11 + (gI a2 x5) ∧ x11 + (gI a2 x5) ≤ 9223372036854775807] ⟨53, [(0, .d (.sl (.int .i64)) a1), (1, .d (.sl (.int .i64)) a2), (5, .osl 0 0), (6, vi (x11 + (gI a2 x5))), (7, vi x5)], [.row (.int .i64) x6 0]⟩ (by kernel_rfl) (AllP.of (o3) (AllP.of (o4) trivial)) ?_
        refine then_n (spine_c ?_)
        refine awp_spine ?_
        obtain ⟨o5, h⟩ := h
        refine awp_rc tab [0, 1, 5, 6, 7] [] [] [3] [1 * 1 ≤ 16777216, (x6.length + [IntKind.wrap .i64 ((BitVec.ofInt 64 (x11 + (gI a2 x5)) &&& BitVec.ofInt 64 (65535 : Int)).toNat : Int)].length) * 8 ≤ 140737488355328 ∧ x6.length + [IntKind.wrap .i64 ((BitVec.ofInt 64 (x11 + (gI a2 x5)) &&& BitVec.ofInt 64 (65535 : Int)).toNat : Int)].length ≤ 9223372036854775807] ⟨53, [(0, .d (.sl (.int .i64)) a1), (1, .d (.sl (.int .i64)) a2), (5, .osl 0 1), (6, vi (x11 + (gI a2 x5))), (7, vi x5)], [.row (.int .i64) (x6 ++ [IntKind.wrap .i64 ((BitVec.ofInt 64 (x11 + (gI a2 x5)) &&& BitVec.ofInt 64 (65535 : Int)).toNat : Int)]) 1]⟩ (by kernel_rfl) (AllP.of (by decide) (AllP.of (o5) trivial)) ?_
        refine then_n (spine_c ?_)
        refine awp_abs (fun (x13 : (List Int)) => ⟨53, [(0, .d (.sl (.int .i64)) a1), (1, .d (.sl (.int .i64)) a2), (5, .osl 0 1), (6, vi (x11 + (gI a2 x5))), (7, vi x5)], [.row (.int .i64) x13 1]⟩) (x6 ++ [IntKind.wrap .i64 ((BitVec.ofInt 64 (x11 + (gI a2 x5)) &&& BitVec.ofInt 64 (65535 : Int)).toNat : Int)]) ?_
        intro x13 hx13
        replace h := h x13 hx13
        obtain ⟨o6, h⟩ := h
        refine awp_rc tab [0, 1, 5, 6, 7] [] [] [] [0 ≤ (16 : Int)] ⟨53, [(0, .d (.sl (.int .i64)) a1), (1, .d (.sl (.int .i64)) a2), (5, .osl 0 1), (6, vi (Int.fdiv (x11 + (gI a2 x5)) (2 ^ (min (Int.toNat (16 : Int)) 64)))), (7, vi x5)], [.row (.int .i64) x13 1]⟩ (by kernel_rfl) (AllP.of (o6) trivial) ?_
        refine then_n (spine_e (then_n (spine_e (then_n (spine_e (blk_n (then_n (spine_c ?_))))))))
        refine awp_abs (fun (x14 : Int) => ⟨53, [(0, .d (.sl (.int .i64)) a1), (1, .d (.sl (.int .i64)) a2), (5, .osl 0 1), (6, vi x14), (7, vi x5)], [.row (.int .i64) x13 1]⟩) (Int.fdiv (x11 + (gI a2 x5)) (2 ^ (min (Int.toNat (16 : Int)) 64))) ?_
        intro x14 hx14
        replace h := h x14 hx14
        obtain ⟨o7, h⟩ := h
        refine awp_rc tab [0, 1, 5, 6, 7] [] [] [] [-9223372036854775808 ≤ x5 + (1 : Int) ∧ x5 + (1 : Int) ≤ 9223372036854775807] ⟨53, [(0, .d (.sl (.int .i64)) a1), (1, .d (.sl (.int .i64)) a2), (5, .osl 0 1), (6, vi x14), (7, vi (x5 + (1 : Int)))], [.row (.int .i64) x13 1]⟩ (by kernel_rfl) (AllP.of (o7) trivial) ?_
        refine then_n (spine_e (then_n (spine_e (then_n (?_)))))
        obtain ⟨m, hm, h⟩ := h
        exact ⟨m, hm, ⟨53, [(0, .d (.sl (.int .i64)) a1), (1, .d (.sl (.int .i64)) a2), (5, .osl 0 0), (6, vi x14), (7, vi (x5 + (1 : Int)))], [.row (.int .i64) x13 0]⟩, wk_ghosts hk (l := [.keep [0, 1, 5, 6, 7], .keep [0, 1, 5, 6, 7], .reset 0, .keep [0, 1, 5, 6, 7]]) (by kernel_rfl), x14, x5 + (1 : Int), x13, h, rfl⟩
      · replace h := h.2 (of_decide_eq_false hb)
        refine awp_skip (then_n (spine_c ?_))
        refine awp_spine ?_
        obtain ⟨o8, h⟩ := h
        refine awp_rc tab [0, 1, 5, 6, 7] [] [] [3] [1 * 1 ≤ 16777216, (x6.length + [IntKind.wrap .i64 ((BitVec.ofInt 64 x11 &&& BitVec.ofInt 64 (65535 : Int)).toNat : Int)].length) * 8 ≤ 140737488355328 ∧ x6.length + [IntKind.wrap .i64 ((BitVec.ofInt 64 x11 &&& BitVec.ofInt 64 (65535 : Int)).toNat : Int)].length ≤ 9223372036854775807] ⟨53, [(0, .d (.sl (.int .i64)) a1), (1, .d (.sl (.int .i64)) a2), (5, .osl 0 1), (6, vi x11), (7, vi x5)], [.row (.int .i64) (x6 ++ [IntKind.wrap .i64 ((BitVec.ofInt 64 x11 &&& BitVec.ofInt 64 (65535 : Int)).toNat : Int)]) 1]⟩ (by kernel_rfl) (AllP.of (by decide) (AllP.of (o8) trivial)) ?_
        refine then_n (spine_c ?_)
        refine awp_abs (fun (x15 : (List Int)) => ⟨53, [(0, .d (.sl (.int .i64)) a1), (1, .d (.sl (.int .i64)) a2), (5, .osl 0 1), (6, vi x11), (7, vi x5)], [.row (.int .i64) x15 1]⟩) (x6 ++ [IntKind.wrap .i64 ((BitVec.ofInt 64 x11 &&& BitVec.ofInt 64 (65535 : Int)).toNat : Int)]) ?_
        intro x15 hx15
        replace h := h x15 hx15
        obtain ⟨o9, h⟩ := h
        refine awp_rc tab [0, 1, 5, 6, 7] [] [] [] [0 ≤ (16 : Int)] ⟨53, [(0, .d (.sl (.int .i64)) a1), (1, .d (.sl (.int .i64)) a2), (5, .osl 0 1), (6, vi (Int.fdiv x11 (2 ^ (min (Int.toNat (16 : Int)) 64)))), (7, vi x5)], [.row (.int .i64) x15 1]⟩ (by kernel_rfl) (AllP.of (o9) trivial) ?_
        refine then_n (spine_e (then_n (spine_e (then_n (spine_e (blk_n (then_n (spine_c ?_))))))))
        refine awp_abs (fun (x16 : Int) => ⟨53, [(0, .d (.sl (.int .i64)) a1), (1, .d (.sl (.int .i64)) a2), (5, .osl 0 1), (6, vi x16), (7, vi x5)], [.row (.int .i64) x15 1]⟩) (Int.fdiv x11 (2 ^ (min (Int.toNat (16 : Int)) 64))) ?_
        intro x16 hx16
        replace h := h x16 hx16
        obtain ⟨o10, h⟩ := h
        refine awp_rc tab [0, 1, 5, 6, 7] [] [] [] [-9223372036854775808 ≤ x5 + (1 : Int) ∧ x5 + (1 : Int) ≤ 9223372036854775807] ⟨53, [(0, .d (.sl (.int .i64)) a1), (1, .d (.sl (.int .i64)) a2), (5, .osl 0 1), (6, vi x16), (7, vi (x5 + (1 : Int)))], [.row (.int .i64) x15 1]⟩ (by kernel_rfl) (AllP.of (o10) trivial) ?_
        refine then_n (spine_e (then_n (spine_e (then_n (?_)))))
        obtain ⟨m, hm, h⟩ := h
        exact ⟨m, hm, ⟨53, [(0, .d (.sl (.int .i64)) a1), (1, .d (.sl (.int .i64)) a2), (5, .osl 0 0), (6, vi x16), (7, vi (x5 + (1 : Int)))], [.row (.int .i64) x15 0]⟩, wk_ghosts hk (l := [.keep [0, 1, 5, 6, 7], .keep [0, 1, 5, 6, 7], .reset 0, .keep [0, 1, 5, 6, 7]]) (by kernel_rfl), x16, x5 + (1 : Int), x15, h, rfl⟩
  · replace h := h.2 (hb)
    refine awp_exit (then_x (then_x (blk_h (then_n (spine_c ?_)))))
    refine awp_spine ?_
    refine awp_gh hk [.freeze 0, .keep [0, 1, 5, 6, 7, 21]] ⟨53, [(0, .d (.sl (.int .i64)) a1), (1, .d (.sl (.int .i64)) a2), (5, .d (.sl (.int .i64)) x6), (6, vi x4), (7, vi x5), (21, vb (((decide (x5 < (a1.length : Int))) || (decide (x5 < (a2.length : Int)))) || (decide (x4 > (0 : Int)))))], [.dead]⟩ (by kernel_rfl) ?_
    obtain ⟨o11, h⟩ := h
    refine awp_rc tab [4] [] [(1, .dat (.d (.sl (.int .i64)) (ref09_trim.fn x6)))] [] [OkC prog 66 [.d (.sl (.int .i64)) x6] (.d (.sl (.int .i64)) (ref09_trim.fn x6))] ⟨53, [(4, .d (.sl (.int .i64)) (ref09_trim.fn x6))], [.dead]⟩ (by kernel_rfl) (AllP.of (ok_ref09_trim x6 (o11)) trivial) ?_
    refine then_n (spine_c ?_)
    refine awp_abs (fun (x17 : (List Int)) => ⟨53, [(4, .d (.sl (.int .i64)) x17)], [.dead]⟩) (ref09_trim.fn x6) ?_
    intro x17 hx17
    replace h := h x17 hx17
    refine awp_ret (then_r (then_r (then_r (then_r (then_r (?_))))))
    exact ret_r (m := 0) (r := .d (.sl (.int .i64)) x17) (objs := []) hk [.keep [4]] ⟨53, [(4, .d (.sl (.int .i64)) x17)], [.dead]⟩ (by kernel_rfl) (by kernel_rfl) (Nat.le_refl 0) ⟨x17, rfl, rfl, h⟩
theorem ok_ref09_plus (a1 : (List Int)) (a2 : (List Int)) (h : ref09_plus.pre a1 a2) : OkC prog 72 [.d (.sl (.int .i64)) a1, .d (.sl (.int .i64)) a2] (.d (.sl (.int .i64)) (ref09_plus.fn a1 a2)) :=
  OkC.of call_ref09_plus ((walk_ref09_plus a1 a2 _ (ref09_plus.spec a1 a2 h)).mono fun r o ⟨x, hr, ho, hx⟩ => ⟨by rw [hr, hx], ho⟩) rfl rfl (fun _ => rfl)

noncomputable abbrev Bref09_Int_Add : Code := bodyOf Try.f48
theorem call_ref09_Int_Add : CallOk prog 48 := ⟨_, Try.func48, by kernel_rfl, by kernel_rfl⟩
theorem walk_ref09_Int_Add (a1 : ref09_Int) (a2 : ref09_Int) (Q : ref09_Int → Prop) (h : ref09_Int_Add.wp a1 a2 Q) : VCalls prog 48 [.agg [vb a1.1, .d (.sl (.int .i64)) a1.2], .agg [vb a2.1, .d (.sl (.int .i64)) a2.2]] [] (fun r o => ∃ x, r = .agg [vb x.1, .d (.sl (.int .i64)) x.2] ∧ o = [] ∧ Q x) := by
  refine vcalls_body tab Try.func48 (c := (spine (subC [0] Bref09_Int_Add) [(spine (subC [1, 0, 0] Bref09_Int_Add) [(.cond (.tmp 9) (spine (subC [1, 0, 1, 0, 0] Bref09_Int_Add) [.ret]) .skip), (spine (subC [1, 1, 0, 0] Bref09_Int_Add) [(.cond (.tmp 23) (spine (subC [1, 1, 0, 1, 0, 0] Bref09_Int_Add) [.ret]) .skip), (spine (subC [1, 1, 1, 0] Bref09_Int_Add) [.ret])])])])) (by kernel_rfl) (Nat.le_of_ble_eq_true (by kernel_rfl)) fun cx hd hi hk => ?_
  show AWp prog cx _ _ ⟨40, [(0, .agg [vb a1.1, .d (.sl (.int .i64)) a1.2]), (1, .agg [vb a2.1, .d (.sl (.int .i64)) a2.2])], []⟩
  replace hk : cx.E.len = 0 := hk
  unfold ref09_Int_Add.wp at h
  refine awp_spine ?_
  refine awp_rc tab [2, 3, 4] [] [] [0, 1] [] ⟨40, [(2, .er [vb a1.1, .d (.sl (.int .i64)) a1.2]), (3, .er [vb a2.1, .d (.sl (.int .i64)) a2.2]), (4, .ref 0 0 0)], [.box [vb false, .nils]]⟩ (by kernel_rfl) (trivial) ?_
  refine then_n (spine_c ?_)
  refine awp_spine ?_
  refine awp_rc tab [2, 3, 4, 9] [] [] [] [] ⟨40, [(2, .er [vb a1.1, .d (.sl (.int .i64)) a1.2]), (3, .er [vb a2.1, .d (.sl (.int .i64)) a2.2]), (4, .ref 0 0 0), (9, vb (a1.1 == a2.1))], [.box [vb false, .nils]]⟩ (by kernel_rfl) (trivial) ?_
  refine then_n (spine_c ?_)
  refine awp_cond (b := a1.1 == a2.1) (by kernel_rfl) (fun hb => ?_) (fun hb => ?_)
  · replace h := h.1 (eq_of_beq hb)
    refine awp_spine ?_
    obtain ⟨o1, h⟩ := h
    refine awp_dr tab mixed [4] [] [(6, .dat (.d (.sl (.int .i64)) (ref09_plus.fn a1.2 a2.2)))] [] ⟨[[], [0], [], [2], [], [4], [2, 3, 4, 5], [0, 1, 2, 3, 4, 5, 6], [0, 1, 2, 3, 4, 5, 6, 7]], [.er [vb a1.1, .d (.sl (.int .i64)) a1.2], vb a1.1, .er [.d (.sl (.int .i64)) a1.2], .d (.sl (.int .i64)) a1.2, .er [.d (.sl (.int .i64)) a2.2], .d (.sl (.int .i64)) a2.2, .d (.sl (.int .i64)) (ref09_plus.fn a1.2 a2.2), .agg [vb a1.1, .d (.sl (.int .i64)) (ref09_plus.fn a1.2 a2.2)], .tup []], [none, none, none, none, none, none, some (OkC prog 72 [.d (.sl (.int .i64)) a1.2, .d (.sl (.int .i64)) a2.2] (.d (.sl (.int .i64)) (ref09_plus.fn a1.2 a2.2))), none, none], [8], [([], [.box [vb false, .nils]]), ([8], [.box [vb a1.1, .d (.sl (.int .i64)) (ref09_plus.fn a1.2 a2.2)]])]⟩ ⟨40, [(4, .ref 0 0 0)], [.box [vb a1.1, .d (.sl (.int .i64)) (ref09_plus.fn a1.2 a2.2)]]⟩ (by kernel_rfl) (AllO.n (AllO.n (AllO.n (AllO.n (AllO.n (AllO.n (AllO.s (ok_ref09_plus a1.2 a2.2 (o1)) (AllO.n (AllO.n (AllO.e)))))))))) ?_
    refine then_n (spine_c ?_)
    refine awp_abs (fun (x1 : (List Int)) => ⟨40, [(4, .ref 0 0 0)], [.box [vb a1.1, .d (.sl (.int .i64)) x1]]⟩) (ref09_plus.fn a1.2 a2.2) ?_
    intro x1 hx1
    replace h := h x1 hx1
    refine awp_ret (then_r (then_r (then_r (?_))))
    exact ret_r (m := 0) (r := .agg [vb ((a1.1, x1).1), .d (.sl (.int .i64)) ((a1.1, x1).2)]) (objs := []) hk [.keep [4]] ⟨40, [(4, .ref 0 0 0)], [.box [vb a1.1, .d (.sl (.int .i64)) x1]]⟩ (by kernel_rfl) (by kernel_rfl) (Nat.le_refl 0) ⟨(a1.1, x1), rfl, rfl, h⟩
  · replace h := h.2 (ne_of_beq_false hb)
    refine awp_skip (then_n (spine_c ?_))
    refine awp_spine ?_
    obtain ⟨o2, h⟩ := h
    refine awp_rc tab [2, 3, 4, 23] [] [(4, .dat (vi (ref09_order.fn a1.2 a2.2)))] [] [OkC prog 73 [.d (.sl (.int .i64)) a1.2, .d (.sl (.int .i64)) a2.2] (vi (ref09_order.fn a1.2 a2.2))] ⟨40, [(2, .er [vb a1.1, .d (.sl (.int .i64)) a1.2]), (3, .er [vb a2.1, .d (.sl (.int .i64)) a2.2]), (4, .ref 0 0 0), (23, vb (decide ((ref09_order.fn a1.2 a2.2) ≥ (0 : Int))))], [.box [vb false, .nils]]⟩ (by kernel_rfl) (AllP.of (ok_ref09_order a1.2 a2.2 (o2)) trivial) ?_
    refine then_n (spine_c ?_)
    refine awp_abs (fun (x2 : Int) => ⟨40, [(2, .er [vb a1.1, .d (.sl (.int .i64)) a1.2]), (3, .er [vb a2.1, .d (.sl (.int .i64)) a2.2]), (4, .ref 0 0 0), (23, vb (decide (x2 ≥ (0 : Int))))], [.box [vb false, .nils]]⟩) (ref09_order.fn a1.2 a2.2) ?_
    intro x2 hx2
    replace h := h x2 hx2
    refine awp_cond (b := decide (x2 ≥ (0 : Int))) (by kernel_rfl) (fun hb => ?_) (fun hb => ?_)
    · replace h := h.1 (of_decide_eq_true hb)
      refine awp_spine ?_
      obtain ⟨o3, h⟩ := h
      refine awp_dr tab mixed [4] [] [(6, .dat (.d (.sl (.int .i64)) (ref09_minus.fn a1.2 a2.2)))] [] ⟨[[], [0], [], [2], [], [4], [2, 3, 4, 5], [0, 1, 2, 3, 4, 5, 6], [0, 1, 2, 3, 4, 5, 6, 7]], [.er [vb a1.1, .d (.sl (.int .i64)) a1.2], vb a1.1, .er [.d (.sl (.int .i64)) a1.2], .d (.sl (.int .i64)) a1.2, .er [.d (.sl (.int .i64)) a2.2], .d (.sl (.int .i64)) a2.2, .d (.sl (.int .i64)) (ref09_minus.fn a1.2 a2.2), .agg [vb a1.1, .d (.sl (.int .i64)) (ref09_minus.fn a1.2 a2.2)], .tup []], [none, none, none, none, none, none, some (OkC prog 74 [.d (.sl (.int .i64)) a1.2, .d (.sl (.int .i64)) a2.2] (.d (.sl (.int .i64)) (ref09_minus.fn a1.2 a2.2))), none, none], [8], [([], [.box [vb false, .nils]]), ([8], [.box [vb a1.1, .d (.sl (.int .i64)) (ref09_minus.fn a1.2 a2.2)]])]⟩ ⟨40, [(4, .ref 0 0 0)], [.box [vb a1.1, .d (.sl (.int .i64)) (ref09_minus.fn a1.2 a2.2)]]⟩ (by kernel_rfl) (AllO.n (AllO.n (AllO.n (AllO.n (AllO.n (AllO.n (AllO.s (ok_ref09_minus a1.2 a2.2 (o3)) (AllO.n (AllO.n (AllO.e)))))))))) ?_
      refine then_n (spine_c ?_)
      refine awp_abs (fun (x3 : (List Int)) => ⟨40, [(4, .ref 0 0 0)], [.box [vb a1.1, .d (.sl (.int .i64)) x3]]⟩) (ref09_minus.fn a1.2 a2.2) ?_
      intro x3 hx3
      replace h := h x3 hx3
      refine awp_ret (then_r (then_r (then_r (then_r (?_)))))
      exact ret_r (m := 0) (r := .agg [vb ((a1.1, x3).1), .d (.sl (.int .i64)) ((a1.1, x3).2)]) (objs := []) hk [.keep [4]] ⟨40, [(4, .ref 0 0 0)], [.box [vb a1.1, .d (.sl (.int .i64)) x3]]⟩ (by kernel_rfl) (by kernel_rfl) (Nat.le_refl 0) ⟨(a1.1, x3), rfl, rfl, h⟩
    · replace h := h.2 (of_decide_eq_false hb)
      refine awp_skip (then_n (spine_c ?_))
      refine awp_spine ?_
      obtain ⟨o4, h⟩ := h
      refine awp_dr tab mixed [4] [] [(6, .dat (.d (.sl (.int .i64)) (ref09_minus.fn a2.2 a1.2)))] [] ⟨[[], [0], [], [2], [], [4], [2, 3, 4, 5], [0, 1, 2, 3, 4, 5, 6], [0, 1, 2, 3, 4, 5, 6, 7]], [.er [vb a2.1, .d (.sl (.int .i64)) a2.2], vb a2.1, .er [.d (.sl (.int .i64)) a2.2], .d (.sl (.int .i64)) a2.2, .er [.d (.sl (.int .i64)) a1.2], .d (.sl (.int .i64)) a1.2, .d (.sl (.int .i64)) (ref09_minus.fn a2.2 a1.2), .agg [vb a2.1, .d (.sl (.int .i64)) (ref09_minus.fn a2.2 a1.2)], .tup []], [none, none, none, none, none, none, some (OkC prog 74 [.d (.sl (.int .i64)) a2.2, .d (.sl (.int .i64)) a1.2] (.d (.sl (.int .i64)) (ref09_minus.fn a2.2 a1.2))), none, none], [8], [([], [.box [vb false, .nils]]), ([8], [.box [vb a2.1, .d (.sl (.int .i64)) (ref09_minus.fn a2.2 a1.2)]])]⟩ ⟨40, [(4, .ref 0 0 0)], [.box [vb a2.1, .d (.sl (.int .i64)) (ref09_minus.fn a2.2 a1.2)]]⟩ (by kernel_rfl) (AllO.n (AllO.n (AllO.n (AllO.n (AllO.n (AllO.n (AllO.s (ok_ref09_minus a2.2 a1.2 (o4)) (AllO.n (AllO.n (AllO.e)))))))))) ?_
      refine then_n (spine_c ?_)
      refine awp_abs (fun (x4 : (List Int)) => ⟨40, [(4, .ref 0 0 0)], [.box [vb a2.1, .d (.sl (.int .i64)) x4]]⟩) (ref09_minus.fn a2.2 a1.2) ?_
      intro x4 hx4
      replace h := h x4 hx4
      refine awp_ret (then_r (then_r (then_r (then_r (?_)))))
      exact ret_r (m := 0) (r := .agg [vb ((a2.1, x4).1), .d (.sl (.int .i64)) ((a2.1, x4).2)]) (objs := []) hk [.keep [4]] ⟨40, [(4, .ref 0 0 0)], [.box [vb a2.1, .d (.sl (.int .i64)) x4]]⟩ (by kernel_rfl) (by kernel_rfl) (Nat.le_refl 0) ⟨(a2.1, x4), rfl, rfl, h⟩
theorem ok_ref09_Int_Add (a1 : ref09_Int) (a2 : ref09_Int) (h : ref09_Int_Add.pre a1 a2) : OkC prog 48 [.agg [vb a1.1, .d (.sl (.int .i64)) a1.2], .agg [vb a2.1, .d (.sl (.int .i64)) a2.2]] (.agg [vb ((ref09_Int_Add.fn a1 a2).1), .d (.sl (.int .i64)) ((ref09_Int_Add.fn a1 a2).2)]) :=
  OkC.of call_ref09_Int_Add ((walk_ref09_Int_Add a1 a2 _ (ref09_Int_Add.spec a1 a2 h)).mono fun r o ⟨x, hr, ho, hx⟩ => ⟨by rw [hr, hx], ho⟩) rfl rfl (fun _ => rfl)

noncomputable abbrev Bref09_Int_Mul : Code := bodyOf Try.f36
theorem call_ref09_Int_Mul : CallOk prog 36 := ⟨_, Try.func36, by kernel_rfl, by kernel_rfl⟩
theorem walk_ref09_Int_Mul (a1 : ref09_Int) (a2 : ref09_Int) (Q : ref09_Int → Prop) (h : ref09_Int_Mul.wp a1 a2 Q) : VCalls prog 36 [.agg [vb a1.1, .d (.sl (.int .i64)) a1.2], .agg [vb a2.1, .d (.sl (.int .i64)) a2.2]] [] (fun r o => ∃ x, r = .agg [vb x.1, .d (.sl (.int .i64)) x.2] ∧ o = [] ∧ Q x) := by
  refine vcalls_body tab Try.func36 (c := (spine (subC [0] Bref09_Int_Mul) [(spine (subC [1, 0] Bref09_Int_Mul) [(spine (subC [1, 1, 0, 0] Bref09_Int_Mul) [(.block 0 (.loop (spine (subC [1, 1, 0, 1, 0, 0, 0] Bref09_Int_Mul) [(spine (.cond (.tmp 23) .skip (.exit 0)) [(spine (.block 1 (spine (subC [1, 1, 0, 1, 0, 0, 1, 1, 0, 0, 0] Bref09_Int_Mul) [(spine (subC [1, 1, 0, 1, 0, 0, 1, 1, 0, 0, 1, 0] Bref09_Int_Mul) [(spine (subC [1, 1, 0, 1, 0, 0, 1, 1, 0, 0, 1, 1, 0, 0] Bref09_Int_Mul) [(.block 2 (.loop (spine (subC [1, 1, 0, 1, 0, 0, 1, 1, 0, 0, 1, 1, 0, 1, 0, 0, 0] Bref09_Int_Mul) [(spine (.cond (.tmp 31) .skip (.exit 2)) [(spine (.block 3 (spine (subC [1, 1, 0, 1, 0, 0, 1, 1, 0, 0, 1, 1, 0, 1, 0, 0, 1, 1, 0, 0, 0] Bref09_Int_Mul) [(spine (subC [1, 1, 0, 1, 0, 0, 1, 1, 0, 0, 1, 1, 0, 1, 0, 0, 1, 1, 0, 0, 1, 0] Bref09_Int_Mul) [(spine (subC [1, 1, 0, 1, 0, 0, 1, 1, 0, 0, 1, 1, 0, 1, 0, 0, 1, 1, 0, 0, 1, 1, 0] Bref09_Int_Mul) [(subC [1, 1, 0, 1, 0, 0, 1, 1, 0, 0, 1, 1, 0, 1, 0, 0, 1, 1, 0, 0, 1, 1, 1] Bref09_Int_Mul)])])])) [(subC [1, 1, 0, 1, 0, 0, 1, 1, 0, 0, 1, 1, 0, 1, 0, 0, 1, 1, 1] Bref09_Int_Mul)])])]))), (subC [1, 1, 0, 1, 0, 0, 1, 1, 0, 0, 1, 1, 1] Bref09_Int_Mul)])])])) [(subC [1, 1, 0, 1, 0, 0, 1, 1, 1] Bref09_Int_Mul)])])]))), (spine (subC [1, 1, 1, 0] Bref09_Int_Mul) [.ret])])])])) (by kernel_rfl) (Nat.le_of_ble_eq_true (by kernel_rfl)) fun cx hd hi hk => ?_
  show AWp prog cx _ _ ⟨77, [(0, .agg [vb a1.1, .d (.sl (.int .i64)) a1.2]), (1, .agg [vb a2.1, .d (.sl (.int .i64)) a2.2])], []⟩
  replace hk : cx.E.len = 0 := hk
  unfold ref09_Int_Mul.wp at h
  refine awp_spine ?_
  refine awp_rc tab [2, 3, 4] [] [] [0, 1] [] ⟨77, [(2, .er [vb a1.1, .d (.sl (.int .i64)) a1.2]), (3, .er [vb a2.1, .d (.sl (.int .i64)) a2.2]), (4, .ref 0 0 0)], [.box [vb false, .nils]]⟩ (by kernel_rfl) (trivial) ?_
  refine then_n (spine_c ?_)
  refine awp_spine ?_
  obtain ⟨o1, o2, h⟩ := h
  refine awp_rc tab [2, 3, 4, 5] [] [] [] [-9223372036854775808 ≤ (a1.2.length : Int) + (a2.2.length : Int) ∧ (a1.2.length : Int) + (a2.2.length : Int) ≤ 9223372036854775807, (0 : Int) ≤ ((a1.2.length : Int) + (a2.2.length : Int)) ∧ ((a1.2.length : Int) + (a2.2.length : Int)) ≤ ((a1.2.length : Int) + (a2.2.length : Int)) ∧ ((a1.2.length : Int) + (a2.2.length : Int)) * 8 ≤ 140737488355328 ∧ ((a1.2.length : Int) + (a2.2.length : Int)) ≤ 9223372036854775807] ⟨77, [(2, .er [vb a1.1, .d (.sl (.int .i64)) a1.2]), (3, .er [vb a2.1, .d (.sl (.int .i64)) a2.2]), (4, .ref 0 0 0), (5, .osl 1 0)], [.box [vb false, .nils], .row (.int .i64) (List.replicate (Int.toNat ((a1.2.length : Int) + (a2.2.length : Int))) (0 : Int)) 0]⟩ (by kernel_rfl) (AllP.of (o1) (AllP.of (o2) trivial)) ?_
  refine then_n (spine_c ?_)
  refine awp_abs (fun (x1 : (List Int)) => ⟨77, [(2, .er [vb a1.1, .d (.sl (.int .i64)) a1.2]), (3, .er [vb a2.1, .d (.sl (.int .i64)) a2.2]), (4, .ref 0 0 0), (5, .osl 1 0)], [.box [vb false, .nils], .row (.int .i64) x1 0]⟩) (List.replicate (Int.toNat ((a1.2.length : Int) + (a2.2.length : Int))) (0 : Int)) ?_
  intro x1 hx1
  replace h := h x1 hx1
  refine awp_len 2 [1] (T := (.int .i64)) (l := a1.2) (by kernel_rfl) fun hl => ?_
  replace h := h hl
  refine awp_len 3 [1] (T := (.int .i64)) (l := a2.2) (by kernel_rfl) fun hl => ?_
  replace h := h hl
  refine awp_spine ?_
  refine awp_rc tab [2, 3, 4, 5, 20, 21, 22] [] [] [] [] ⟨77, [(2, .er [vb a1.1, .d (.sl (.int .i64)) a1.2]), (3, .er [vb a2.1, .d (.sl (.int .i64)) a2.2]), (4, .ref 0 0 0), (5, .osl 1 0), (20, .d (.sl (.int .i64)) a1.2), (21, vi (a1.2.length : Int)), (22, vi (0 : Int))], [.box [vb false, .nils], .row (.int .i64) x1 0]⟩ (by kernel_rfl) (trivial) ?_
  refine then_n (spine_c ?_)
  refine awp_len 2 [1] (T := (.int .i64)) (l := a1.2) (by kernel_rfl) fun hl => ?_
  replace h := h hl
  refine awp_block ?_
  obtain ⟨I8, ⟨n8a, hz8⟩, hI8⟩ := h
  refine awp_loopN (fun n s => ∃ (x4 : Int) (x5 : (List Int)), I8 n x4 x5 ∧ s = ⟨77, [(2, .er [vb a1.1, .d (.sl (.int .i64)) a1.2]), (3, .er [vb a2.1, .d (.sl (.int .i64)) a2.2]), (4, .ref 0 0 0), (5, .osl 1 0), (20, .d (.sl (.int .i64)) a1.2), (21, vi (a1.2.length : Int)), (22, vi x4)], [.box [vb false, .nils], .row (.int .i64) x5 0]⟩) (n := n8a) (s0 := ⟨77, [(2, .er [vb a1.1, .d (.sl (.int .i64)) a1.2]), (3, .er [vb a2.1, .d (.sl (.int .i64)) a2.2]), (4, .ref 0 0 0), (5, .osl 1 0), (20, .d (.sl (.int .i64)) a1.2), (21, vi (a1.2.length : Int)), (22, vi (0 : Int))], [.box [vb false, .nils], .row (.int .i64) x1 0]⟩) (wk_ghosts hk (l := [.keep [2, 3, 4, 5, 20, 21, 22], .keep [2, 3, 4, 5, 20, 21, 22], .keep [2, 3, 4, 5, 20, 21, 22], .keep [2, 3, 4, 5, 20, 21, 22]]) (by kernel_rfl)) ⟨0, x1, hz8, rfl⟩ ?_
  rintro n8 s ⟨x4, x5, hx8, rfl⟩
  have h := hI8 n8 x4 x5 hx8
  refine awp_spine ?_
  refine awp_rc tab [2, 3, 4, 5, 20, 21, 22, 23] [] [] [] [] ⟨77, [(2, .er [vb a1.1, .d (.sl (.int .i64)) a1.2]), (3, .er [vb a2.1, .d (.sl (.int .i64)) a2.2]), (4, .ref 0 0 0), (5, .osl 1 0), (20, .d (.sl (.int .i64)) a1.2), (21, vi (a1.2.length : Int)), (22, vi x4), (23, vb (decide (x4 < (a1.2.length : Int))))], [.box [vb false, .nils], .row (.int .i64) x5 0]⟩ (by kernel_rfl) (trivial) ?_
  refine then_n (spine_c ?_)
  refine awp_spine ?_
  refine awp_cond (b := decide (x4 < (a1.2.length : Int))) (by kernel_rfl) (fun hb => ?_) (fun hb => ?_)
  · replace h := h.1 (of_decide_eq_true hb)
    refine awp_skip (then_n (spine_c ?_))
    refine awp_spine ?_
    refine awp_block ?_
    refine awp_spine ?_
    obtain ⟨o3, h⟩ := h
    refine awp_rc tab [2, 3, 4, 5, 6, 7, 20, 21, 22] [] [] [] [(0 : Int) ≤ x4 ∧ x4 < (a1.2.length : Int)] ⟨77, [(2, .er [vb a1.1, .d (.sl (.int .i64)) a1.2]), (3, .er [vb a2.1, .d (.sl (.int .i64)) a2.2]), (4, .ref 0 0 0), (5, .osl 1 0), (6, vi x4), (7, vi (gI a1.2 x4)), (20, .d (.sl (.int .i64)) a1.2), (21, vi (a1.2.length : Int)), (22, vi x4)], [.box [vb false, .nils], .row (.int .i64) x5 0]⟩ (by kernel_rfl) (AllP.of (o3) trivial) ?_
    refine then_n (spine_c ?_)
    refine awp_spine ?_
    refine awp_rc tab [2, 3, 4, 5, 6, 7, 8, 20, 21, 22] [] [] [] [] ⟨77, [(2, .er [vb a1.1, .d (.sl (.int .i64)) a1.2]), (3, .er [vb a2.1, .d (.sl (.int .i64)) a2.2]), (4, .ref 0 0 0), (5, .osl 1 0), (6, vi x4), (7, vi (gI a1.2 x4)), (8, vi (0 : Int)), (20, .d (.sl (.int .i64)) a1.2), (21, vi (a1.2.length : Int)), (22, vi x4)], [.box [vb false, .nils], .row (.int .i64) x5 0]⟩ (by kernel_rfl) (trivial) ?_
    refine then_n (spine_c ?_)
    refine awp_spine ?_
    refine awp_rc tab [2, 3, 4, 5, 6, 7, 8, 20, 21, 22, 28, 29, 30] [] [] [] [] ⟨77, [(2, .er [vb a1.1, .d (.sl (.int .i64)) a1.2]), (3, .er [vb a2.1, .d (.sl (.int .i64)) a2.2]), (4, .ref 0 0 0), (5, .osl 1 0), (6, vi x4), (7, vi (gI a1.2 x4)), (8, vi (0 : Int)), (20, .d (.sl (.int .i64)) a1.2), (21, vi (a1.2.length : Int)), (22, vi x4), (28, .d (.sl (.int .i64)) a2.2), (29, vi (a2.2.length : Int)), (30, vi (0 : Int))], [.box [vb false, .nils], .row (.int .i64) x5 0]⟩ (by kernel_rfl) (trivial) ?_
    refine then_n (spine_c ?_)
    refine awp_len 3 [1] (T := (.int .i64)) (l := a2.2) (by kernel_rfl) fun hl => ?_
    replace h := h hl
    refine awp_block ?_
    obtain ⟨I18, ⟨n18a, hz18⟩, hI18⟩ := h
    refine awp_loopN (fun n s => ∃ (x12 : Int) (x13 : Int) (x14 : (List Int)), I18 n x12 x13 x14 ∧ s = ⟨77, [(2, .er [vb a1.1, .d (.sl (.int .i64)) a1.2]), (3, .er [vb a2.1, .d (.sl (.int .i64)) a2.2]), (4, .ref 0 0 0), (5, .osl 1 0), (6, vi x4), (7, vi (gI a1.2 x4)), (8, vi x12), (20, .d (.sl (.int .i64)) a1.2), (21, vi (a1.2.length : Int)), (22, vi x4), (28, .d (.sl (.int .i64)) a2.2), (29, vi (a2.2.length : Int)), (30, vi x13)], [.box [vb false, .nils], .row (.int .i64) x14 0]⟩) (n := n18a) (s0 := ⟨77, [(2, .er [vb a1.1, .d (.sl (.int .i64)) a1.2]), (3, .er [vb a2.1, .d (.sl (.int .i64)) a2.2]), (4, .ref 0 0 0), (5, .osl 1 0), (6, vi x4), (7, vi (gI a1.2 x4)), (8, vi (0 : Int)), (20, .d (.sl (.int .i64)) a1.2), (21, vi (a1.2.length : Int)), (22, vi x4), (28, .d (.sl (.int .i64)) a2.2), (29, vi (a2.2.length : Int)), (30, vi (0 : Int))], [.box [vb false, .nils], .row (.int .i64) x5 0]⟩) (wk_ghosts hk (l := [.keep [2, 3, 4, 5, 6, 7, 8, 20, 21, 22, 28, 29, 30], .keep [2, 3, 4, 5, 6, 7, 8, 20, 21, 22, 28, 29, 30], .keep [2, 3, 4, 5, 6, 7, 8, 20, 21, 22, 28, 29, 30], .keep [2, 3, 4, 5, 6, 7, 8, 20, 21, 22, 28, 29, 30]]) (by kernel_rfl)) ⟨0, 0, x5, hz18, rfl⟩ ?_
    rintro n18 s ⟨x12, x13, x14, hx18, rfl⟩
    have h := hI18 n18 x12 x13 x14 hx18
    refine awp_spine ?_
    refine awp_rc tab [2, 3, 4, 5, 6, 7, 8, 20, 21, 22, 28, 29, 30, 31] [] [] [] [] ⟨77, [(2, .er [vb a1.1, .d (.sl (.int .i64)) a1.2]), (3, .er [vb a2.1, .d (.sl (.int .i64)) a2.2]), (4, .ref 0 0 0), (5, .osl 1 0), (6, vi x4), (7, vi (gI a1.2 x4)), (8, vi x12), (20, .d (.sl (.int .i64)) a1.2), (21, vi (a1.2.length : Int)), (22, vi x4), (28, .d (.sl (.int .i64)) a2.2), (29, vi (a2.2.length : Int)), (30, vi x13), (31, vb (decide (x13 < (a2.2.length : Int))))], [.box [vb false, .nils], .row (.int .i64) x14 0]⟩ (by kernel_rfl) (trivial) ?_
    refine then_n (spine_c ?_)
    refine awp_spine ?_
    refine awp_cond (b := decide (x13 < (a2.2.length : Int))) (by kernel_rfl) (fun hb => ?_) (fun hb => ?_)
    · replace h := h.1 (of_decide_eq_true hb)
      refine awp_skip (then_n (spine_c ?_))
      refine awp_spine ?_
      refine awp_block ?_
      refine awp_spine ?_
      obtain ⟨o4, h⟩ := h
      refine awp_rc tab [2, 3, 4, 5, 6, 7, 8, 9, 10, 20, 21, 22, 28, 29, 30] [] [] [] [(0 : Int) ≤ x13 ∧ x13 < (a2.2.length : Int)] ⟨77, [(2, .er [vb a1.1, .d (.sl (.int .i64)) a1.2]), (3, .er [vb a2.1, .d (.sl (.int .i64)) a2.2]), (4, .ref 0 0 0), (5, .osl 1 0), (6, vi x4), (7, vi (gI a1.2 x4)), (8, vi x12), (9, vi x13), (10, vi (gI a2.2 x13)), (20, .d (.sl (.int .i64)) a1.2), (21, vi (a1.2.length : Int)), (22, vi x4), (28, .d (.sl (.int .i64)) a2.2), (29, vi (a2.2.length : Int)), (30, vi x13)], [.box [vb false, .nils], .row (.int .i64) x14 0]⟩ (by kernel_rfl) (AllP.of (o4) trivial) ?_
      refine then_n (spine_c ?_)
      refine awp_spine ?_
      obtain ⟨o5, o6, o7, o8, o9, o10, h⟩ := h
      refine awp_rc tab [2, 3, 4, 5, 6, 7, 8, 9, 20, 21, 22, 28, 29, 30] [] [] [] [-9223372036854775808 ≤ x4 + x13 ∧ x4 + x13 ≤ 9223372036854775807, (0 : Int) ≤ (x4 + x13) ∧ (x4 + x13) < (x14.length : Int), Int.toNat (x4 + x13) < x14.length, -9223372036854775808 ≤ (gI a1.2 x4) * (gI a2.2 x13) ∧ (gI a1.2 x4) * (gI a2.2 x13) ≤ 9223372036854775807, -9223372036854775808 ≤ (x14.getD (Int.toNat (x4 + x13)) (0 : Int)) + ((gI a1.2 x4) * (gI a2.2 x13)) ∧ (x14.getD (Int.toNat (x4 + x13)) (0 : Int)) + ((gI a1.2 x4) * (gI a2.2 x13)) ≤ 9223372036854775807, -9223372036854775808 ≤ x12 + ((x14.getD (Int.toNat (x4 + x13)) (0 : Int)) + ((gI a1.2 x4) * (gI a2.2 x13))) ∧ x12 + ((x14.getD (Int.toNat (x4 + x13)) (0 : Int)) + ((gI a1.2 x4) * (gI a2.2 x13))) ≤ 9223372036854775807] ⟨77, [(2, .er [vb a1.1, .d (.sl (.int .i64)) a1.2]), (3, .er [vb a2.1, .d (.sl (.int .i64)) a2.2]), (4, .ref 0 0 0), (5, .osl 1 0), (6, vi x4), (7, vi (gI a1.2 x4)), (8, vi (x12 + ((x14.getD (Int.toNat (x4 + x13)) (0 : Int)) + ((gI a1.2 x4) * (gI a2.2 x13))))), (9, vi x13), (20, .d (.sl (.int .i64)) a1.2), (21, vi (a1.2.length : Int)), (22, vi x4), (28, .d (.sl (.int .i64)) a2.2), (29, vi (a2.2.length : Int)), (30, vi x13)], [.box [vb false, .nils], .row (.int .i64) x14 0]⟩ (by kernel_rfl) (AllP.of (o5) (AllP.of (o6) (AllP.of (o7) (AllP.of (o8) (AllP.of (o9) (AllP.of (o10) trivial)))))) ?_
      refine then_n (spine_c ?_)
      refine awp_abs (fun (x19 : Int) => ⟨77, [(2, .er [vb a1.1, .d (.sl (.int .i64)) a1.2]), (3, .er [vb a2.1, .d (.sl (.int .i64)) a2.2]), (4, .ref 0 0 0), (5, .osl 1 0), (6, vi x4), (7, vi (gI a1.2 x4)), (8, vi x19), (9, vi x13), (20, .d (.sl (.int .i64)) a1.2), (21, vi (a1.2.length : Int)), (22, vi x4), (28, .d (.sl (.int .i64)) a2.2), (29, vi (a2.2.length : Int)), (30, vi x13)], [.box [vb false, .nils], .row (.int .i64) x14 0]⟩) (x12 + ((x14.getD (Int.toNat (x4 + x13)) (0 : Int)) + ((gI a1.2 x4) * (gI a2.2 x13)))) ?_
      intro x19 hx19
      replace h := h x19 hx19
      refine awp_spine ?_
      obtain ⟨o11, o12, o13, h⟩ := h
      refine awp_rc tab [2, 3, 4, 5, 6, 7, 8, 20, 21, 22, 28, 29, 30] [] [] [] [-9223372036854775808 ≤ x4 + x13 ∧ x4 + x13 ≤ 9223372036854775807, (0 : Int) ≤ (x4 + x13) ∧ (x4 + x13) < (x14.length : Int), Int.toNat (x4 + x13) < x14.length] ⟨77, [(2, .er [vb a1.1, .d (.sl (.int .i64)) a1.2]), (3, .er [vb a2.1, .d (.sl (.int .i64)) a2.2]), (4, .ref 0 0 0), (5, .osl 1 0), (6, vi x4), (7, vi (gI a1.2 x4)), (8, vi x19), (20, .d (.sl (.int .i64)) a1.2), (21, vi (a1.2.length : Int)), (22, vi x4), (28, .d (.sl (.int .i64)) a2.2), (29, vi (a2.2.length : Int)), (30, vi x13)], [.box [vb false, .nils], .row (.int .i64) (x14.set (Int.toNat (x4 + x13)) (IntKind.wrap .i64 ((BitVec.ofInt 64 x19 &&& BitVec.ofInt 64 (65535 : Int)).toNat : Int))) 0]⟩ (by kernel_rfl) (AllP.of (o11) (AllP.of (o12) (AllP.of (o13) trivial))) ?_
      refine then_n (spine_c ?_)
      refine awp_abs (fun (x20 : (List Int)) => ⟨77, [(2, .er [vb a1.1, .d (.sl (.int .i64)) a1.2]), (3, .er [vb a2.1, .d (.sl (.int .i64)) a2.2]), (4, .ref 0 0 0), (5, .osl 1 0), (6, vi x4), (7, vi (gI a1.2 x4)), (8, vi x19), (20, .d (.sl (.int .i64)) a1.2), (21, vi (a1.2.length : Int)), (22, vi x4), (28, .d (.sl (.int .i64)) a2.2), (29, vi (a2.2.length : Int)), (30, vi x13)], [.box [vb false, .nils], .row (.int .i64) x20 0]⟩) (x14.set (Int.toNat (x4 + x13)) (IntKind.wrap .i64 ((BitVec.ofInt 64 x19 &&& BitVec.ofInt 64 (65535 : Int)).toNat : Int))) ?_
      intro x20 hx20
      replace h := h x20 hx20
      obtain ⟨o14, h⟩ := h
      refine awp_rc tab [2, 3, 4, 5, 6, 7, 8, 20, 21, 22, 28, 29, 30] [] [] [] [0 ≤ (16 : Int)] ⟨77, [(2, .er [vb a1.1, .d (.sl (.int .i64)) a1.2]), (3, .er [vb a2.1, .d (.sl (.int .i64)) a2.2]), (4, .ref 0 0 0), (5, .osl 1 0), (6, vi x4), (7, vi (gI a1.2 x4)), (8, vi (Int.fdiv x19 (2 ^ (min (Int.toNat (16 : Int)) 64)))), (20, .d (.sl (.int .i64)) a1.2), (21, vi (a1.2.length : Int)), (22, vi x4), (28, .d (.sl (.int .i64)) a2.2), (29, vi (a2.2.length : Int)), (30, vi x13)], [.box [vb false, .nils], .row (.int .i64) x20 0]⟩ (by kernel_rfl) (AllP.of (o14) trivial) ?_
      refine then_n (spine_e (then_n (spine_e (then_n (spine_e (blk_n (then_n (spine_c ?_))))))))
      refine awp_abs (fun (x21 : Int) => ⟨77, [(2, .er [vb a1.1, .d (.sl (.int .i64)) a1.2]), (3, .er [vb a2.1, .d (.sl (.int .i64)) a2.2]), (4, .ref 0 0 0), (5, .osl 1 0), (6, vi x4), (7, vi (gI a1.2 x4)), (8, vi x21), (20, .d (.sl (.int .i64)) a1.2), (21, vi (a1.2.length : Int)), (22, vi x4), (28, .d (.sl (.int .i64)) a2.2), (29, vi (a2.2.length : Int)), (30, vi x13)], [.box [vb false, .nils], .row (.int .i64) x20 0]⟩) (Int.fdiv x19 (2 ^ (min (Int.toNat (16 : Int)) 64))) ?_
      intro x21 hx21
      replace h := h x21 hx21
      obtain ⟨o15, h⟩ := h
      refine awp_rc tab [2, 3, 4, 5, 6, 7, 8, 20, 21, 22, 28, 29, 30] [] [] [] [-9223372036854775808 ≤ x13 + (1 : Int) ∧ x13 + (1 : Int) ≤ 9223372036854775807] ⟨77, [(2, .er [vb a1.1, .d (.sl (.int .i64)) a1.2]), (3, .er [vb a2.1, .d (.sl (.int .i64)) a2.2]), (4, .ref 0 0 0), (5, .osl 1 0), (6, vi x4), (7, vi (gI a1.2 x4)), (8, vi x21), (20, .d (.sl (.int .i64)) a1.2), (21, vi (a1.2.length : Int)), (22, vi x4), (28, .d (.sl (.int .i64)) a2.2), (29, vi (a2.2.length : Int)), (30, vi (x13 + (1 : Int)))], [.box [vb false, .nils], .row (.int .i64) x20 0]⟩ (by kernel_rfl) (AllP.of (o15) trivial) ?_
      refine then_n (spine_e (then_n (spine_e (then_n (spine_e (then_n (?_)))))))
      obtain ⟨m, hm, h⟩ := h
      exact ⟨m, hm, ⟨77, [(2, .er [vb a1.1, .d (.sl (.int .i64)) a1.2]), (3, .er [vb a2.1, .d (.sl (.int .i64)) a2.2]), (4, .ref 0 0 0), (5, .osl 1 0), (6, vi x4), (7, vi (gI a1.2 x4)), (8, vi x21), (20, .d (.sl (.int .i64)) a1.2), (21, vi (a1.2.length : Int)), (22, vi x4), (28, .d (.sl (.int .i64)) a2.2), (29, vi (a2.2.length : Int)), (30, vi (x13 + (1 : Int)))], [.box [vb false, .nils], .row (.int .i64) x20 0]⟩, wk_ghosts hk (l := [.keep [2, 3, 4, 5, 6, 7, 8, 20, 21, 22, 28, 29, 30], .keep [2, 3, 4, 5, 6, 7, 8, 20, 21, 22, 28, 29, 30], .keep [2, 3, 4, 5, 6, 7, 8, 20, 21, 22, 28, 29, 30]]) (by kernel_rfl), x21, x13 + (1 : Int), x20, h, rfl⟩
    · replace h := h.2 (of_decide_eq_false hb)
      refine awp_exit (then_x (then_x (then_x (blk_h (then_n (spine_c ?_))))))
      obtain ⟨o16, o17, o18, o19, o20, o21, h⟩ := h
      refine awp_rc tab [2, 3, 4, 5, 20, 21, 22] [] [] [] [-9223372036854775808 ≤ x4 + (a2.2.length : Int) ∧ x4 + (a2.2.length : Int) ≤ 9223372036854775807, (0 : Int) ≤ (x4 + (a2.2.length : Int)) ∧ (x4 + (a2.2.length : Int)) < (x14.length : Int), Int.toNat (x4 + (a2.2.length : Int)) < x14.length, -9223372036854775808 ≤ (x14.getD (Int.toNat (x4 + (a2.2.length : Int))) (0 : Int)) + x12 ∧ (x14.getD (Int.toNat (x4 + (a2.2.length : Int))) (0 : Int)) + x12 ≤ 9223372036854775807, (0 : Int) ≤ (x4 + (a2.2.length : Int)) ∧ (x4 + (a2.2.length : Int)) < (x14.length : Int), Int.toNat (x4 + (a2.2.length : Int)) < x14.length] ⟨77, [(2, .er [vb a1.1, .d (.sl (.int .i64)) a1.2]), (3, .er [vb a2.1, .d (.sl (.int .i64)) a2.2]), (4, .ref 0 0 0), (5, .osl 1 0), (20, .d (.sl (.int .i64)) a1.2), (21, vi (a1.2.length : Int)), (22, vi x4)], [.box [vb false, .nils], .row (.int .i64) (x14.set (Int.toNat (x4 + (a2.2.length : Int))) ((x14.getD (Int.toNat (x4 + (a2.2.length : Int))) (0 : Int)) + x12)) 0]⟩ (by kernel_rfl) (AllP.of (o16) (AllP.of (o17) (AllP.of (o18) (AllP.of (o19) (AllP.of (o20) (AllP.of (o21) trivial)))))) ?_
      refine then_n (spine_e (then_n (spine_e (then_n (spine_e (blk_n (then_n (spine_c ?_))))))))
      refine awp_abs (fun (x22 : (List Int)) => ⟨77, [(2, .er [vb a1.1, .d (.sl (.int .i64)) a1.2]), (3, .er [vb a2.1, .d (.sl (.int .i64)) a2.2]), (4, .ref 0 0 0), (5, .osl 1 0), (20, .d (.sl (.int .i64)) a1.2), (21, vi (a1.2.length : Int)), (22, vi x4)], [.box [vb false, .nils], .row (.int .i64) x22 0]⟩) (x14.set (Int.toNat (x4 + (a2.2.length : Int))) ((x14.getD (Int.toNat (x4 + (a2.2.length : Int))) (0 : Int)) + x12)) ?_
      intro x22 hx22
      replace h := h x22 hx22
      refine awp_len 3 [1] (T := (.int .i64)) (l := a2.2) (by kernel_rfl) fun hl => ?_
      replace h := h hl
      obtain ⟨o22, h⟩ := h
      refine awp_rc tab [2, 3, 4, 5, 20, 21, 22] [] [] [] [-9223372036854775808 ≤ x4 + (1 : Int) ∧ x4 + (1 : Int) ≤ 9223372036854775807] ⟨77, [(2, .er [vb a1.1, .d (.sl (.int .i64)) a1.2]), (3, .er [vb a2.1, .d (.sl (.int .i64)) a2.2]), (4, .ref 0 0 0), (5, .osl 1 0), (20, .d (.sl (.int .i64)) a1.2), (21, vi (a1.2.length : Int)), (22, vi (x4 + (1 : Int)))], [.box [vb false, .nils], .row (.int .i64) x22 0]⟩ (by kernel_rfl) (AllP.of (o22) trivial) ?_
      refine then_n (spine_e (then_n (spine_e (then_n (spine_e (then_n (?_)))))))
      obtain ⟨m, hm, h⟩ := h
      exact ⟨m, hm, ⟨77, [(2, .er [vb a1.1, .d (.sl (.int .i64)) a1.2]), (3, .er [vb a2.1, .d (.sl (.int .i64)) a2.2]), (4, .ref 0 0 0), (5, .osl 1 0), (20, .d (.sl (.int .i64)) a1.2), (21, vi (a1.2.length : Int)), (22, vi (x4 + (1 : Int)))], [.box [vb false, .nils], .row (.int .i64) x22 0]⟩, wk_ghosts hk (l := [.keep [2, 3, 4, 5, 20, 21, 22], .keep [2, 3, 4, 5, 20, 21, 22], .keep [2, 3, 4, 5, 20, 21, 22]]) (by kernel_rfl), x4 + (1 : Int), x22, h, rfl⟩
  · replace h := h.2 (of_decide_eq_false hb)
    refine awp_exit (then_x (then_x (then_x (blk_h (then_n (spine_c ?_))))))
    refine awp_spine ?_
    refine awp_gh hk [.freeze 1, .keep [2, 3, 4, 5, 20, 21, 22, 23]] ⟨77, [(2, .er [vb a1.1, .d (.sl (.int .i64)) a1.2]), (3, .er [vb a2.1, .d (.sl (.int .i64)) a2.2]), (4, .ref 0 0 0), (5, .d (.sl (.int .i64)) x5), (20, .d (.sl (.int .i64)) a1.2), (21, vi (a1.2.length : Int)), (22, vi x4), (23, vb (decide (x4 < (a1.2.length : Int))))], [.box [vb false, .nils], .dead]⟩ (by kernel_rfl) ?_
    obtain ⟨o23, h⟩ := h
    refine awp_dr tab mixed [4] [] [(6, .dat (.d (.sl (.int .i64)) (ref09_trim.fn x5)))] [] ⟨[[], [0], [], [2], [0, 1, 2, 3], [], [5], [0, 1, 2, 3, 4, 5, 6], [0, 1, 2, 3, 4, 5, 6, 7]], [.er [vb a1.1, .d (.sl (.int .i64)) a1.2], vb a1.1, .er [vb a2.1, .d (.sl (.int .i64)) a2.2], vb a2.1, vb (a1.1 != a2.1), .d (.sl (.int .i64)) x5, .d (.sl (.int .i64)) (ref09_trim.fn x5), .agg [vb (a1.1 != a2.1), .d (.sl (.int .i64)) (ref09_trim.fn x5)], .tup []], [none, none, none, none, none, none, some (OkC prog 66 [.d (.sl (.int .i64)) x5] (.d (.sl (.int .i64)) (ref09_trim.fn x5))), none, none], [8], [([], [.box [vb false, .nils], .dead]), ([8], [.box [vb (a1.1 != a2.1), .d (.sl (.int .i64)) (ref09_trim.fn x5)], .dead])]⟩ ⟨77, [(4, .ref 0 0 0)], [.box [vb (a1.1 != a2.1), .d (.sl (.int .i64)) (ref09_trim.fn x5)], .dead]⟩ (by kernel_rfl) (AllO.n (AllO.n (AllO.n (AllO.n (AllO.n (AllO.n (AllO.s (ok_ref09_trim x5 (o23)) (AllO.n (AllO.n (AllO.e)))))))))) ?_
    refine then_n (spine_c ?_)
    refine awp_abs (fun (x23 : (List Int)) => ⟨77, [(4, .ref 0 0 0)], [.box [vb (a1.1 != a2.1), .d (.sl (.int .i64)) x23], .dead]⟩) (ref09_trim.fn x5) ?_
    intro x23 hx23
    replace h := h x23 hx23
    refine awp_ret (then_r (then_r (then_r (then_r (?_)))))
    exact ret_r (m := 0) (r := .agg [vb ((a1.1 != a2.1, x23).1), .d (.sl (.int .i64)) ((a1.1 != a2.1, x23).2)]) (objs := []) hk [.keep [4]] ⟨77, [(4, .ref 0 0 0)], [.box [vb (a1.1 != a2.1), .d (.sl (.int .i64)) x23], .dead]⟩ (by kernel_rfl) (by kernel_rfl) (Nat.le_refl 0) ⟨(a1.1 != a2.1, x23), rfl, rfl, h⟩
theorem ok_ref09_Int_Mul (a1 : ref09_Int) (a2 : ref09_Int) (h : ref09_Int_Mul.pre a1 a2) : OkC prog 36 [.agg [vb a1.1, .d (.sl (.int .i64)) a1.2], .agg [vb a2.1, .d (.sl (.int .i64)) a2.2]] (.agg [vb ((ref09_Int_Mul.fn a1 a2).1), .d (.sl (.int .i64)) ((ref09_Int_Mul.fn a1 a2).2)]) :=
  OkC.of call_ref09_Int_Mul ((walk_ref09_Int_Mul a1 a2 _ (ref09_Int_Mul.spec a1 a2 h)).mono fun r o ⟨x, hr, ho, hx⟩ => ⟨by rw [hr, hx], ho⟩) rfl rfl (fun _ => rfl)

noncomputable abbrev Bref09_Int_Sign : Code := bodyOf Try.f47
theorem call_ref09_Int_Sign : CallOk prog 47 := ⟨_, Try.func47, by kernel_rfl, by kernel_rfl⟩
theorem walk_ref09_Int_Sign (a1 : ref09_Int) (Q : Int → Prop) (h : ref09_Int_Sign.wp a1 Q) : VCalls prog 47 [.agg [vb a1.1, .d (.sl (.int .i64)) a1.2]] [] (fun r o => ∃ x, r = vi x ∧ o = [] ∧ Q x) := by
  refine vcalls_body tab Try.func47 (c := (spine (subC [0] Bref09_Int_Sign) [(spine (.block 0 (spine (subC [1, 0, 0, 0] Bref09_Int_Sign) [(.cond (.tmp 3) (spine (subC [1, 0, 0, 1, 0, 0] Bref09_Int_Sign) [.ret]) (spine (subC [1, 0, 0, 1, 1, 0] Bref09_Int_Sign) [(.cond (.tmp 8) (spine (subC [1, 0, 0, 1, 1, 1, 0, 0] Bref09_Int_Sign) [.ret]) .skip)]))])) [(spine (subC [1, 1, 0] Bref09_Int_Sign) [.ret])])])) (by kernel_rfl) (Nat.le_of_ble_eq_true (by kernel_rfl)) fun cx hd hi hk => ?_
  show AWp prog cx _ _ ⟨11, [(0, .agg [vb a1.1, .d (.sl (.int .i64)) a1.2])], []⟩
  replace hk : cx.E.len = 0 := hk
  unfold ref09_Int_Sign.wp at h
  refine awp_spine ?_
  refine awp_rc tab [1] [] [] [0] [] ⟨11, [(1, .er [vb a1.1, .d (.sl (.int .i64)) a1.2])], []⟩ (by kernel_rfl) (trivial) ?_
  refine then_n (spine_c ?_)
  refine awp_spine ?_
  refine awp_block ?_
  refine awp_spine ?_
  refine awp_rc tab [1, 3] [] [] [] [] ⟨11, [(1, .er [vb a1.1, .d (.sl (.int .i64)) a1.2]), (3, vb ((a1.2.length : Int) == (0 : Int)))], []⟩ (by kernel_rfl) (trivial) ?_
  refine then_n (spine_c ?_)
  refine awp_len 1 [1] (T := (.int .i64)) (l := a1.2) (by kernel_rfl) fun hl => ?_
  replace h := h hl
  refine awp_cond (b := (a1.2.length : Int) == (0 : Int)) (by kernel_rfl) (fun hb => ?_) (fun hb => ?_)
  · replace h := h.1 (eq_of_beq hb)
    refine awp_spine ?_
    refine awp_rc tab [2] [] [] [] [] ⟨11, [(2, vi (0 : Int))], []⟩ (by kernel_rfl) (trivial) ?_
    refine then_n (spine_c ?_)
    refine awp_ret (then_r (then_r (blk_r (then_r (then_r (?_))))))
    exact ret_r (m := 0) (r := vi (0 : Int)) (objs := []) hk [.keep [2]] ⟨11, [(2, vi (0 : Int))], []⟩ (by kernel_rfl) (by kernel_rfl) (Nat.le_refl 0) ⟨0, rfl, rfl, h⟩
  · replace h := h.2 (ne_of_beq_false hb)
    refine awp_spine ?_
    refine awp_rc tab [8] [] [] [] [] ⟨11, [(8, vb a1.1)], []⟩ (by kernel_rfl) (trivial) ?_
    refine then_n (spine_c ?_)
    refine awp_cond (b := a1.1) (by kernel_rfl) (fun hb => ?_) (fun hb => ?_)
    · replace h := h.1 (hb)
      refine awp_spine ?_
      refine awp_rc tab [2] [] [] [] [] ⟨11, [(2, vi (-1))], []⟩ (by kernel_rfl) (trivial) ?_
      refine then_n (spine_c ?_)
      refine awp_ret (then_r (then_r (then_r (blk_r (then_r (then_r (?_)))))))
      exact ret_r (m := 0) (r := vi (-1)) (objs := []) hk [.keep [2]] ⟨11, [(2, vi (-1))], []⟩ (by kernel_rfl) (by kernel_rfl) (Nat.le_refl 0) ⟨(-1), rfl, rfl, h⟩
    · replace h := h.2 (hb)
      refine awp_skip (then_n (spine_e (then_n (spine_e (blk_n (then_n (spine_c ?_)))))))
      refine awp_spine ?_
      refine awp_rc tab [2] [] [] [] [] ⟨11, [(2, vi (1 : Int))], []⟩ (by kernel_rfl) (trivial) ?_
      refine then_n (spine_c ?_)
      refine awp_ret (then_r (then_r (then_r (?_))))
      exact ret_r (m := 0) (r := vi (1 : Int)) (objs := []) hk [.keep [2]] ⟨11, [(2, vi (1 : Int))], []⟩ (by kernel_rfl) (by kernel_rfl) (Nat.le_refl 0) ⟨1, rfl, rfl, h⟩
theorem ok_ref09_Int_Sign (a1 : ref09_Int) : OkC prog 47 [.agg [vb a1.1, .d (.sl (.int .i64)) a1.2]] (vi (ref09_Int_Sign.fn a1)) :=
  OkC.of call_ref09_Int_Sign ((walk_ref09_Int_Sign a1 _ (ref09_Int_Sign.spec a1)).mono fun r o ⟨x, hr, ho, hx⟩ => ⟨by rw [hr, hx], ho⟩) rfl rfl (fun _ => rfl)

end Go.Proofs.Ytlncingakpelbaa
