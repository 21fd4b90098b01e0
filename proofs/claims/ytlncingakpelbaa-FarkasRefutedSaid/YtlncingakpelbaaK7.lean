/- Part of a proof that a law of the program holds for every input: printed by a program of this work. No conditions. -/
import Derived.Test.YtlncingakpelbaaK6
namespace Go.Proofs.Ytlncingakpelbaa
open Go
set_option linter.unusedVariables false
set_option maxHeartbeats 4000000

noncomputable abbrev Blaw09_awake : Code := bodyOf Try.f10
theorem call_law09_awake : CallOk prog 10 := ⟨_, Try.func10, by kernel_rfl, by kernel_rfl⟩
theorem walk_law09_awake (Q : Bool → Prop) (h : law09_awake.wp Q) : VCalls prog 10 [] [] (fun r o => ∃ x, r = vb x ∧ o = [] ∧ Q x) := by
  refine vcalls_body tab Try.func10 (c := (spine (subC [0] Blaw09_awake) [(spine (subC [1, 0] Blaw09_awake) [(spine (subC [1, 1, 0] Blaw09_awake) [(spine (subC [1, 1, 1, 0] Blaw09_awake) [(spine (subC [1, 1, 1, 1, 0] Blaw09_awake) [(spine (subC [1, 1, 1, 1, 1, 0] Blaw09_awake) [(spine (subC [1, 1, 1, 1, 1, 1, 0] Blaw09_awake) [.ret])])])])])])])) (by kernel_rfl) (Nat.le_of_ble_eq_true (by kernel_rfl)) fun cx hd hi hk => ?_
  show AWp prog cx _ _ ⟨77, [], []⟩
  replace hk : cx.E.len = 0 := hk
  unfold law09_awake.wp at h
  refine awp_spine ?_
  refine awp_rc tab [] [] [] [] [] ⟨77, [], []⟩ (by kernel_rfl) (trivial) ?_
  refine then_n (spine_c ?_)
  refine awp_spine ?_
  obtain ⟨o1, o2, o3, h⟩ := h
  refine awp_rc tab [1, 2] [] [(1, .dat (.agg [vi ((law09_ge.fn (-3) [1]).1), vi ((law09_ge.fn (-3) [1]).2.1), .d (.sl (.int .i64)) (((law09_ge.fn (-3) [1]).2.2).1), vi (((law09_ge.fn (-3) [1]).2.2).2)])), (3, .dat (.agg [vi ((law09_ge.fn (2 : Int) [(-1)]).1), vi ((law09_ge.fn (2 : Int) [(-1)]).2.1), .d (.sl (.int .i64)) (((law09_ge.fn (2 : Int) [(-1)]).2.2).1), vi (((law09_ge.fn (2 : Int) [(-1)]).2.2).2)])), (5, .dat (.tup [.d (.sl (.int .i64)) ((farkas_Prove.fn [law09_ge.fn (-3) [1], law09_ge.fn (2 : Int) [(-1)]] (1 : Int)).1), vi ((farkas_Prove.fn [law09_ge.fn (-3) [1], law09_ge.fn (2 : Int) [(-1)]] (1 : Int)).2)]))] [0, 2, 4] [1 * 1 ≤ 16777216, OkC prog 24 [vi (-3), .d (.sl (.int .i64)) [1]] (.agg [vi ((law09_ge.fn (-3) [1]).1), vi ((law09_ge.fn (-3) [1]).2.1), .d (.sl (.int .i64)) (((law09_ge.fn (-3) [1]).2.2).1), vi (((law09_ge.fn (-3) [1]).2.2).2)]), 1 * 1 ≤ 16777216, OkC prog 24 [vi (2 : Int), .d (.sl (.int .i64)) [(-1)]] (.agg [vi ((law09_ge.fn (2 : Int) [(-1)]).1), vi ((law09_ge.fn (2 : Int) [(-1)]).2.1), .d (.sl (.int .i64)) (((law09_ge.fn (2 : Int) [(-1)]).2.2).1), vi (((law09_ge.fn (2 : Int) [(-1)]).2.2).2)]), 2 * 4 ≤ 16777216, OkC prog 11 [.d (.sl t_api_Cond) [law09_ge.fn (-3) [1], law09_ge.fn (2 : Int) [(-1)]], vi (1 : Int)] (.tup [.d (.sl (.int .i64)) ((farkas_Prove.fn [law09_ge.fn (-3) [1], law09_ge.fn (2 : Int) [(-1)]] (1 : Int)).1), vi ((farkas_Prove.fn [law09_ge.fn (-3) [1], law09_ge.fn (2 : Int) [(-1)]] (1 : Int)).2)])] ⟨77, [(1, .d (.sl (.int .i64)) ((farkas_Prove.fn [law09_ge.fn (-3) [1], law09_ge.fn (2 : Int) [(-1)]] (1 : Int)).1)), (2, vi ((farkas_Prove.fn [law09_ge.fn (-3) [1], law09_ge.fn (2 : Int) [(-1)]] (1 : Int)).2))], []⟩ (by kernel_rfl) (AllP.of (by decide) (AllP.of (ok_law09_ge (-3) [1] (o1)) (AllP.of (by decide) (AllP.of (ok_law09_ge (2 : Int) [(-1)] (o2)) (AllP.of (by decide) (AllP.of (ok_farkas_Prove [law09_ge.fn (-3) [1], law09_ge.fn (2 : Int) [(-1)]] (1 : Int) (o3)) trivial)))))) ?_
  refine then_n (spine_c ?_)
  refine awp_abs (fun (x1 : (List Int) × Int) => ⟨77, [(1, .d (.sl (.int .i64)) x1.1), (2, vi x1.2)], []⟩) (farkas_Prove.fn [law09_ge.fn (-3) [1], law09_ge.fn (2 : Int) [(-1)]] (1 : Int)) ?_
  intro x1 hx1
  replace h := h x1 hx1
  refine awp_abs (fun (x2 : (List Int)) => ⟨77, [(1, .d (.sl (.int .i64)) x2), (2, vi x1.2)], []⟩) (x1.1) ?_
  intro x2 hx2
  replace h := h x2 hx2
  refine awp_abs (fun (x3 : Int) => ⟨77, [(1, .d (.sl (.int .i64)) x2), (2, vi x3)], []⟩) (x1.2) ?_
  intro x3 hx3
  replace h := h x3 hx3
  refine awp_spine ?_
  refine awp_rc tab [1, 2, 3] [] [] [0] [1 * 1 ≤ 16777216, 1 * 4 ≤ 16777216] ⟨77, [(1, .d (.sl (.int .i64)) x2), (2, vi x3), (3, .osl 0 0)], [.row t_api_Cond [(1, 0, ([2], (-1)))] 0]⟩ (by kernel_rfl) (AllP.of (by decide) (AllP.of (by decide) trivial)) ?_
  refine then_n (spine_c ?_)
  refine awp_spine ?_
  refine awp_gh hk [.freeze 0, .keep [1, 2, 3]] ⟨77, [(1, .d (.sl (.int .i64)) x2), (2, vi x3), (3, .d (.sl t_api_Cond) [(1, 0, ([2], (-1)))])], [.dead]⟩ (by kernel_rfl) ?_
  obtain ⟨o4, h⟩ := h
  refine awp_rc tab [1, 2, 3, 5] [] [(1, .dat (.tup [.d (.sl (.int .i64)) ((farkas_Prove.fn [(1, 0, ([2], (-1)))] (1 : Int)).1), vi ((farkas_Prove.fn [(1, 0, ([2], (-1)))] (1 : Int)).2)]))] [] [OkC prog 11 [.d (.sl t_api_Cond) [(1, 0, ([2], (-1)))], vi (1 : Int)] (.tup [.d (.sl (.int .i64)) ((farkas_Prove.fn [(1, 0, ([2], (-1)))] (1 : Int)).1), vi ((farkas_Prove.fn [(1, 0, ([2], (-1)))] (1 : Int)).2)])] ⟨77, [(1, .d (.sl (.int .i64)) x2), (2, vi x3), (3, .d (.sl t_api_Cond) [(1, 0, ([2], (-1)))]), (5, vi ((farkas_Prove.fn [(1, 0, ([2], (-1)))] (1 : Int)).2))], [.dead]⟩ (by kernel_rfl) (AllP.of (ok_farkas_Prove [(1, 0, ([2], (-1)))] (1 : Int) (o4)) trivial) ?_
  refine then_n (spine_c ?_)
  refine awp_abs (fun (x4 : (List Int) × Int) => ⟨77, [(1, .d (.sl (.int .i64)) x2), (2, vi x3), (3, .d (.sl t_api_Cond) [(1, 0, ([2], (-1)))]), (5, vi x4.2)], [.dead]⟩) (farkas_Prove.fn [(1, 0, ([2], (-1)))] (1 : Int)) ?_
  intro x4 hx4
  replace h := h x4 hx4
  refine awp_abs (fun (x5 : Int) => ⟨77, [(1, .d (.sl (.int .i64)) x2), (2, vi x3), (3, .d (.sl t_api_Cond) [(1, 0, ([2], (-1)))]), (5, vi x5)], [.dead]⟩) (x4.2) ?_
  intro x5 hx5
  replace h := h x5 hx5
  refine awp_spine ?_
  obtain ⟨o5, h⟩ := h
  refine awp_rc tab [1, 2, 5, 6, 7, 8] [] [(1, .dat (.tup [.d (.sl (.int .i64)) ((farkas_Inner.fn [(1, 0, ([2], (-1)))] (1 : Int)).1), vi ((farkas_Inner.fn [(1, 0, ([2], (-1)))] (1 : Int)).2.1), vi ((farkas_Inner.fn [(1, 0, ([2], (-1)))] (1 : Int)).2.2)]))] [] [OkC prog 13 [.d (.sl t_api_Cond) [(1, 0, ([2], (-1)))], vi (1 : Int)] (.tup [.d (.sl (.int .i64)) ((farkas_Inner.fn [(1, 0, ([2], (-1)))] (1 : Int)).1), vi ((farkas_Inner.fn [(1, 0, ([2], (-1)))] (1 : Int)).2.1), vi ((farkas_Inner.fn [(1, 0, ([2], (-1)))] (1 : Int)).2.2)])] ⟨77, [(1, .d (.sl (.int .i64)) x2), (2, vi x3), (5, vi x5), (6, .d (.sl (.int .i64)) ((farkas_Inner.fn [(1, 0, ([2], (-1)))] (1 : Int)).1)), (7, vi ((farkas_Inner.fn [(1, 0, ([2], (-1)))] (1 : Int)).2.1)), (8, vi ((farkas_Inner.fn [(1, 0, ([2], (-1)))] (1 : Int)).2.2))], [.dead]⟩ (by kernel_rfl) (AllP.of (ok_farkas_Inner [(1, 0, ([2], (-1)))] (1 : Int) (o5)) trivial) ?_
  refine then_n (spine_c ?_)
  refine awp_abs (fun (x6 : (List Int) × Int × Int) => ⟨77, [(1, .d (.sl (.int .i64)) x2), (2, vi x3), (5, vi x5), (6, .d (.sl (.int .i64)) x6.1), (7, vi x6.2.1), (8, vi x6.2.2)], [.dead]⟩) (farkas_Inner.fn [(1, 0, ([2], (-1)))] (1 : Int)) ?_
  intro x6 hx6
  replace h := h x6 hx6
  refine awp_abs (fun (x7 : (List Int)) => ⟨77, [(1, .d (.sl (.int .i64)) x2), (2, vi x3), (5, vi x5), (6, .d (.sl (.int .i64)) x7), (7, vi x6.2.1), (8, vi x6.2.2)], [.dead]⟩) (x6.1) ?_
  intro x7 hx7
  replace h := h x7 hx7
  refine awp_abs (fun (x8 : Int) => ⟨77, [(1, .d (.sl (.int .i64)) x2), (2, vi x3), (5, vi x5), (6, .d (.sl (.int .i64)) x7), (7, vi x8), (8, vi x6.2.2)], [.dead]⟩) (x6.2.1) ?_
  intro x8 hx8
  replace h := h x8 hx8
  refine awp_abs (fun (x9 : Int) => ⟨77, [(1, .d (.sl (.int .i64)) x2), (2, vi x3), (5, vi x5), (6, .d (.sl (.int .i64)) x7), (7, vi x8), (8, vi x9)], [.dead]⟩) (x6.2.2) ?_
  intro x9 hx9
  replace h := h x9 hx9
  refine awp_spine ?_
  obtain ⟨o6, o7, o8, h⟩ := h
  refine awp_rc tab [1, 2, 5, 6, 7, 8, 9, 10] [] [(1, .dat (.agg [vi ((law09_ge.fn (0 : Int) [1, (-1)]).1), vi ((law09_ge.fn (0 : Int) [1, (-1)]).2.1), .d (.sl (.int .i64)) (((law09_ge.fn (0 : Int) [1, (-1)]).2.2).1), vi (((law09_ge.fn (0 : Int) [1, (-1)]).2.2).2)])), (3, .dat (.agg [vi ((law09_ge.fn (-1) [(-1), 1]).1), vi ((law09_ge.fn (-1) [(-1), 1]).2.1), .d (.sl (.int .i64)) (((law09_ge.fn (-1) [(-1), 1]).2.2).1), vi (((law09_ge.fn (-1) [(-1), 1]).2.2).2)])), (5, .dat (.tup [.d (.sl (.int .i64)) ((farkas_Prove.fn [law09_ge.fn (0 : Int) [1, (-1)], law09_ge.fn (-1) [(-1), 1]] (2 : Int)).1), vi ((farkas_Prove.fn [law09_ge.fn (0 : Int) [1, (-1)], law09_ge.fn (-1) [(-1), 1]] (2 : Int)).2)]))] [0, 2, 4] [2 * 1 ≤ 16777216, OkC prog 24 [vi (0 : Int), .d (.sl (.int .i64)) [1, (-1)]] (.agg [vi ((law09_ge.fn (0 : Int) [1, (-1)]).1), vi ((law09_ge.fn (0 : Int) [1, (-1)]).2.1), .d (.sl (.int .i64)) (((law09_ge.fn (0 : Int) [1, (-1)]).2.2).1), vi (((law09_ge.fn (0 : Int) [1, (-1)]).2.2).2)]), 2 * 1 ≤ 16777216, OkC prog 24 [vi (-1), .d (.sl (.int .i64)) [(-1), 1]] (.agg [vi ((law09_ge.fn (-1) [(-1), 1]).1), vi ((law09_ge.fn (-1) [(-1), 1]).2.1), .d (.sl (.int .i64)) (((law09_ge.fn (-1) [(-1), 1]).2.2).1), vi (((law09_ge.fn (-1) [(-1), 1]).2.2).2)]), 2 * 4 ≤ 16777216, OkC prog 11 [.d (.sl t_api_Cond) [law09_ge.fn (0 : Int) [1, (-1)], law09_ge.fn (-1) [(-1), 1]], vi (2 : Int)] (.tup [.d (.sl (.int .i64)) ((farkas_Prove.fn [law09_ge.fn (0 : Int) [1, (-1)], law09_ge.fn (-1) [(-1), 1]] (2 : Int)).1), vi ((farkas_Prove.fn [law09_ge.fn (0 : Int) [1, (-1)], law09_ge.fn (-1) [(-1), 1]] (2 : Int)).2)])] ⟨77, [(1, .d (.sl (.int .i64)) x2), (2, vi x3), (5, vi x5), (6, .d (.sl (.int .i64)) x7), (7, vi x8), (8, vi x9), (9, .d (.sl (.int .i64)) ((farkas_Prove.fn [law09_ge.fn (0 : Int) [1, (-1)], law09_ge.fn (-1) [(-1), 1]] (2 : Int)).1)), (10, vi ((farkas_Prove.fn [law09_ge.fn (0 : Int) [1, (-1)], law09_ge.fn (-1) [(-1), 1]] (2 : Int)).2))], [.dead]⟩ (by kernel_rfl) (AllP.of (by decide) (AllP.of (ok_law09_ge (0 : Int) [1, (-1)] (o6)) (AllP.of (by decide) (AllP.of (ok_law09_ge (-1) [(-1), 1] (o7)) (AllP.of (by decide) (AllP.of (ok_farkas_Prove [law09_ge.fn (0 : Int) [1, (-1)], law09_ge.fn (-1) [(-1), 1]] (2 : Int) (o8)) trivial)))))) ?_
  refine then_n (spine_c ?_)
  refine awp_abs (fun (x10 : (List Int) × Int) => ⟨77, [(1, .d (.sl (.int .i64)) x2), (2, vi x3), (5, vi x5), (6, .d (.sl (.int .i64)) x7), (7, vi x8), (8, vi x9), (9, .d (.sl (.int .i64)) x10.1), (10, vi x10.2)], [.dead]⟩) (farkas_Prove.fn [law09_ge.fn (0 : Int) [1, (-1)], law09_ge.fn (-1) [(-1), 1]] (2 : Int)) ?_
  intro x10 hx10
  replace h := h x10 hx10
  refine awp_abs (fun (x11 : (List Int)) => ⟨77, [(1, .d (.sl (.int .i64)) x2), (2, vi x3), (5, vi x5), (6, .d (.sl (.int .i64)) x7), (7, vi x8), (8, vi x9), (9, .d (.sl (.int .i64)) x11), (10, vi x10.2)], [.dead]⟩) (x10.1) ?_
  intro x11 hx11
  replace h := h x11 hx11
  refine awp_abs (fun (x12 : Int) => ⟨77, [(1, .d (.sl (.int .i64)) x2), (2, vi x3), (5, vi x5), (6, .d (.sl (.int .i64)) x7), (7, vi x8), (8, vi x9), (9, .d (.sl (.int .i64)) x11), (10, vi x12)], [.dead]⟩) (x10.2) ?_
  intro x12 hx12
  replace h := h x12 hx12
  refine awp_spine ?_
  obtain ⟨o9, o10, o11, h⟩ := h
  refine awp_rc tab [0] [] [(5, .dat (vb (law09_list.fn x2 [1, 1]))), (18, .dat (vb (law09_list.fn x7 [1]))), (31, .dat (vb (law09_list.fn x11 [1, 1])))] [] [(x3 == (0 : Int)) = true → 2 * 1 ≤ 16777216, (x3 == (0 : Int)) = true → (x3 == (0 : Int)) = true ∧ ((x3 == (0 : Int)) = true ∧ (OkC prog 15 [.d (.sl (.int .i64)) x2, .d (.sl (.int .i64)) [1, 1]] (vb (law09_list.fn x2 [1, 1])))), (x3 == (0 : Int)) = true → (x3 == (0 : Int)) = true, ((x3 == (0 : Int)) && (law09_list.fn x2 [1, 1])) = true → ((x3 == (0 : Int)) && (law09_list.fn x2 [1, 1])) = true ∧ True, ((x3 == (0 : Int)) && (law09_list.fn x2 [1, 1])) = true → ((x3 == (0 : Int)) && (law09_list.fn x2 [1, 1])) = true, (((x3 == (0 : Int)) && (law09_list.fn x2 [1, 1])) && (x5 == (5 : Int))) = true → (((x3 == (0 : Int)) && (law09_list.fn x2 [1, 1])) && (x5 == (5 : Int))) = true ∧ True, (((x3 == (0 : Int)) && (law09_list.fn x2 [1, 1])) && (x5 == (5 : Int))) = true → (((x3 == (0 : Int)) && (law09_list.fn x2 [1, 1])) && (x5 == (5 : Int))) = true, ((((x3 == (0 : Int)) && (law09_list.fn x2 [1, 1])) && (x5 == (5 : Int))) && (x9 == (0 : Int))) = true → 1 * 1 ≤ 16777216, ((((x3 == (0 : Int)) && (law09_list.fn x2 [1, 1])) && (x5 == (5 : Int))) && (x9 == (0 : Int))) = true → ((((x3 == (0 : Int)) && (law09_list.fn x2 [1, 1])) && (x5 == (5 : Int))) && (x9 == (0 : Int))) = true ∧ (((((x3 == (0 : Int)) && (law09_list.fn x2 [1, 1])) && (x5 == (5 : Int))) && (x9 == (0 : Int))) = true ∧ (OkC prog 15 [.d (.sl (.int .i64)) x7, .d (.sl (.int .i64)) [1]] (vb (law09_list.fn x7 [1])))), ((((x3 == (0 : Int)) && (law09_list.fn x2 [1, 1])) && (x5 == (5 : Int))) && (x9 == (0 : Int))) = true → ((((x3 == (0 : Int)) && (law09_list.fn x2 [1, 1])) && (x5 == (5 : Int))) && (x9 == (0 : Int))) = true, (((((x3 == (0 : Int)) && (law09_list.fn x2 [1, 1])) && (x5 == (5 : Int))) && (x9 == (0 : Int))) && (law09_list.fn x7 [1])) = true → (((((x3 == (0 : Int)) && (law09_list.fn x2 [1, 1])) && (x5 == (5 : Int))) && (x9 == (0 : Int))) && (law09_list.fn x7 [1])) = true ∧ True, (((((x3 == (0 : Int)) && (law09_list.fn x2 [1, 1])) && (x5 == (5 : Int))) && (x9 == (0 : Int))) && (law09_list.fn x7 [1])) = true → (((((x3 == (0 : Int)) && (law09_list.fn x2 [1, 1])) && (x5 == (5 : Int))) && (x9 == (0 : Int))) && (law09_list.fn x7 [1])) = true, ((((((x3 == (0 : Int)) && (law09_list.fn x2 [1, 1])) && (x5 == (5 : Int))) && (x9 == (0 : Int))) && (law09_list.fn x7 [1])) && (x8 == (2 : Int))) = true → ((((((x3 == (0 : Int)) && (law09_list.fn x2 [1, 1])) && (x5 == (5 : Int))) && (x9 == (0 : Int))) && (law09_list.fn x7 [1])) && (x8 == (2 : Int))) = true ∧ True, ((((((x3 == (0 : Int)) && (law09_list.fn x2 [1, 1])) && (x5 == (5 : Int))) && (x9 == (0 : Int))) && (law09_list.fn x7 [1])) && (x8 == (2 : Int))) = true → ((((((x3 == (0 : Int)) && (law09_list.fn x2 [1, 1])) && (x5 == (5 : Int))) && (x9 == (0 : Int))) && (law09_list.fn x7 [1])) && (x8 == (2 : Int))) = true, (((((((x3 == (0 : Int)) && (law09_list.fn x2 [1, 1])) && (x5 == (5 : Int))) && (x9 == (0 : Int))) && (law09_list.fn x7 [1])) && (x8 == (2 : Int))) && (x12 == (0 : Int))) = true → 2 * 1 ≤ 16777216, (((((((x3 == (0 : Int)) && (law09_list.fn x2 [1, 1])) && (x5 == (5 : Int))) && (x9 == (0 : Int))) && (law09_list.fn x7 [1])) && (x8 == (2 : Int))) && (x12 == (0 : Int))) = true → (((((((x3 == (0 : Int)) && (law09_list.fn x2 [1, 1])) && (x5 == (5 : Int))) && (x9 == (0 : Int))) && (law09_list.fn x7 [1])) && (x8 == (2 : Int))) && (x12 == (0 : Int))) = true ∧ ((((((((x3 == (0 : Int)) && (law09_list.fn x2 [1, 1])) && (x5 == (5 : Int))) && (x9 == (0 : Int))) && (law09_list.fn x7 [1])) && (x8 == (2 : Int))) && (x12 == (0 : Int))) = true ∧ (OkC prog 15 [.d (.sl (.int .i64)) x11, .d (.sl (.int .i64)) [1, 1]] (vb (law09_list.fn x11 [1, 1])))), (((((((x3 == (0 : Int)) && (law09_list.fn x2 [1, 1])) && (x5 == (5 : Int))) && (x9 == (0 : Int))) && (law09_list.fn x7 [1])) && (x8 == (2 : Int))) && (x12 == (0 : Int))) = true → (((((((x3 == (0 : Int)) && (law09_list.fn x2 [1, 1])) && (x5 == (5 : Int))) && (x9 == (0 : Int))) && (law09_list.fn x7 [1])) && (x8 == (2 : Int))) && (x12 == (0 : Int))) = true] ⟨77, [(0, vb ((((((((x3 == (0 : Int)) && (law09_list.fn x2 [1, 1])) && (x5 == (5 : Int))) && (x9 == (0 : Int))) && (law09_list.fn x7 [1])) && (x8 == (2 : Int))) && (x12 == (0 : Int))) && (law09_list.fn x11 [1, 1])))], [.dead]⟩ (by kernel_rfl) (AllP.of (fun hg => by decide) (AllP.of (fun hg => ⟨hg, hg, ok_law09_list x2 [1, 1] ((o9 hg))⟩) (AllP.of (fun hc => hc) (AllP.of (fun hg => ⟨hg, trivial⟩) (AllP.of (fun hc => hc) (AllP.of (fun hg => ⟨hg, trivial⟩) (AllP.of (fun hc => hc) (AllP.of (fun hg => by decide) (AllP.of (fun hg => ⟨hg, hg, ok_law09_list x7 [1] ((o10 hg))⟩) (AllP.of (fun hc => hc) (AllP.of (fun hg => ⟨hg, trivial⟩) (AllP.of (fun hc => hc) (AllP.of (fun hg => ⟨hg, trivial⟩) (AllP.of (fun hc => hc) (AllP.of (fun hg => by decide) (AllP.of (fun hg => ⟨hg, hg, ok_law09_list x11 [1, 1] ((o11 hg))⟩) (AllP.of (fun hc => hc) trivial))))))))))))))))) ?_
  refine then_n (spine_c ?_)
  refine awp_ret (then_r (then_r (then_r (then_r (then_r (then_r (then_r (?_))))))))
  exact ret_r (m := 0) (r := vb ((((((((x3 == (0 : Int)) && (law09_list.fn x2 [1, 1])) && (x5 == (5 : Int))) && (x9 == (0 : Int))) && (law09_list.fn x7 [1])) && (x8 == (2 : Int))) && (x12 == (0 : Int))) && (law09_list.fn x11 [1, 1]))) (objs := []) hk [.keep [0]] ⟨77, [(0, vb ((((((((x3 == (0 : Int)) && (law09_list.fn x2 [1, 1])) && (x5 == (5 : Int))) && (x9 == (0 : Int))) && (law09_list.fn x7 [1])) && (x8 == (2 : Int))) && (x12 == (0 : Int))) && (law09_list.fn x11 [1, 1])))], [.dead]⟩ (by kernel_rfl) (by kernel_rfl) (Nat.le_refl 0) ⟨(((((((x3 == (0 : Int)) && (law09_list.fn x2 [1, 1])) && (x5 == (5 : Int))) && (x9 == (0 : Int))) && (law09_list.fn x7 [1])) && (x8 == (2 : Int))) && (x12 == (0 : Int))) && (law09_list.fn x11 [1, 1]), rfl, rfl, h⟩
theorem ok_law09_awake (h : law09_awake.pre ) : OkC prog 10 [] (vb law09_awake.fn) :=
  OkC.of call_law09_awake ((walk_law09_awake  _ (law09_awake.spec  h)).mono fun r o ⟨x, hr, ho, hx⟩ => ⟨by rw [hr, hx], ho⟩) rfl rfl (fun _ => rfl)

noncomputable abbrev Bref01_Coord : Code := bodyOf Try.f49
theorem call_ref01_Coord : CallOk prog 49 := ⟨_, Try.func49, by kernel_rfl, by kernel_rfl⟩
theorem walk_ref01_Coord (a1 : Int) (Q : Bool → Prop) (h : ref01_Coord.wp a1 Q) : VCalls prog 49 [vi a1] [] (fun r o => ∃ x, r = vb x ∧ o = [] ∧ Q x) := by
  refine vcalls_body tab Try.func49 (c := (spine (subC [0] Bref01_Coord) [(spine (subC [1, 0] Bref01_Coord) [.ret])])) (by kernel_rfl) (Nat.le_of_ble_eq_true (by kernel_rfl)) fun cx hd hi hk => ?_
  show AWp prog cx _ _ ⟨9, [(0, vi a1)], []⟩
  replace hk : cx.E.len = 0 := hk
  unfold ref01_Coord.wp at h
  refine awp_spine ?_
  refine awp_rc tab [0] [] [] [] [] ⟨9, [(0, vi a1)], []⟩ (by kernel_rfl) (trivial) ?_
  refine then_n (spine_c ?_)
  refine awp_spine ?_
  refine awp_rc tab [2] [] [] [] [(decide (a1 ≥ (-4294967296))) = true → (decide (a1 ≥ (-4294967296))) = true ∧ True, (decide (a1 ≥ (-4294967296))) = true → (decide (a1 ≥ (-4294967296))) = true] ⟨9, [(2, vb ((decide (a1 ≥ (-4294967296))) && (decide (a1 ≤ (4294967296 : Int)))))], []⟩ (by kernel_rfl) (AllP.of (fun hg => ⟨hg, trivial⟩) (AllP.of (fun hc => hc) trivial)) ?_
  refine then_n (spine_c ?_)
  refine awp_ret (then_r (then_r (?_)))
  exact ret_r (m := 0) (r := vb ((decide (a1 ≥ (-4294967296))) && (decide (a1 ≤ (4294967296 : Int))))) (objs := []) hk [.keep [2]] ⟨9, [(2, vb ((decide (a1 ≥ (-4294967296))) && (decide (a1 ≤ (4294967296 : Int)))))], []⟩ (by kernel_rfl) (by kernel_rfl) (Nat.le_refl 0) ⟨(decide (a1 ≥ (-4294967296))) && (decide (a1 ≤ (4294967296 : Int))), rfl, rfl, h⟩
theorem ok_ref01_Coord (a1 : Int) : OkC prog 49 [vi a1] (vb (ref01_Coord.fn a1)) :=
  OkC.of call_ref01_Coord ((walk_ref01_Coord a1 _ (ref01_Coord.spec a1)).mono fun r o ⟨x, hr, ho, hx⟩ => ⟨by rw [hr, hx], ho⟩) rfl rfl (fun _ => rfl)

noncomputable abbrev Bref02_Point : Code := bodyOf Try.f22
theorem call_ref02_Point : CallOk prog 22 := ⟨_, Try.func22, by kernel_rfl, by kernel_rfl⟩
theorem walk_ref02_Point (a1 : (List Int)) (Q : Bool → Prop) (h : ref02_Point.wp a1 Q) : VCalls prog 22 [.d (.sl (.int .i64)) a1] [] (fun r o => ∃ x, r = vb x ∧ o = [] ∧ Q x) := by
  refine vcalls_body tab Try.func22 (c := (spine (subC [0] Bref02_Point) [(spine (subC [1, 0, 0] Bref02_Point) [(.block 0 (.loop (spine (subC [1, 0, 1, 0, 0, 0] Bref02_Point) [(spine (.cond (.tmp 8) .skip (.exit 0)) [(spine (.block 1 (spine (subC [1, 0, 1, 0, 0, 1, 1, 0, 0, 0] Bref02_Point) [(spine (subC [1, 0, 1, 0, 0, 1, 1, 0, 0, 1, 0] Bref02_Point) [(.cond (.tmp 13) (spine (subC [1, 0, 1, 0, 0, 1, 1, 0, 0, 1, 1, 0, 0] Bref02_Point) [.ret]) .skip)])])) [(subC [1, 0, 1, 0, 0, 1, 1, 1] Bref02_Point)])])]))), (spine (subC [1, 1, 0] Bref02_Point) [.ret])])])) (by kernel_rfl) (Nat.le_of_ble_eq_true (by kernel_rfl)) fun cx hd hi hk => ?_
  show AWp prog cx _ _ ⟨15, [(0, .d (.sl (.int .i64)) a1)], []⟩
  replace hk : cx.E.len = 0 := hk
  unfold ref02_Point.wp at h
  refine awp_spine ?_
  refine awp_rc tab [0] [] [] [] [] ⟨15, [(0, .d (.sl (.int .i64)) a1)], []⟩ (by kernel_rfl) (trivial) ?_
  refine then_n (spine_c ?_)
  refine awp_spine ?_
  refine awp_rc tab [5, 6, 7] [] [] [] [] ⟨15, [(5, .d (.sl (.int .i64)) a1), (6, vi (a1.length : Int)), (7, vi (0 : Int))], []⟩ (by kernel_rfl) (trivial) ?_
  refine then_n (spine_c ?_)
  refine awp_len 5 [] (T := (.int .i64)) (l := a1) (by kernel_rfl) fun hl => ?_
  replace h := h hl
  refine awp_block ?_
  obtain ⟨I4, ⟨n4a, hz4⟩, hI4⟩ := h
  refine awp_loopN (fun n s => ∃ (x2 : Int), I4 n x2 ∧ s = ⟨15, [(5, .d (.sl (.int .i64)) a1), (6, vi (a1.length : Int)), (7, vi x2)], []⟩) (n := n4a) (s0 := ⟨15, [(5, .d (.sl (.int .i64)) a1), (6, vi (a1.length : Int)), (7, vi (0 : Int))], []⟩) (wk_ghosts hk (l := [.keep [5, 6, 7], .keep [5, 6, 7], .keep [5, 6, 7], .keep [5, 6, 7]]) (by kernel_rfl)) ⟨0, hz4, rfl⟩ ?_
  rintro n4 s ⟨x2, hx4, rfl⟩
  have h := hI4 n4 x2 hx4
  refine awp_spine ?_
  refine awp_rc tab [5, 6, 7, 8] [] [] [] [] ⟨15, [(5, .d (.sl (.int .i64)) a1), (6, vi (a1.length : Int)), (7, vi x2), (8, vb (decide (x2 < (a1.length : Int))))], []⟩ (by kernel_rfl) (trivial) ?_
  refine then_n (spine_c ?_)
  refine awp_spine ?_
  refine awp_cond (b := decide (x2 < (a1.length : Int))) (by kernel_rfl) (fun hb => ?_) (fun hb => ?_)
  · replace h := h.1 (of_decide_eq_true hb)
    refine awp_skip (then_n (spine_c ?_))
    refine awp_spine ?_
    refine awp_block ?_
    refine awp_spine ?_
    obtain ⟨o1, h⟩ := h
    refine awp_rc tab [4, 5, 6, 7] [] [] [] [(0 : Int) ≤ x2 ∧ x2 < (a1.length : Int)] ⟨15, [(4, vi (gI a1 x2)), (5, .d (.sl (.int .i64)) a1), (6, vi (a1.length : Int)), (7, vi x2)], []⟩ (by kernel_rfl) (AllP.of (o1) trivial) ?_
    refine then_n (spine_c ?_)
    refine awp_spine ?_
    refine awp_rc tab [5, 6, 7, 13] [] [(1, .dat (vb (ref01_Coord.fn (gI a1 x2))))] [] [OkC prog 49 [vi (gI a1 x2)] (vb (ref01_Coord.fn (gI a1 x2)))] ⟨15, [(5, .d (.sl (.int .i64)) a1), (6, vi (a1.length : Int)), (7, vi x2), (13, vb (!(ref01_Coord.fn (gI a1 x2))))], []⟩ (by kernel_rfl) (AllP.of (ok_ref01_Coord (gI a1 x2)) trivial) ?_
    refine then_n (spine_c ?_)
    refine awp_cond (b := !(ref01_Coord.fn (gI a1 x2))) (by kernel_rfl) (fun hb => ?_) (fun hb => ?_)
    · replace h := h.1 ((nt hb))
      refine awp_spine ?_
      refine awp_rc tab [2] [] [] [] [] ⟨15, [(2, vb false)], []⟩ (by kernel_rfl) (trivial) ?_
      refine then_n (spine_c ?_)
      refine awp_ret (then_r (then_r (then_r (blk_r (then_r (then_r (then_r (then_r (blk_r (then_r (then_r (?_))))))))))))
      exact ret_r (m := 0) (r := vb false) (objs := []) hk [.keep [2]] ⟨15, [(2, vb false)], []⟩ (by kernel_rfl) (by kernel_rfl) (Nat.le_refl 0) ⟨false, rfl, rfl, h⟩
    · replace h := h.2 ((nf hb))
      refine awp_skip (then_n (spine_e (then_n (spine_e (blk_n (then_n (spine_c ?_)))))))
      obtain ⟨o2, h⟩ := h
      refine awp_rc tab [5, 6, 7] [] [] [] [-9223372036854775808 ≤ x2 + (1 : Int) ∧ x2 + (1 : Int) ≤ 9223372036854775807] ⟨15, [(5, .d (.sl (.int .i64)) a1), (6, vi (a1.length : Int)), (7, vi (x2 + (1 : Int)))], []⟩ (by kernel_rfl) (AllP.of (o2) trivial) ?_
      refine then_n (spine_e (then_n (spine_e (then_n (spine_e (then_n (?_)))))))
      obtain ⟨m, hm, h⟩ := h
      exact ⟨m, hm, ⟨15, [(5, .d (.sl (.int .i64)) a1), (6, vi (a1.length : Int)), (7, vi (x2 + (1 : Int)))], []⟩, wk_ghosts hk (l := [.keep [5, 6, 7], .keep [5, 6, 7], .keep [5, 6, 7]]) (by kernel_rfl), x2 + (1 : Int), h, rfl⟩
  · replace h := h.2 (of_decide_eq_false hb)
    refine awp_exit (then_x (then_x (then_x (blk_h (then_n (spine_c ?_))))))
    refine awp_spine ?_
    refine awp_rc tab [2] [] [] [] [] ⟨15, [(2, vb true)], []⟩ (by kernel_rfl) (trivial) ?_
    refine then_n (spine_c ?_)
    refine awp_ret (then_r (then_r (then_r (?_))))
    exact ret_r (m := 0) (r := vb true) (objs := []) hk [.keep [2]] ⟨15, [(2, vb true)], []⟩ (by kernel_rfl) (by kernel_rfl) (Nat.le_refl 0) ⟨true, rfl, rfl, h⟩
theorem ok_ref02_Point (a1 : (List Int)) : OkC prog 22 [.d (.sl (.int .i64)) a1] (vb (ref02_Point.fn a1)) :=
  OkC.of call_ref02_Point ((walk_ref02_Point a1 _ (ref02_Point.spec a1)).mono fun r o ⟨x, hr, ho, hx⟩ => ⟨by rw [hr, hx], ho⟩) rfl rfl (fun _ => rfl)

noncomputable abbrev Bref02_Value : Code := bodyOf Try.f75
theorem call_ref02_Value : CallOk prog 75 := ⟨_, Try.func75, by kernel_rfl, by kernel_rfl⟩
theorem walk_ref02_Value (a1 : api_Lin) (a2 : (List Int)) (Q : Int → Prop) (h : ref02_Value.wp a1 a2 Q) : VCalls prog 75 [.agg [.d (.sl (.int .i64)) a1.1, vi a1.2], .d (.sl (.int .i64)) a2] [] (fun r o => ∃ x, r = vi x ∧ o = [] ∧ Q x) := by
  refine vcalls_body tab Try.func75 (c := (spine (subC [0] Bref02_Value) [(spine (subC [1, 0] Bref02_Value) [(spine (subC [1, 1, 0, 0] Bref02_Value) [(.block 0 (.loop (spine (subC [1, 1, 0, 1, 0, 0, 0] Bref02_Value) [(spine (.cond (.tmp 13) .skip (.exit 0)) [(spine (.block 1 (spine (subC [1, 1, 0, 1, 0, 0, 1, 1, 0, 0, 0] Bref02_Value) [(subC [1, 1, 0, 1, 0, 0, 1, 1, 0, 0, 1] Bref02_Value)])) [(subC [1, 1, 0, 1, 0, 0, 1, 1, 1] Bref02_Value)])])]))), (spine (subC [1, 1, 1, 0] Bref02_Value) [.ret])])])])) (by kernel_rfl) (Nat.le_of_ble_eq_true (by kernel_rfl)) fun cx hd hi hk => ?_
  show AWp prog cx _ _ ⟨29, [(0, .agg [.d (.sl (.int .i64)) a1.1, vi a1.2]), (1, .d (.sl (.int .i64)) a2)], []⟩
  replace hk : cx.E.len = 0 := hk
  unfold ref02_Value.wp at h
  refine awp_spine ?_
  refine awp_rc tab [1, 2] [] [] [0] [] ⟨29, [(1, .d (.sl (.int .i64)) a2), (2, .er [.d (.sl (.int .i64)) a1.1, vi a1.2])], []⟩ (by kernel_rfl) (trivial) ?_
  refine then_n (spine_c ?_)
  refine awp_spine ?_
  refine awp_rc tab [1, 2, 5] [] [] [] [] ⟨29, [(1, .d (.sl (.int .i64)) a2), (2, .er [.d (.sl (.int .i64)) a1.1, vi a1.2]), (5, vi a1.2)], []⟩ (by kernel_rfl) (trivial) ?_
  refine then_n (spine_c ?_)
  refine awp_spine ?_
  refine awp_rc tab [1, 2, 5, 11, 12] [] [] [] [] ⟨29, [(1, .d (.sl (.int .i64)) a2), (2, .er [.d (.sl (.int .i64)) a1.1, vi a1.2]), (5, vi a1.2), (11, vi (a1.1.length : Int)), (12, vi (0 : Int))], []⟩ (by kernel_rfl) (trivial) ?_
  refine then_n (spine_c ?_)
  refine awp_len 2 [0] (T := (.int .i64)) (l := a1.1) (by kernel_rfl) fun hl => ?_
  replace h := h hl
  refine awp_block ?_
  obtain ⟨I7, ⟨n7a, hz7⟩, hI7⟩ := h
  refine awp_loopN (fun n s => ∃ (x3 : Int) (x4 : Int), I7 n x3 x4 ∧ s = ⟨29, [(1, .d (.sl (.int .i64)) a2), (2, .er [.d (.sl (.int .i64)) a1.1, vi a1.2]), (5, vi x3), (11, vi (a1.1.length : Int)), (12, vi x4)], []⟩) (n := n7a) (s0 := ⟨29, [(1, .d (.sl (.int .i64)) a2), (2, .er [.d (.sl (.int .i64)) a1.1, vi a1.2]), (5, vi a1.2), (11, vi (a1.1.length : Int)), (12, vi (0 : Int))], []⟩) (wk_ghosts hk (l := [.keep [1, 2, 5, 11, 12], .keep [1, 2, 5, 11, 12], .keep [1, 2, 5, 11, 12], .keep [1, 2, 5, 11, 12]]) (by kernel_rfl)) ⟨a1.2, 0, hz7, rfl⟩ ?_
  rintro n7 s ⟨x3, x4, hx7, rfl⟩
  have h := hI7 n7 x3 x4 hx7
  refine awp_spine ?_
  refine awp_rc tab [1, 2, 5, 11, 12, 13] [] [] [] [] ⟨29, [(1, .d (.sl (.int .i64)) a2), (2, .er [.d (.sl (.int .i64)) a1.1, vi a1.2]), (5, vi x3), (11, vi (a1.1.length : Int)), (12, vi x4), (13, vb (decide (x4 < (a1.1.length : Int))))], []⟩ (by kernel_rfl) (trivial) ?_
  refine then_n (spine_c ?_)
  refine awp_spine ?_
  refine awp_cond (b := decide (x4 < (a1.1.length : Int))) (by kernel_rfl) (fun hb => ?_) (fun hb => ?_)
  · replace h := h.1 (of_decide_eq_true hb)
    refine awp_skip (then_n (spine_c ?_))
    refine awp_spine ?_
    refine awp_block ?_
    refine awp_spine ?_
    refine awp_rc tab [1, 2, 5, 6, 11, 12] [] [] [] [] ⟨29, [(1, .d (.sl (.int .i64)) a2), (2, .er [.d (.sl (.int .i64)) a1.1, vi a1.2]), (5, vi x3), (6, vi x4), (11, vi (a1.1.length : Int)), (12, vi x4)], []⟩ (by kernel_rfl) (trivial) ?_
    refine then_n (spine_c ?_)
    obtain ⟨o1, o2, o3, o4, h⟩ := h
    refine awp_dr tab mixed [1, 2, 5, 11, 12] [] [] [] ⟨[[], [], [1], [], [1, 2, 3], [1, 2, 3, 4], [], [], [6, 7], [6, 7, 8], [1, 2, 3, 4, 5, 6, 7, 8, 9], [0, 1, 2, 3, 4, 5, 6, 7, 8, 9, 10], [0, 1, 2, 3, 4, 5, 6, 7, 8, 9, 10, 11]], [vi x3, .er [.d (.sl (.int .i64)) a1.1, vi a1.2], .d (.sl (.int .i64)) a1.1, vi x4, .er [vi (gI a1.1 x4)], vi (gI a1.1 x4), .d (.sl (.int .i64)) a2, vi x4, .er [vi (gI a2 x4)], vi (gI a2 x4), vi ((gI a1.1 x4) * (gI a2 x4)), vi (x3 + ((gI a1.1 x4) * (gI a2 x4))), vi (x3 + ((gI a1.1 x4) * (gI a2 x4)))], [none, none, none, none, some ((0 : Int) ≤ x4 ∧ x4 < (a1.1.length : Int)), none, none, none, some ((0 : Int) ≤ x4 ∧ x4 < (a2.length : Int)), none, some (-9223372036854775808 ≤ (gI a1.1 x4) * (gI a2 x4) ∧ (gI a1.1 x4) * (gI a2 x4) ≤ 9223372036854775807), some (-9223372036854775808 ≤ x3 + ((gI a1.1 x4) * (gI a2 x4)) ∧ x3 + ((gI a1.1 x4) * (gI a2 x4)) ≤ 9223372036854775807), none], [], [([], [])]⟩ ⟨29, [(1, .d (.sl (.int .i64)) a2), (2, .er [.d (.sl (.int .i64)) a1.1, vi a1.2]), (5, vi (x3 + ((gI a1.1 x4) * (gI a2 x4)))), (11, vi (a1.1.length : Int)), (12, vi x4)], []⟩ (by kernel_rfl) (AllO.n (AllO.n (AllO.n (AllO.n (AllO.s (o1) (AllO.n (AllO.n (AllO.n (AllO.s (o2) (AllO.n (AllO.s (o3) (AllO.s (o4) (AllO.n (AllO.e)))))))))))))) ?_
    refine then_n (spine_e (blk_n (then_n (spine_c ?_))))
    refine awp_abs (fun (x8 : Int) => ⟨29, [(1, .d (.sl (.int .i64)) a2), (2, .er [.d (.sl (.int .i64)) a1.1, vi a1.2]), (5, vi x8), (11, vi (a1.1.length : Int)), (12, vi x4)], []⟩) (x3 + ((gI a1.1 x4) * (gI a2 x4))) ?_
    intro x8 hx8
    replace h := h x8 hx8
    obtain ⟨o5, h⟩ := h
    refine awp_rc tab [1, 2, 5, 11, 12] [] [] [] [-9223372036854775808 ≤ x4 + (1 : Int) ∧ x4 + (1 : Int) ≤ 9223372036854775807] ⟨29, [(1, .d (.sl (.int .i64)) a2), (2, .er [.d (.sl (.int .i64)) a1.1, vi a1.2]), (5, vi x8), (11, vi (a1.1.length : Int)), (12, vi (x4 + (1 : Int)))], []⟩ (by kernel_rfl) (AllP.of (o5) trivial) ?_
    refine then_n (spine_e (then_n (spine_e (then_n (spine_e (then_n (?_)))))))
    obtain ⟨m, hm, h⟩ := h
    exact ⟨m, hm, ⟨29, [(1, .d (.sl (.int .i64)) a2), (2, .er [.d (.sl (.int .i64)) a1.1, vi a1.2]), (5, vi x8), (11, vi (a1.1.length : Int)), (12, vi (x4 + (1 : Int)))], []⟩, wk_ghosts hk (l := [.keep [1, 2, 5, 11, 12], .keep [1, 2, 5, 11, 12], .keep [1, 2, 5, 11, 12]]) (by kernel_rfl), x8, x4 + (1 : Int), h, rfl⟩
  · replace h := h.2 (of_decide_eq_false hb)
    refine awp_exit (then_x (then_x (then_x (blk_h (then_n (spine_c ?_))))))
    refine awp_spine ?_
    refine awp_rc tab [4] [] [] [] [] ⟨29, [(4, vi x3)], []⟩ (by kernel_rfl) (trivial) ?_
    refine then_n (spine_c ?_)
    refine awp_ret (then_r (then_r (then_r (then_r (?_)))))
    exact ret_r (m := 0) (r := vi x3) (objs := []) hk [.keep [4]] ⟨29, [(4, vi x3)], []⟩ (by kernel_rfl) (by kernel_rfl) (Nat.le_refl 0) ⟨x3, rfl, rfl, h⟩
theorem ok_ref02_Value (a1 : api_Lin) (a2 : (List Int)) (h : ref02_Value.pre a1 a2) : OkC prog 75 [.agg [.d (.sl (.int .i64)) a1.1, vi a1.2], .d (.sl (.int .i64)) a2] (vi (ref02_Value.fn a1 a2)) :=
  OkC.of call_ref02_Value ((walk_ref02_Value a1 a2 _ (ref02_Value.spec a1 a2 h)).mono fun r o ⟨x, hr, ho, hx⟩ => ⟨by rw [hr, hx], ho⟩) rfl rfl (fun _ => rfl)

noncomputable abbrev Bref03_Is : Code := bodyOf Try.f50
theorem call_ref03_Is : CallOk prog 50 := ⟨_, Try.func50, by kernel_rfl, by kernel_rfl⟩
theorem walk_ref03_Is (a1 : api_Cond) (a2 : (List Int)) (Q : Bool → Prop) (h : ref03_Is.wp a1 a2 Q) : VCalls prog 50 [.agg [vi a1.1, vi a1.2.1, .d (.sl (.int .i64)) a1.2.2.1, vi a1.2.2.2], .d (.sl (.int .i64)) a2] [] (fun r o => ∃ x, r = vb x ∧ o = [] ∧ Q x) := by
  refine vcalls_body tab Try.func50 (c := (spine (subC [0] Bref03_Is) [(spine (subC [1, 0] Bref03_Is) [(spine (subC [1, 1, 0, 0] Bref03_Is) [(.block 0 (spine (subC [1, 1, 0, 1, 0, 0] Bref03_Is) [(.cond (.tmp 12) (spine (subC [1, 1, 0, 1, 0, 1, 0, 0] Bref03_Is) [.ret]) (spine (subC [1, 1, 0, 1, 0, 1, 1, 0] Bref03_Is) [(.cond (.tmp 16) (spine (subC [1, 1, 0, 1, 0, 1, 1, 1, 0, 0] Bref03_Is) [.ret]) .skip)]))])), (spine (subC [1, 1, 1, 0] Bref03_Is) [.ret])])])])) (by kernel_rfl) (Nat.le_of_ble_eq_true (by kernel_rfl)) fun cx hd hi hk => ?_
  show AWp prog cx _ _ ⟨25, [(0, .agg [vi a1.1, vi a1.2.1, .d (.sl (.int .i64)) a1.2.2.1, vi a1.2.2.2]), (1, .d (.sl (.int .i64)) a2)], []⟩
  replace hk : cx.E.len = 0 := hk
  unfold ref03_Is.wp at h
  refine awp_spine ?_
  refine awp_rc tab [1, 2] [] [] [0] [] ⟨25, [(1, .d (.sl (.int .i64)) a2), (2, .er [vi a1.1, vi a1.2.1, .d (.sl (.int .i64)) a1.2.2.1, vi a1.2.2.2])], []⟩ (by kernel_rfl) (trivial) ?_
  refine then_n (spine_c ?_)
  refine awp_spine ?_
  obtain ⟨o1, h⟩ := h
  refine awp_rc tab [2, 5] [] [(3, .dat (vi (ref02_Value.fn a1.2.2 a2)))] [] [OkC prog 75 [.agg [.d (.sl (.int .i64)) a1.2.2.1, vi a1.2.2.2], .d (.sl (.int .i64)) a2] (vi (ref02_Value.fn a1.2.2 a2))] ⟨25, [(2, .er [vi a1.1, vi a1.2.1, .d (.sl (.int .i64)) a1.2.2.1, vi a1.2.2.2]), (5, vi (ref02_Value.fn a1.2.2 a2))], []⟩ (by kernel_rfl) (AllP.of (ok_ref02_Value a1.2.2 a2 (o1)) trivial) ?_
  refine then_n (spine_c ?_)
  refine awp_abs (fun (x1 : Int) => ⟨25, [(2, .er [vi a1.1, vi a1.2.1, .d (.sl (.int .i64)) a1.2.2.1, vi a1.2.2.2]), (5, vi x1)], []⟩) (ref02_Value.fn a1.2.2 a2) ?_
  intro x1 hx1
  replace h := h x1 hx1
  refine awp_spine ?_
  refine awp_rc tab [2, 5, 11] [] [] [] [] ⟨25, [(2, .er [vi a1.1, vi a1.2.1, .d (.sl (.int .i64)) a1.2.2.1, vi a1.2.2.2]), (5, vi x1), (11, vi a1.1)], []⟩ (by kernel_rfl) (trivial) ?_
  refine then_n (spine_c ?_)
  refine awp_block ?_
  refine awp_spine ?_
  refine awp_rc tab [2, 5, 11, 12] [] [] [] [] ⟨25, [(2, .er [vi a1.1, vi a1.2.1, .d (.sl (.int .i64)) a1.2.2.1, vi a1.2.2.2]), (5, vi x1), (11, vi a1.1), (12, vb (a1.1 == (0 : Int)))], []⟩ (by kernel_rfl) (trivial) ?_
  refine then_n (spine_c ?_)
  refine awp_cond (b := a1.1 == (0 : Int)) (by kernel_rfl) (fun hb => ?_) (fun hb => ?_)
  · replace h := h.1 (eq_of_beq hb)
    refine awp_spine ?_
    refine awp_rc tab [4] [] [] [] [] ⟨25, [(4, vb (decide (x1 ≥ (0 : Int))))], []⟩ (by kernel_rfl) (trivial) ?_
    refine then_n (spine_c ?_)
    refine awp_ret (then_r (then_r (blk_r (then_r (then_r (then_r (?_)))))))
    exact ret_r (m := 0) (r := vb (decide (x1 ≥ (0 : Int)))) (objs := []) hk [.keep [4]] ⟨25, [(4, vb (decide (x1 ≥ (0 : Int))))], []⟩ (by kernel_rfl) (by kernel_rfl) (Nat.le_refl 0) ⟨decide (x1 ≥ (0 : Int)), rfl, rfl, h⟩
  · replace h := h.2 (ne_of_beq_false hb)
    refine awp_spine ?_
    refine awp_rc tab [2, 5, 16] [] [] [] [] ⟨25, [(2, .er [vi a1.1, vi a1.2.1, .d (.sl (.int .i64)) a1.2.2.1, vi a1.2.2.2]), (5, vi x1), (16, vb (a1.1 == (1 : Int)))], []⟩ (by kernel_rfl) (trivial) ?_
    refine then_n (spine_c ?_)
    refine awp_cond (b := a1.1 == (1 : Int)) (by kernel_rfl) (fun hb => ?_) (fun hb => ?_)
    · replace h := h.1 (eq_of_beq hb)
      refine awp_spine ?_
      refine awp_rc tab [4] [] [] [] [] ⟨25, [(4, vb (x1 == (0 : Int)))], []⟩ (by kernel_rfl) (trivial) ?_
      refine then_n (spine_c ?_)
      refine awp_ret (then_r (then_r (then_r (blk_r (then_r (then_r (then_r (?_))))))))
      exact ret_r (m := 0) (r := vb (x1 == (0 : Int))) (objs := []) hk [.keep [4]] ⟨25, [(4, vb (x1 == (0 : Int)))], []⟩ (by kernel_rfl) (by kernel_rfl) (Nat.le_refl 0) ⟨x1 == (0 : Int), rfl, rfl, h⟩
    · replace h := h.2 (ne_of_beq_false hb)
      refine awp_skip (then_n (spine_e (then_n (spine_e (blk_n (then_n (spine_c ?_)))))))
      refine awp_spine ?_
      obtain ⟨o2, h⟩ := h
      refine awp_rc tab [4] [] [] [] [a1.2.1 ≠ 0] ⟨25, [(4, vb ((Int.tmod x1 a1.2.1) == (0 : Int)))], []⟩ (by kernel_rfl) (AllP.of (o2) trivial) ?_
      refine then_n (spine_c ?_)
      refine awp_ret (then_r (then_r (then_r (then_r (?_)))))
      exact ret_r (m := 0) (r := vb ((Int.tmod x1 a1.2.1) == (0 : Int))) (objs := []) hk [.keep [4]] ⟨25, [(4, vb ((Int.tmod x1 a1.2.1) == (0 : Int)))], []⟩ (by kernel_rfl) (by kernel_rfl) (Nat.le_refl 0) ⟨(Int.tmod x1 a1.2.1) == (0 : Int), rfl, rfl, h⟩
theorem ok_ref03_Is (a1 : api_Cond) (a2 : (List Int)) (h : ref03_Is.pre a1 a2) : OkC prog 50 [.agg [vi a1.1, vi a1.2.1, .d (.sl (.int .i64)) a1.2.2.1, vi a1.2.2.2], .d (.sl (.int .i64)) a2] (vb (ref03_Is.fn a1 a2)) :=
  OkC.of call_ref03_Is ((walk_ref03_Is a1 a2 _ (ref03_Is.spec a1 a2 h)).mono fun r o ⟨x, hr, ho, hx⟩ => ⟨by rw [hr, hx], ho⟩) rfl rfl (fun _ => rfl)

noncomputable abbrev Bref04_In : Code := bodyOf Try.f23
theorem call_ref04_In : CallOk prog 23 := ⟨_, Try.func23, by kernel_rfl, by kernel_rfl⟩
theorem walk_ref04_In (a1 : (List api_Cond)) (a2 : (List Int)) (Q : Bool → Prop) (h : ref04_In.wp a1 a2 Q) : VCalls prog 23 [.d (.sl t_api_Cond) a1, .d (.sl (.int .i64)) a2] [] (fun r o => ∃ x, r = vb x ∧ o = [] ∧ Q x) := by
  refine vcalls_body tab Try.func23 (c := (spine (subC [0] Bref04_In) [(spine (subC [1, 0, 0] Bref04_In) [(.block 0 (.loop (spine (subC [1, 0, 1, 0, 0, 0] Bref04_In) [(spine (.cond (.tmp 10) .skip (.exit 0)) [(spine (.block 1 (spine (subC [1, 0, 1, 0, 0, 1, 1, 0, 0, 0] Bref04_In) [(spine (subC [1, 0, 1, 0, 0, 1, 1, 0, 0, 1, 0] Bref04_In) [(.cond (.tmp 16) (spine (subC [1, 0, 1, 0, 0, 1, 1, 0, 0, 1, 1, 0, 0] Bref04_In) [.ret]) .skip)])])) [(subC [1, 0, 1, 0, 0, 1, 1, 1] Bref04_In)])])]))), (spine (subC [1, 1, 0] Bref04_In) [.ret])])])) (by kernel_rfl) (Nat.le_of_ble_eq_true (by kernel_rfl)) fun cx hd hi hk => ?_
  show AWp prog cx _ _ ⟨18, [(0, .d (.sl t_api_Cond) a1), (1, .d (.sl (.int .i64)) a2)], []⟩
  replace hk : cx.E.len = 0 := hk
  unfold ref04_In.wp at h
  refine awp_spine ?_
  refine awp_rc tab [0, 1] [] [] [] [] ⟨18, [(0, .d (.sl t_api_Cond) a1), (1, .d (.sl (.int .i64)) a2)], []⟩ (by kernel_rfl) (trivial) ?_
  refine then_n (spine_c ?_)
  refine awp_spine ?_
  refine awp_rc tab [1, 7, 8, 9] [] [] [] [] ⟨18, [(1, .d (.sl (.int .i64)) a2), (7, .d (.sl t_api_Cond) a1), (8, vi (a1.length : Int)), (9, vi (0 : Int))], []⟩ (by kernel_rfl) (trivial) ?_
  refine then_n (spine_c ?_)
  refine awp_len 7 [] (T := t_api_Cond) (l := a1) (by kernel_rfl) fun hl => ?_
  replace h := h hl
  refine awp_block ?_
  obtain ⟨I4, ⟨n4a, hz4⟩, hI4⟩ := h
  refine awp_loopN (fun n s => ∃ (x2 : Int), I4 n x2 ∧ s = ⟨18, [(1, .d (.sl (.int .i64)) a2), (7, .d (.sl t_api_Cond) a1), (8, vi (a1.length : Int)), (9, vi x2)], []⟩) (n := n4a) (s0 := ⟨18, [(1, .d (.sl (.int .i64)) a2), (7, .d (.sl t_api_Cond) a1), (8, vi (a1.length : Int)), (9, vi (0 : Int))], []⟩) (wk_ghosts hk (l := [.keep [1, 7, 8, 9], .keep [1, 7, 8, 9], .keep [1, 7, 8, 9], .keep [1, 7, 8, 9]]) (by kernel_rfl)) ⟨0, hz4, rfl⟩ ?_
  rintro n4 s ⟨x2, hx4, rfl⟩
  have h := hI4 n4 x2 hx4
  refine awp_spine ?_
  refine awp_rc tab [1, 7, 8, 9, 10] [] [] [] [] ⟨18, [(1, .d (.sl (.int .i64)) a2), (7, .d (.sl t_api_Cond) a1), (8, vi (a1.length : Int)), (9, vi x2), (10, vb (decide (x2 < (a1.length : Int))))], []⟩ (by kernel_rfl) (trivial) ?_
  refine then_n (spine_c ?_)
  refine awp_spine ?_
  refine awp_cond (b := decide (x2 < (a1.length : Int))) (by kernel_rfl) (fun hb => ?_) (fun hb => ?_)
  · replace h := h.1 (of_decide_eq_true hb)
    refine awp_skip (then_n (spine_c ?_))
    refine awp_spine ?_
    refine awp_block ?_
    refine awp_spine ?_
    obtain ⟨o1, h⟩ := h
    refine awp_rc tab [1, 6, 7, 8, 9] [] [] [] [(0 : Int) ≤ x2 ∧ x2 < (a1.length : Int)] ⟨18, [(1, .d (.sl (.int .i64)) a2), (6, .ref 0 0 0), (7, .d (.sl t_api_Cond) a1), (8, vi (a1.length : Int)), (9, vi x2)], [.box [vi ((a1.getD (Int.toNat x2) d_api_Cond).1), vi ((a1.getD (Int.toNat x2) d_api_Cond).2.1), .d (.sl (.int .i64)) (((a1.getD (Int.toNat x2) d_api_Cond).2.2).1), vi (((a1.getD (Int.toNat x2) d_api_Cond).2.2).2)]]⟩ (by kernel_rfl) (AllP.of (o1) trivial) ?_
    refine then_n (spine_c ?_)
    refine awp_abs (fun (x5 : api_Cond) => ⟨18, [(1, .d (.sl (.int .i64)) a2), (6, .ref 0 0 0), (7, .d (.sl t_api_Cond) a1), (8, vi (a1.length : Int)), (9, vi x2)], [.box [vi x5.1, vi x5.2.1, .d (.sl (.int .i64)) x5.2.2.1, vi x5.2.2.2]]⟩) (a1.getD (Int.toNat x2) d_api_Cond) ?_
    intro x5 hx5
    replace h := h x5 hx5
    refine awp_spine ?_
    obtain ⟨o2, h⟩ := h
    refine awp_rc tab [1, 7, 8, 9, 16] [] [(2, .dat (vb (ref03_Is.fn x5 a2)))] [] [OkC prog 50 [.agg [vi x5.1, vi x5.2.1, .d (.sl (.int .i64)) x5.2.2.1, vi x5.2.2.2], .d (.sl (.int .i64)) a2] (vb (ref03_Is.fn x5 a2))] ⟨18, [(1, .d (.sl (.int .i64)) a2), (7, .d (.sl t_api_Cond) a1), (8, vi (a1.length : Int)), (9, vi x2), (16, vb (!(ref03_Is.fn x5 a2)))], [.box [vi x5.1, vi x5.2.1, .d (.sl (.int .i64)) x5.2.2.1, vi x5.2.2.2]]⟩ (by kernel_rfl) (AllP.of (ok_ref03_Is x5 a2 (o2)) trivial) ?_
    refine then_n (spine_c ?_)
    refine awp_cond (b := !(ref03_Is.fn x5 a2)) (by kernel_rfl) (fun hb => ?_) (fun hb => ?_)
    · replace h := h.1 ((nt hb))
      refine awp_spine ?_
      refine awp_rc tab [4] [] [] [] [] ⟨18, [(4, vb false)], [.box [vi x5.1, vi x5.2.1, .d (.sl (.int .i64)) x5.2.2.1, vi x5.2.2.2]]⟩ (by kernel_rfl) (trivial) ?_
      refine then_n (spine_c ?_)
      refine awp_ret (then_r (then_r (then_r (blk_r (then_r (then_r (then_r (then_r (blk_r (then_r (then_r (?_))))))))))))
      exact ret_r (m := 0) (r := vb false) (objs := []) hk [.keep [4]] ⟨18, [(4, vb false)], [.box [vi x5.1, vi x5.2.1, .d (.sl (.int .i64)) x5.2.2.1, vi x5.2.2.2]]⟩ (by kernel_rfl) (by kernel_rfl) (Nat.le_refl 0) ⟨false, rfl, rfl, h⟩
    · replace h := h.2 ((nf hb))
      refine awp_skip (then_n (spine_e (then_n (spine_e (blk_n (then_n (spine_c ?_)))))))
      obtain ⟨o3, h⟩ := h
      refine awp_rc tab [1, 7, 8, 9] [] [] [] [-9223372036854775808 ≤ x2 + (1 : Int) ∧ x2 + (1 : Int) ≤ 9223372036854775807] ⟨18, [(1, .d (.sl (.int .i64)) a2), (7, .d (.sl t_api_Cond) a1), (8, vi (a1.length : Int)), (9, vi (x2 + (1 : Int)))], [.box [vi x5.1, vi x5.2.1, .d (.sl (.int .i64)) x5.2.2.1, vi x5.2.2.2]]⟩ (by kernel_rfl) (AllP.of (o3) trivial) ?_
      refine then_n (spine_e (then_n (spine_e (then_n (spine_e (then_n (?_)))))))
      obtain ⟨m, hm, h⟩ := h
      exact ⟨m, hm, ⟨18, [(1, .d (.sl (.int .i64)) a2), (7, .d (.sl t_api_Cond) a1), (8, vi (a1.length : Int)), (9, vi (x2 + (1 : Int)))], []⟩, wk_ghosts hk (l := [.keep [1, 7, 8, 9], .keep [1, 7, 8, 9], .cut 0, .keep [1, 7, 8, 9]]) (by kernel_rfl), x2 + (1 : Int), h, rfl⟩
  · replace h := h.2 (of_decide_eq_false hb)
    refine awp_exit (then_x (then_x (then_x (blk_h (then_n (spine_c ?_))))))
    refine awp_spine ?_
    refine awp_rc tab [4] [] [] [] [] ⟨18, [(4, vb true)], []⟩ (by kernel_rfl) (trivial) ?_
    refine then_n (spine_c ?_)
    refine awp_ret (then_r (then_r (then_r (?_))))
    exact ret_r (m := 0) (r := vb true) (objs := []) hk [.keep [4]] ⟨18, [(4, vb true)], []⟩ (by kernel_rfl) (by kernel_rfl) (Nat.le_refl 0) ⟨true, rfl, rfl, h⟩
theorem ok_ref04_In (a1 : (List api_Cond)) (a2 : (List Int)) (h : ref04_In.pre a1 a2) : OkC prog 23 [.d (.sl t_api_Cond) a1, .d (.sl (.int .i64)) a2] (vb (ref04_In.fn a1 a2)) :=
  OkC.of call_ref04_In ((walk_ref04_In a1 a2 _ (ref04_In.spec a1 a2 h)).mono fun r o ⟨x, hr, ho, hx⟩ => ⟨by rw [hr, hx], ho⟩) rfl rfl (fun _ => rfl)

noncomputable abbrev Blaw09_FarkasRefuted : Code := bodyOf Try.f8
theorem call_law09_FarkasRefuted : CallOk prog 8 := ⟨_, Try.func8, by kernel_rfl, by kernel_rfl⟩
theorem walk_law09_FarkasRefuted (a1 : (List api_Cond)) (a2 : Int) (a3 : (List Int)) (a4 : (List Int)) (Q : Bool → Prop) (h : law09_FarkasRefuted.wp a1 a2 a3 a4 Q) : VCalls prog 8 [.d (.sl t_api_Cond) a1, vi a2, .d (.sl (.int .i64)) a3, .d (.sl (.int .i64)) a4] [] (fun r o => ∃ x, r = vb x ∧ o = [] ∧ Q x) := by
  refine vcalls_body tab Try.func8 (c := (spine (subC [0] Blaw09_FarkasRefuted) [(spine (subC [1, 0, 0] Blaw09_FarkasRefuted) [(.cond (.tmp 13) (spine (subC [1, 0, 1, 0, 0] Blaw09_FarkasRefuted) [.ret]) .skip), (spine (subC [1, 1, 0] Blaw09_FarkasRefuted) [(spine (subC [1, 1, 1, 0, 0] Blaw09_FarkasRefuted) [(.cond (.tmp 38) (spine (subC [1, 1, 1, 0, 1, 0, 0] Blaw09_FarkasRefuted) [.ret]) .skip), (spine (subC [1, 1, 1, 1, 0] Blaw09_FarkasRefuted) [.ret])])])])])) (by kernel_rfl) (Nat.le_of_ble_eq_true (by kernel_rfl)) fun cx hd hi hk => ?_
  show AWp prog cx _ _ ⟨47, [(0, .d (.sl t_api_Cond) a1), (1, vi a2), (2, .d (.sl (.int .i64)) a3), (3, .d (.sl (.int .i64)) a4)], []⟩
  replace hk : cx.E.len = 0 := hk
  unfold law09_FarkasRefuted.wp at h
  refine awp_spine ?_
  refine awp_rc tab [0, 1, 2, 3] [] [] [] [] ⟨47, [(0, .d (.sl t_api_Cond) a1), (1, vi a2), (2, .d (.sl (.int .i64)) a3), (3, .d (.sl (.int .i64)) a4)], []⟩ (by kernel_rfl) (trivial) ?_
  refine then_n (spine_c ?_)
  refine awp_spine ?_
  refine awp_rc tab [0, 1, 2, 3, 13] [] [] [] [] ⟨47, [(0, .d (.sl t_api_Cond) a1), (1, vi a2), (2, .d (.sl (.int .i64)) a3), (3, .d (.sl (.int .i64)) a4), (13, vb (decide ((a1.length : Int) > (60 : Int))))], []⟩ (by kernel_rfl) (trivial) ?_
  refine then_n (spine_c ?_)
  refine awp_len 0 [] (T := t_api_Cond) (l := a1) (by kernel_rfl) fun hl => ?_
  replace h := h hl
  refine awp_cond (b := decide ((a1.length : Int) > (60 : Int))) (by kernel_rfl) (fun hb => ?_) (fun hb => ?_)
  · replace h := h.1 (of_decide_eq_true hb)
    refine awp_spine ?_
    obtain ⟨o1, h⟩ := h
    refine awp_rc tab [8] [] [(0, .dat (vb law09_awake.fn))] [] [OkC prog 10 [] (vb law09_awake.fn)] ⟨47, [(8, vb law09_awake.fn)], []⟩ (by kernel_rfl) (AllP.of (ok_law09_awake (o1)) trivial) ?_
    refine then_n (spine_c ?_)
    refine awp_ret (then_r (then_r (then_r (?_))))
    exact ret_r (m := 0) (r := vb law09_awake.fn) (objs := []) hk [.keep [8]] ⟨47, [(8, vb law09_awake.fn)], []⟩ (by kernel_rfl) (by kernel_rfl) (Nat.le_refl 0) ⟨law09_awake.fn, rfl, rfl, h⟩
  · replace h := h.2 (of_decide_eq_false hb)
    refine awp_skip (then_n (spine_c ?_))
    refine awp_spine ?_
    obtain ⟨o2, h⟩ := h
    refine awp_rc tab [0, 1, 3, 9, 10] [] [(3, .dat (.tup [vb ((farkas_Check.fn a1 a2 a3).1), vi ((farkas_Check.fn a1 a2 a3).2)]))] [] [OkC prog 20 [.d (.sl t_api_Cond) a1, vi a2, .d (.sl (.int .i64)) a3] (.tup [vb ((farkas_Check.fn a1 a2 a3).1), vi ((farkas_Check.fn a1 a2 a3).2)])] ⟨47, [(0, .d (.sl t_api_Cond) a1), (1, vi a2), (3, .d (.sl (.int .i64)) a4), (9, vb ((farkas_Check.fn a1 a2 a3).1)), (10, vi ((farkas_Check.fn a1 a2 a3).2))], []⟩ (by kernel_rfl) (AllP.of (ok_farkas_Check a1 a2 a3 (o2)) trivial) ?_
    refine then_n (spine_c ?_)
    refine awp_abs (fun (x1 : Bool × Int) => ⟨47, [(0, .d (.sl t_api_Cond) a1), (1, vi a2), (3, .d (.sl (.int .i64)) a4), (9, vb x1.1), (10, vi x1.2)], []⟩) (farkas_Check.fn a1 a2 a3) ?_
    intro x1 hx1
    replace h := h x1 hx1
    refine awp_spine ?_
    refine awp_rc tab [0, 3, 38] [] [(14, .dat (vb (ref02_Point.fn a4)))] [] [(!(x1.2 != (0 : Int))) = true → (!(x1.2 != (0 : Int))) = true ∧ True, (x1.2 != (0 : Int)) = false → (!(x1.2 != (0 : Int))) = true, (!((x1.2 != (0 : Int)) || (!x1.1))) = true → (!((x1.2 != (0 : Int)) || (!x1.1))) = true ∧ True, (!((x1.2 != (0 : Int)) || (!x1.1))) = true → (!((x1.2 != (0 : Int)) || (!x1.1))) = true ∧ ((!((x1.2 != (0 : Int)) || (!x1.1))) = true ∧ True), ((x1.2 != (0 : Int)) || (!x1.1)) = false → (!((x1.2 != (0 : Int)) || (!x1.1))) = true, (!(((x1.2 != (0 : Int)) || (!x1.1)) || ((a4.length : Int) != a2))) = true → (!(((x1.2 != (0 : Int)) || (!x1.1)) || ((a4.length : Int) != a2))) = true ∧ (OkC prog 22 [.d (.sl (.int .i64)) a4] (vb (ref02_Point.fn a4))), (!(((x1.2 != (0 : Int)) || (!x1.1)) || ((a4.length : Int) != a2))) = true → (!(((x1.2 != (0 : Int)) || (!x1.1)) || ((a4.length : Int) != a2))) = true ∧ True, (((x1.2 != (0 : Int)) || (!x1.1)) || ((a4.length : Int) != a2)) = false → (!(((x1.2 != (0 : Int)) || (!x1.1)) || ((a4.length : Int) != a2))) = true] ⟨47, [(0, .d (.sl t_api_Cond) a1), (3, .d (.sl (.int .i64)) a4), (38, vb ((((x1.2 != (0 : Int)) || (!x1.1)) || ((a4.length : Int) != a2)) || (!(ref02_Point.fn a4))))], []⟩ (by kernel_rfl) (AllP.of (fun hg => ⟨hg, trivial⟩) (AllP.of (fun hc => not_f hc) (AllP.of (fun hg => ⟨hg, trivial⟩) (AllP.of (fun hg => ⟨hg, hg, trivial⟩) (AllP.of (fun hc => not_f hc) (AllP.of (fun hg => ⟨hg, ok_ref02_Point a4⟩) (AllP.of (fun hg => ⟨hg, trivial⟩) (AllP.of (fun hc => not_f hc) trivial)))))))) ?_
    refine then_n (spine_c ?_)
    refine awp_cond (b := (((x1.2 != (0 : Int)) || (!x1.1)) || ((a4.length : Int) != a2)) || (!(ref02_Point.fn a4))) (by kernel_rfl) (fun hb => ?_) (fun hb => ?_)
    · replace h := h.1 (hb)
      refine awp_spine ?_
      obtain ⟨o3, h⟩ := h
      refine awp_rc tab [8] [] [(0, .dat (vb law09_awake.fn))] [] [OkC prog 10 [] (vb law09_awake.fn)] ⟨47, [(8, vb law09_awake.fn)], []⟩ (by kernel_rfl) (AllP.of (ok_law09_awake (o3)) trivial) ?_
      refine then_n (spine_c ?_)
      refine awp_ret (then_r (then_r (then_r (then_r (then_r (?_))))))
      exact ret_r (m := 0) (r := vb law09_awake.fn) (objs := []) hk [.keep [8]] ⟨47, [(8, vb law09_awake.fn)], []⟩ (by kernel_rfl) (by kernel_rfl) (Nat.le_refl 0) ⟨law09_awake.fn, rfl, rfl, h⟩
    · replace h := h.2 (hb)
      refine awp_skip (then_n (spine_c ?_))
      refine awp_spine ?_
      obtain ⟨o4, o5, h⟩ := h
      refine awp_rc tab [8] [] [(2, .dat (vb (ref04_In.fn a1 a4))), (5, .dat (vb law09_awake.fn))] [] [OkC prog 23 [.d (.sl t_api_Cond) a1, .d (.sl (.int .i64)) a4] (vb (ref04_In.fn a1 a4)), (!(ref04_In.fn a1 a4)) = true → OkC prog 10 [] (vb law09_awake.fn), (!(ref04_In.fn a1 a4)) = true → (!(ref04_In.fn a1 a4)) = true] ⟨47, [(8, vb ((!(ref04_In.fn a1 a4)) && law09_awake.fn))], []⟩ (by kernel_rfl) (AllP.of (ok_ref04_In a1 a4 (o4)) (AllP.of (fun hg => ok_law09_awake ((o5 hg))) (AllP.of (fun hc => hc) trivial))) ?_
      refine then_n (spine_c ?_)
      refine awp_ret (then_r (then_r (then_r (then_r (then_r (?_))))))
      exact ret_r (m := 0) (r := vb ((!(ref04_In.fn a1 a4)) && law09_awake.fn)) (objs := []) hk [.keep [8]] ⟨47, [(8, vb ((!(ref04_In.fn a1 a4)) && law09_awake.fn))], []⟩ (by kernel_rfl) (by kernel_rfl) (Nat.le_refl 0) ⟨(!(ref04_In.fn a1 a4)) && law09_awake.fn, rfl, rfl, h⟩
theorem ok_law09_FarkasRefuted (a1 : (List api_Cond)) (a2 : Int) (a3 : (List Int)) (a4 : (List Int)) (h : law09_FarkasRefuted.pre a1 a2 a3 a4) : OkC prog 8 [.d (.sl t_api_Cond) a1, vi a2, .d (.sl (.int .i64)) a3, .d (.sl (.int .i64)) a4] (vb (law09_FarkasRefuted.fn a1 a2 a3 a4)) :=
  OkC.of call_law09_FarkasRefuted ((walk_law09_FarkasRefuted a1 a2 a3 a4 _ (law09_FarkasRefuted.spec a1 a2 a3 a4 h)).mono fun r o ⟨x, hr, ho, hx⟩ => ⟨by rw [hr, hx], ho⟩) rfl rfl (fun _ => rfl)

end Go.Proofs.Ytlncingakpelbaa
