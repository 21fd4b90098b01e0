/- Part of a proof that a law of the program holds for every input: printed by a program of this work. No conditions. -/
import Derived.Test.YtlncingakpelbaaK6
namespace Go.Proofs.Ytlncingakpelbaa
open Go
set_option linter.unusedVariables false
set_option maxHeartbeats 4000000

noncomputable abbrev Blaw09_awake : Code := bodyOf Try.f10
theorem call_law09_awake : CallOk prog 10 := ⟨_, Try.func10, by kernel_rfl, by kernel_rfl⟩
theorem walk_law09_awake (Q : Bool → Prop) (h : law09_awake.wp Q) : VCalls prog 10 [] [] (fun r o => ∃ x, r = vb x ∧ o = [] ∧ Q x) := by
  refine vcalls_body tab Try.func10 (c := (spine (subC [0] Blaw09_awake) [(spine (subC [1, 0] Blaw09_awake) [(spine (subC [1, 1, 0] Blaw09_awake) [(spine (subC [1, 1, 1, 0] Blaw09_awake) [(spine (subC [1, 1, 1, 1, 0] Blaw09_awake) [(spine (subC [1, 1, 1, 1, 1, 0] Blaw09_awake) [(spine (subC [1, 1, 1, 1, 1, 1, 0] Blaw09_awake) [.ret])])])])])])])) (by kernel_rfl) (Nat.le_of_ble_eq_true (by kernel_rfl)) fun cx hd hi hk => ?_
  show AWp prog cx _ _ ⟨77, [], []⟩
  replace hk : cx.E.len = 0 := hk
  unfold law09_awake.wp at h
  refine awp_spine ?_
  refine awp_rc tab [] [] [] [] [] ⟨77, [], []⟩ (by kernel_rfl) (trivial) ?_
  refine then_n (spine_c ?_)
  refine awp_spine ?_
  obtain ⟨o1, o2, h⟩ := h
  refine awp_rc tab [1, 2] [] [(1, .dat (.agg [vi ((law09_ge.fn (-3) [1]).1), vi ((law09_ge.fn (-3) [1]).2.1), .d (.sl (.int .i64)) (((law09_ge.fn (-3) [1]).2.2).1), vi (((law09_ge.fn (-3) [1]).2.2).2)])), (3, .dat (.agg [vi ((law09_ge.fn (2 : Int) [(-1)]).1), vi ((law09_ge.fn (2 : Int) [(-1)]).2.1), .d (.sl (.int .i64)) (((law09_ge.fn (2 : Int) [(-1)]).2.2).1), vi (((law09_ge.fn (2 : Int) [(-1)]).2.2).2)])), (5, .dat (.tup [.d (.sl (.int .i64)) ((farkas_Prove.fn [law09_ge.fn (-3) [1], law09_ge.fn (2 : Int) [(-1)]] (1 : Int)).1), vi ((farkas_Prove.fn [law09_ge.fn (-3) [1], law09_ge.fn (2 : Int) [(-1)]] (1 : Int)).2)]))] [0, 2, 4] [1 * 1 ≤ 16777216, OkC prog 24 [vi (-3), .d (.sl (.int .i64)) [1]] (.agg [vi ((law09_ge.fn (-3) [1]).1), vi ((law09_ge.fn (-3) [1]).2.1), .d (.sl (.int .i64)) (((law09_ge.fn (-3) [1]).2.2).1), vi (((law09_ge.fn (-3) [1]).2.2).2)]), 1 * 1 ≤ 16777216, OkC prog 24 [vi (2 : Int), .d (.sl (.int .i64)) [(-1)]] (.agg [vi ((law09_ge.fn (2 : Int) [(-1)]).1), vi ((law09_ge.fn (2 : Int) [(-1)]).2.1), .d (.sl (.int .i64)) (((law09_ge.fn (2 : Int) [(-1)]).2.2).1), vi (((law09_ge.fn (2 : Int) [(-1)]).2.2).2)]), 2 * 4 ≤ 16777216, OkC prog 11 [.d (.sl t_api_Cond) [law09_ge.fn (-3) [1], law09_ge.fn (2 : Int) [(-1)]], vi (1 : Int)] (.tup [.d (.sl (.int .i64)) ((farkas_Prove.fn [law09_ge.fn (-3) [1], law09_ge.fn (2 : Int) [(-1)]] (1 : Int)).1), vi ((farkas_Prove.fn [law09_ge.fn (-3) [1], law09_ge.fn (2 : Int) [(-1)]] (1 : Int)).2)])] ⟨77, [(1, .d (.sl (.int .i64)) ((farkas_Prove.fn [law09_ge.fn (-3) [1], law09_ge.fn (2 : Int) [(-1)]] (1 : Int)).1)), (2, vi ((farkas_Prove.fn [law09_ge.fn (-3) [1], law09_ge.fn (2 : Int) [(-1)]] (1 : Int)).2))], []⟩ (by kernel_rfl) (AllP.of (by decide) (AllP.of (ok_law09_ge (-3) [1] (o1)) (AllP.of (by decide) (AllP.of (ok_law09_ge (2 : Int) [(-1)] (o2)) (AllP.of (by decide) (AllP.of (ok_farkas_Prove [law09_ge.fn (-3) [1], law09_ge.fn (2 : Int) [(-1)]] (1 : Int)) trivial)))))) ?_
  refine then_n (spine_c ?_)
  refine awp_abs (fun (x1 : (List Int) × Int) => ⟨77, [(1, .d (.sl (.int .i64)) x1.1), (2, vi x1.2)], []⟩) (farkas_Prove.fn [law09_ge.fn (-3) [1], law09_ge.fn (2 : Int) [(-1)]] (1 : Int)) ?_
  intro x1 hx1
  replace h := h x1 hx1
  refine awp_abs (fun (x2 : (List Int)) => ⟨77, [(1, .d (.sl (.int .i64)) x2), (2, vi x1.2)], []⟩) (x1.1) ?_
  intro x2 hx2
  replace h := h x2 hx2
  refine awp_abs (fun (x3 : Int) => ⟨77, [(1, .d (.sl (.int .i64)) x2), (2, vi x3)], []⟩) (x1.2) ?_
  intro x3 hx3
  replace h := h x3 hx3
  refine awp_spine ?_
  refine awp_rc tab [1, 2, 3] [] [] [0] [1 * 1 ≤ 16777216, 1 * 4 ≤ 16777216] ⟨77, [(1, .d (.sl (.int .i64)) x2), (2, vi x3), (3, .osl 0 0)], [.row t_api_Cond [(1, 0, ([2], (-1)))] 0]⟩ (by kernel_rfl) (AllP.of (by decide) (AllP.of (by decide) trivial)) ?_
  refine then_n (spine_c ?_)
  refine awp_spine ?_
  refine awp_gh hk [.freeze 0, .keep [1, 2, 3]] ⟨77, [(1, .d (.sl (.int .i64)) x2), (2, vi x3), (3, .d (.sl t_api_Cond) [(1, 0, ([2], (-1)))])], [.dead]⟩ (by kernel_rfl) ?_
  refine awp_rc tab [1, 2, 3, 5] [] [(1, .dat (.tup [.d (.sl (.int .i64)) ((farkas_Prove.fn [(1, 0, ([2], (-1)))] (1 : Int)).1), vi ((farkas_Prove.fn [(1, 0, ([2], (-1)))] (1 : Int)).2)]))] [] [OkC prog 11 [.d (.sl t_api_Cond) [(1, 0, ([2], (-1)))], vi (1 : Int)] (.tup [.d (.sl (.int .i64)) ((farkas_Prove.fn [(1, 0, ([2], (-1)))] (1 : Int)).1), vi ((farkas_Prove.fn [(1, 0, ([2], (-1)))] (1 : Int)).2)])] ⟨77, [(1, .d (.sl (.int .i64)) x2), (2, vi x3), (3, .d (.sl t_api_Cond) [(1, 0, ([2], (-1)))]), (5, vi ((farkas_Prove.fn [(1, 0, ([2], (-1)))] (1 : Int)).2))], [.dead]⟩ (by kernel_rfl) (AllP.of (ok_farkas_Prove [(1, 0, ([2], (-1)))] (1 : Int)) trivial) ?_
  refine then_n (spine_c ?_)
  refine awp_abs (fun (x4 : (List Int) × Int) => ⟨77, [(1, .d (.sl (.int .i64)) x2), (2, vi x3), (3, .d (.sl t_api_Cond) [(1, 0, ([2], (-1)))]), (5, vi x4.2)], [.dead]⟩) (farkas_Prove.fn [(1, 0, ([2], (-1)))] (1 : Int)) ?_
  intro x4 hx4
  replace h := h x4 hx4
  refine awp_abs (fun (x5 : Int) => ⟨77, [(1, .d (.sl (.int .i64)) x2), (2, vi x3), (3, .d (.sl t_api_Cond) [(1, 0, ([2], (-1)))]), (5, vi x5)], [.dead]⟩) (x4.2) ?_
  intro x5 hx5
  replace h := h x5 hx5
  refine awp_spine ?_
  refine awp_rc tab [1, 2, 5, 6, 7, 8] [] [(1, .dat (.tup [.d (.sl (.int .i64)) ((farkas_Inner.fn [(1, 0, ([2], (-1)))] (1 : Int)).1), vi ((farkas_Inner.fn [(1, 0, ([2], (-1)))] (1 : Int)).2.1), vi ((farkas_Inner.fn [(1, 0, ([2], (-1)))] (1 : Int)).2.2)]))] [] [OkC prog 13 [.d (.sl t_api_Cond) [(1, 0, ([2], (-1)))], vi (1 : Int)] (.tup [.d (.sl (.int .i64)) ((farkas_Inner.fn [(1, 0, ([2], (-1)))] (1 : Int)).1), vi ((farkas_Inner.fn [(1, 0, ([2], (-1)))] (1 : Int)).2.1), vi ((farkas_Inner.fn [(1, 0, ([2], (-1)))] (1 : Int)).2.2)])] ⟨77, [(1, .d (.sl (.int .i64)) x2), (2, vi x3), (5, vi x5), (6, .d (.sl (.int .i64)) ((farkas_Inner.fn [(1, 0, ([2], (-1)))] (1 : Int)).1)), (7, vi ((farkas_Inner.fn [(1, 0, ([2], (-1)))] (1 : Int)).2.1)), (8, vi ((farkas_Inner.fn [(1, 0, ([2], (-1)))] (1 : Int)).2.2))], [.dead]⟩ (by kernel_rfl) (AllP.of (ok_farkas_Inner [(1, 0, ([2], (-1)))] (1 : Int)) trivial) ?_
  refine then_n (spine_c ?_)
  refine awp_abs (fun (x6 : (List Int) × Int × Int) => ⟨77, [(1, .d (.sl (.int .i64)) x2), (2, vi x3), (5, vi x5), (6, .d (.sl (.int .i64)) x6.1), (7, vi x6.2.1), (8, vi x6.2.2)], [.dead]⟩) (farkas_Inner.fn [(1, 0, ([2], (-1)))] (1 : Int)) ?_
  intro x6 hx6
  replace h := h x6 hx6
  refine awp_abs (fun (x7 : (List Int)) => ⟨77, [(1, .d (.sl (.int .i64)) x2), (2, vi x3), (5, vi x5), (6, .d (.sl (.int .i64)) x7), (7, vi x6.2.1), (8, vi x6.2.2)], [.dead]⟩) (x6.1) ?_
  intro x7 hx7
  replace h := h x7 hx7
  refine awp_abs (fun (x8 : Int) => ⟨77, [(1, .d (.sl (.int .i64)) x2), (2, vi x3), (5, vi x5), (6, .d (.sl (.int .i64)) x7), (7, vi x8), (8, vi x6.2.2)], [.dead]⟩) (x6.2.1) ?_
  intro x8 hx8
  replace h := h x8 hx8
  refine awp_abs (fun (x9 : Int) => ⟨77, [(1, .d (.sl (.int .i64)) x2), (2, vi x3), (5, vi x5), (6, .d (.sl (.int .i64)) x7), (7, vi x8), (8, vi x9)], [.dead]⟩) (x6.2.2) ?_
  intro x9 hx9
  replace h := h x9 hx9
  refine awp_spine ?_
  obtain ⟨o3, o4, h⟩ := h
  refine awp_rc tab [1, 2, 5, 6, 7, 8, 9, 10] [] [(1, .dat (.agg [vi ((law09_ge.fn (0 : Int) [1, (-1)]).1), vi ((law09_ge.fn (0 : Int) [1, (-1)]).2.1), .d (.sl (.int .i64)) (((law09_ge.fn (0 : Int) [1, (-1)]).2.2).1), vi (((law09_ge.fn (0 : Int) [1, (-1)]).2.2).2)])), (3, .dat (.agg [vi ((law09_ge.fn (-1) [(-1), 1]).1), vi ((law09_ge.fn (-1) [(-1), 1]).2.1), .d (.sl (.int .i64)) (((law09_ge.fn (-1) [(-1), 1]).2.2).1), vi (((law09_ge.fn (-1) [(-1), 1]).2.2).2)])), (5, .dat (.tup [.d (.sl (.int .i64)) ((farkas_Prove.fn [law09_ge.fn (0 : Int) [1, (-1)], law09_ge.fn (-1) [(-1), 1]] (2 : Int)).1), vi ((farkas_Prove.fn [law09_ge.fn (0 : Int) [1, (-1)], law09_ge.fn (-1) [(-1), 1]] (2 : Int)).2)]))] [0, 2, 4] [2 * 1 ≤ 16777216, OkC prog 24 [vi (0 : Int), .d (.sl (.int .i64)) [1, (-1)]] (.agg [vi ((law09_ge.fn (0 : Int) [1, (-1)]).1), vi ((law09_ge.fn (0 : Int) [1, (-1)]).2.1), .d (.sl (.int .i64)) (((law09_ge.fn (0 : Int) [1, (-1)]).2.2).1), vi (((law09_ge.fn (0 : Int) [1, (-1)]).2.2).2)]), 2 * 1 ≤ 16777216, OkC prog 24 [vi (-1), .d (.sl (.int .i64)) [(-1), 1]] (.agg [vi ((law09_ge.fn (-1) [(-1), 1]).1), vi ((law09_ge.fn (-1) [(-1), 1]).2.1), .d (.sl (.int .i64)) (((law09_ge.fn (-1) [(-1), 1]).2.2).1), vi (((law09_ge.fn (-1) [(-1), 1]).2.2).2)]), 2 * 4 ≤ 16777216, OkC prog 11 [.d (.sl t_api_Cond) [law09_ge.fn (0 : Int) [1, (-1)], law09_ge.fn (-1) [(-1), 1]], vi (2 : Int)] (.tup [.d (.sl (.int .i64)) ((farkas_Prove.fn [law09_ge.fn (0 : Int) [1, (-1)], law09_ge.fn (-1) [(-1), 1]] (2 : Int)).1), vi ((farkas_Prove.fn [law09_ge.fn (0 : Int) [1, (-1)], law09_ge.fn (-1) [(-1), 1]] (2 : Int)).2)])] ⟨77, [(1, .d (.sl (.int .i64)) x2), (2, vi x3), (5, vi x5), (6, .d (.sl (.int .i64)) x7), (7, vi x8), (8, vi x9), (9, .d (.sl (.int .i64)) ((farkas_Prove.fn [law09_ge.fn (0 : Int) [1, (-1)], law09_ge.fn (-1) [(-1), 1]] (2 : Int)).1)), (10, vi ((farkas_Prove.fn [law09_ge.fn (0 : Int) [1, (-1)], law09_ge.fn (-1) [(-1), 1]] (2 : Int)).2))], [.dead]⟩ (by kernel_rfl) (AllP.of (by decide) (AllP.of (ok_law09_ge (0 : Int) [1, (-1)] (o3)) (AllP.of (by decide) (AllP.of (ok_law09_ge (-1) [(-1), 1] (o4)) (AllP.of (by decide) (AllP.of (ok_farkas_Prove [law09_ge.fn (0 : Int) [1, (-1)], law09_ge.fn (-1) [(-1), 1]] (2 : Int)) trivial)))))) ?_
  refine then_n (spine_c ?_)
  refine awp_abs (fun (x10 : (List Int) × Int) => ⟨77, [(1, .d (.sl (.int .i64)) x2), (2, vi x3), (5, vi x5), (6, .d (.sl (.int .i64)) x7), (7, vi x8), (8, vi x9), (9, .d (.sl (.int .i64)) x10.1), (10, vi x10.2)], [.dead]⟩) (farkas_Prove.fn [law09_ge.fn (0 : Int) [1, (-1)], law09_ge.fn (-1) [(-1), 1]] (2 : Int)) ?_
  intro x10 hx10
  replace h := h x10 hx10
  refine awp_abs (fun (x11 : (List Int)) => ⟨77, [(1, .d (.sl (.int .i64)) x2), (2, vi x3), (5, vi x5), (6, .d (.sl (.int .i64)) x7), (7, vi x8), (8, vi x9), (9, .d (.sl (.int .i64)) x11), (10, vi x10.2)], [.dead]⟩) (x10.1) ?_
  intro x11 hx11
  replace h := h x11 hx11
  refine awp_abs (fun (x12 : Int) => ⟨77, [(1, .d (.sl (.int .i64)) x2), (2, vi x3), (5, vi x5), (6, .d (.sl (.int .i64)) x7), (7, vi x8), (8, vi x9), (9, .d (.sl (.int .i64)) x11), (10, vi x12)], [.dead]⟩) (x10.2) ?_
  intro x12 hx12
  replace h := h x12 hx12
  refine awp_spine ?_
  obtain ⟨o5, o6, o7, h⟩ := h
  refine awp_rc tab [0] [] [(5, .dat (vb (law09_list.fn x2 [1, 1]))), (18, .dat (vb (law09_list.fn x7 [1]))), (31, .dat (vb (law09_list.fn x11 [1, 1])))] [] [(x3 == (0 : Int)) = true → 2 * 1 ≤ 16777216, (x3 == (0 : Int)) = true → (x3 == (0 : Int)) = true ∧ ((x3 == (0 : Int)) = true ∧ (OkC prog 15 [.d (.sl (.int .i64)) x2, .d (.sl (.int .i64)) [1, 1]] (vb (law09_list.fn x2 [1, 1])))), (x3 == (0 : Int)) = true → (x3 == (0 : Int)) = true, ((x3 == (0 : Int)) && (law09_list.fn x2 [1, 1])) = true → ((x3 == (0 : Int)) && (law09_list.fn x2 [1, 1])) = true ∧ True, ((x3 == (0 : Int)) && (law09_list.fn x2 [1, 1])) = true → ((x3 == (0 : Int)) && (law09_list.fn x2 [1, 1])) = true, (((x3 == (0 : Int)) && (law09_list.fn x2 [1, 1])) && (x5 == (5 : Int))) = true → (((x3 == (0 : Int)) && (law09_list.fn x2 [1, 1])) && (x5 == (5 : Int))) = true ∧ True, (((x3 == (0 : Int)) && (law09_list.fn x2 [1, 1])) && (x5 == (5 : Int))) = true → (((x3 == (0 : Int)) && (law09_list.fn x2 [1, 1])) && (x5 == (5 : Int))) = true, ((((x3 == (0 : Int)) && (law09_list.fn x2 [1, 1])) && (x5 == (5 : Int))) && (x9 == (0 : Int))) = true → 1 * 1 ≤ 16777216, ((((x3 == (0 : Int)) && (law09_list.fn x2 [1, 1])) && (x5 == (5 : Int))) && (x9 == (0 : Int))) = true → ((((x3 == (0 : Int)) && (law09_list.fn x2 [1, 1])) && (x5 == (5 : Int))) && (x9 == (0 : Int))) = true ∧ (((((x3 == (0 : Int)) && (law09_list.fn x2 [1, 1])) && (x5 == (5 : Int))) && (x9 == (0 : Int))) = true ∧ (OkC prog 15 [.d (.sl (.int .i64)) x7, .d (.sl (.int .i64)) [1]] (vb (law09_list.fn x7 [1])))), ((((x3 == (0 : Int)) && (law09_list.fn x2 [1, 1])) && (x5 == (5 : Int))) && (x9 == (0 : Int))) = true → ((((x3 == (0 : Int)) && (law09_list.fn x2 [1, 1])) && (x5 == (5 : Int))) && (x9 == (0 : Int))) = true, (((((x3 == (0 : Int)) && (law09_list.fn x2 [1, 1])) && (x5 == (5 : Int))) && (x9 == (0 : Int))) && (law09_list.fn x7 [1])) = true → (((((x3 == (0 : Int)) && (law09_list.fn x2 [1, 1])) && (x5 == (5 : Int))) && (x9 == (0 : Int))) && (law09_list.fn x7 [1])) = true ∧ True, (((((x3 == (0 : Int)) && (law09_list.fn x2 [1, 1])) && (x5 == (5 : Int))) && (x9 == (0 : Int))) && (law09_list.fn x7 [1])) = true → (((((x3 == (0 : Int)) && (law09_list.fn x2 [1, 1])) && (x5 == (5 : Int))) && (x9 == (0 : Int))) && (law09_list.fn x7 [1])) = true, ((((((x3 == (0 : Int)) && (law09_list.fn x2 [1, 1])) && (x5 == (5 : Int))) && (x9 == (0 : Int))) && (law09_list.fn x7 [1])) && (x8 == (2 : Int))) = true → ((((((x3 == (0 : Int)) && (law09_list.fn x2 [1, 1])) && (x5 == (5 : Int))) && (x9 == (0 : Int))) && (law09_list.fn x7 [1])) && (x8 == (2 : Int))) = true ∧ True, ((((((x3 == (0 : Int)) && (law09_list.fn x2 [1, 1])) && (x5 == (5 : Int))) && (x9 == (0 : Int))) && (law09_list.fn x7 [1])) && (x8 == (2 : Int))) = true → ((((((x3 == (0 : Int)) && (law09_list.fn x2 [1, 1])) && (x5 == (5 : Int))) && (x9 == (0 : Int))) && (law09_list.fn x7 [1])) && (x8 == (2 : Int))) = true, (((((((x3 == (0 : Int)) && (law09_list.fn x2 [1, 1])) && (x5 == (5 : Int))) && (x9 == (0 : Int))) && (law09_list.fn x7 [1])) && (x8 == (2 : Int))) && (x12 == (0 : Int))) = true → 2 * 1 ≤ 16777216, (((((((x3 == (0 : Int)) && (law09_list.fn x2 [1, 1])) && (x5 == (5 : Int))) && (x9 == (0 : Int))) && (law09_list.fn x7 [1])) && (x8 == (2 : Int))) && (x12 == (0 : Int))) = true → (((((((x3 == (0 : Int)) && (law09_list.fn x2 [1, 1])) && (x5 == (5 : Int))) && (x9 == (0 : Int))) && (law09_list.fn x7 [1])) && (x8 == (2 : Int))) && (x12 == (0 : Int))) = true ∧ ((((((((x3 == (0 : Int)) && (law09_list.fn x2 [1, 1])) && (x5 == (5 : Int))) && (x9 == (0 : Int))) && (law09_list.fn x7 [1])) && (x8 == (2 : Int))) && (x12 == (0 : Int))) = true ∧ (OkC prog 15 [.d (.sl (.int .i64)) x11, .d (.sl (.int .i64)) [1, 1]] (vb (law09_list.fn x11 [1, 1])))), (((((((x3 == (0 : Int)) && (law09_list.fn x2 [1, 1])) && (x5 == (5 : Int))) && (x9 == (0 : Int))) && (law09_list.fn x7 [1])) && (x8 == (2 : Int))) && (x12 == (0 : Int))) = true → (((((((x3 == (0 : Int)) && (law09_list.fn x2 [1, 1])) && (x5 == (5 : Int))) && (x9 == (0 : Int))) && (law09_list.fn x7 [1])) && (x8 == (2 : Int))) && (x12 == (0 : Int))) = true] ⟨77, [(0, vb ((((((((x3 == (0 : Int)) && (law09_list.fn x2 [1, 1])) && (x5 == (5 : Int))) && (x9 == (0 : Int))) && (law09_list.fn x7 [1])) && (x8 == (2 : Int))) && (x12 == (0 : Int))) && (law09_list.fn x11 [1, 1])))], [.dead]⟩ (by kernel_rfl) (AllP.of (fun hg => by decide) (AllP.of (fun hg => ⟨hg, hg, ok_law09_list x2 [1, 1] ((o5 hg))⟩) (AllP.of (fun hc => hc) (AllP.of (fun hg => ⟨hg, trivial⟩) (AllP.of (fun hc => hc) (AllP.of (fun hg => ⟨hg, trivial⟩) (AllP.of (fun hc => hc) (AllP.of (fun hg => by decide) (AllP.of (fun hg => ⟨hg, hg, ok_law09_list x7 [1] ((o6 hg))⟩) (AllP.of (fun hc => hc) (AllP.of (fun hg => ⟨hg, trivial⟩) (AllP.of (fun hc => hc) (AllP.of (fun hg => ⟨hg, trivial⟩) (AllP.of (fun hc => hc) (AllP.of (fun hg => by decide) (AllP.of (fun hg => ⟨hg, hg, ok_law09_list x11 [1, 1] ((o7 hg))⟩) (AllP.of (fun hc => hc) trivial))))))))))))))))) ?_
  refine then_n (spine_c ?_)
  refine awp_ret (then_r (then_r (then_r (then_r (then_r (then_r (then_r (?_))))))))
  exact ret_r (m := 0) (r := vb ((((((((x3 == (0 : Int)) && (law09_list.fn x2 [1, 1])) && (x5 == (5 : Int))) && (x9 == (0 : Int))) && (law09_list.fn x7 [1])) && (x8 == (2 : Int))) && (x12 == (0 : Int))) && (law09_list.fn x11 [1, 1]))) (objs := []) hk [.keep [0]] ⟨77, [(0, vb ((((((((x3 == (0 : Int)) && (law09_list.fn x2 [1, 1])) && (x5 == (5 : Int))) && (x9 == (0 : Int))) && (law09_list.fn x7 [1])) && (x8 == (2 : Int))) && (x12 == (0 : Int))) && (law09_list.fn x11 [1, 1])))], [.dead]⟩ (by kernel_rfl) (by kernel_rfl) (Nat.le_refl 0) ⟨(((((((x3 == (0 : Int)) && (law09_list.fn x2 [1, 1])) && (x5 == (5 : Int))) && (x9 == (0 : Int))) && (law09_list.fn x7 [1])) && (x8 == (2 : Int))) && (x12 == (0 : Int))) && (law09_list.fn x11 [1, 1]), rfl, rfl, h⟩
theorem ok_law09_awake (h : law09_awake.pre ) : OkC prog 10 [] (vb law09_awake.fn) :=
  OkC.of call_law09_awake ((walk_law09_awake  _ (law09_awake.spec  h)).mono fun r o ⟨x, hr, ho, hx⟩ => ⟨by rw [hr, hx], ho⟩) rfl rfl (fun _ => rfl)

noncomputable abbrev Blaw09_FarkasOne : Code := bodyOf Try.f7
theorem call_law09_FarkasOne : CallOk prog 7 := ⟨_, Try.func7, by kernel_rfl, by kernel_rfl⟩
theorem walk_law09_FarkasOne (a1 : (List api_Cond)) (a2 : Int) (Q : Bool → Prop) (h : law09_FarkasOne.wp a1 a2 Q) : VCalls prog 7 [.d (.sl t_api_Cond) a1, vi a2] [] (fun r o => ∃ x, r = vb x ∧ o = [] ∧ Q x) := by
  refine vcalls_body tab Try.func7 (c := (spine (subC [0] Blaw09_FarkasOne) [(spine (subC [1, 0, 0] Blaw09_FarkasOne) [(.cond (.tmp 19) (spine (subC [1, 0, 1, 0, 0] Blaw09_FarkasOne) [.ret]) .skip), (spine (subC [1, 1, 0] Blaw09_FarkasOne) [(spine (subC [1, 1, 1, 0] Blaw09_FarkasOne) [(spine (subC [1, 1, 1, 1, 0, 0] Blaw09_FarkasOne) [(.cond (.tmp 39) (spine (subC [1, 1, 1, 1, 0, 1, 0, 0] Blaw09_FarkasOne) [.ret]) .skip), (spine (subC [1, 1, 1, 1, 1, 0, 0] Blaw09_FarkasOne) [(.cond (.tmp 46) (spine (subC [1, 1, 1, 1, 1, 0, 1, 0, 0] Blaw09_FarkasOne) [.ret]) .skip), (spine (subC [1, 1, 1, 1, 1, 1, 0, 0] Blaw09_FarkasOne) [(.cond (.tmp 54) (spine (subC [1, 1, 1, 1, 1, 1, 0, 1, 0, 0] Blaw09_FarkasOne) [(spine (subC [1, 1, 1, 1, 1, 1, 0, 1, 0, 1, 0] Blaw09_FarkasOne) [.ret])]) .skip), (spine (subC [1, 1, 1, 1, 1, 1, 1, 0, 0] Blaw09_FarkasOne) [(.cond (.tmp 85) (spine (subC [1, 1, 1, 1, 1, 1, 1, 0, 1, 0, 0] Blaw09_FarkasOne) [.ret]) .skip), (spine (subC [1, 1, 1, 1, 1, 1, 1, 1, 0, 0] Blaw09_FarkasOne) [(.block 0 (.loop (spine (subC [1, 1, 1, 1, 1, 1, 1, 1, 0, 1, 0, 0, 0] Blaw09_FarkasOne) [(spine (.cond (.tmp 89) .skip (.exit 0)) [(spine (.block 1 (spine (subC [1, 1, 1, 1, 1, 1, 1, 1, 0, 1, 0, 0, 1, 1, 0, 0, 0] Blaw09_FarkasOne) [(spine (subC [1, 1, 1, 1, 1, 1, 1, 1, 0, 1, 0, 0, 1, 1, 0, 0, 1, 0] Blaw09_FarkasOne) [(spine (subC [1, 1, 1, 1, 1, 1, 1, 1, 0, 1, 0, 0, 1, 1, 0, 0, 1, 1, 0, 0] Blaw09_FarkasOne) [(.block 2 (.loop (spine (subC [1, 1, 1, 1, 1, 1, 1, 1, 0, 1, 0, 0, 1, 1, 0, 0, 1, 1, 0, 1, 0, 0, 0] Blaw09_FarkasOne) [(spine (.cond (.tmp 102) .skip (.exit 2)) [(spine (.block 3 (spine (subC [1, 1, 1, 1, 1, 1, 1, 1, 0, 1, 0, 0, 1, 1, 0, 0, 1, 1, 0, 1, 0, 0, 1, 1, 0, 0, 0] Blaw09_FarkasOne) [(subC [1, 1, 1, 1, 1, 1, 1, 1, 0, 1, 0, 0, 1, 1, 0, 0, 1, 1, 0, 1, 0, 0, 1, 1, 0, 0, 1] Blaw09_FarkasOne)])) [(subC [1, 1, 1, 1, 1, 1, 1, 1, 0, 1, 0, 0, 1, 1, 0, 0, 1, 1, 0, 1, 0, 0, 1, 1, 1] Blaw09_FarkasOne)])])]))), (spine (subC [1, 1, 1, 1, 1, 1, 1, 1, 0, 1, 0, 0, 1, 1, 0, 0, 1, 1, 1, 0] Blaw09_FarkasOne) [(.cond (.tmp 130) (spine (subC [1, 1, 1, 1, 1, 1, 1, 1, 0, 1, 0, 0, 1, 1, 0, 0, 1, 1, 1, 1, 0, 0] Blaw09_FarkasOne) [.ret]) .skip)])])])])) [(subC [1, 1, 1, 1, 1, 1, 1, 1, 0, 1, 0, 0, 1, 1, 1] Blaw09_FarkasOne)])])]))), (spine (subC [1, 1, 1, 1, 1, 1, 1, 1, 1, 0] Blaw09_FarkasOne) [.ret])])])])])])])])])])) (by kernel_rfl) (Nat.le_of_ble_eq_true (by kernel_rfl)) fun cx hd hi hk => ?_
  show AWp prog cx _ _ ⟨133, [(0, .d (.sl t_api_Cond) a1), (1, vi a2)], []⟩
  replace hk : cx.E.len = 0 := hk
  unfold law09_FarkasOne.wp at h
  refine awp_spine ?_
  refine awp_rc tab [0, 1] [] [] [] [] ⟨133, [(0, .d (.sl t_api_Cond) a1), (1, vi a2)], []⟩ (by kernel_rfl) (trivial) ?_
  refine then_n (spine_c ?_)
  refine awp_spine ?_
  refine awp_rc tab [0, 1, 19] [] [] [] [] ⟨133, [(0, .d (.sl t_api_Cond) a1), (1, vi a2), (19, vb (decide ((a1.length : Int) > (12 : Int))))], []⟩ (by kernel_rfl) (trivial) ?_
  refine then_n (spine_c ?_)
  refine awp_len 0 [] (T := t_api_Cond) (l := a1) (by kernel_rfl) fun hl => ?_
  replace h := h hl
  refine awp_cond (b := decide ((a1.length : Int) > (12 : Int))) (by kernel_rfl) (fun hb => ?_) (fun hb => ?_)
  · replace h := h.1 (of_decide_eq_true hb)
    refine awp_spine ?_
    obtain ⟨o1, h⟩ := h
    refine awp_rc tab [4] [] [(0, .dat (vb law09_awake.fn))] [] [OkC prog 10 [] (vb law09_awake.fn)] ⟨133, [(4, vb law09_awake.fn)], []⟩ (by kernel_rfl) (AllP.of (ok_law09_awake (o1)) trivial) ?_
    refine then_n (spine_c ?_)
    refine awp_ret (then_r (then_r (then_r (?_))))
    exact ret_r (m := 0) (r := vb law09_awake.fn) (objs := []) hk [.keep [4]] ⟨133, [(4, vb law09_awake.fn)], []⟩ (by kernel_rfl) (by kernel_rfl) (Nat.le_refl 0) ⟨law09_awake.fn, rfl, rfl, h⟩
  · replace h := h.2 (of_decide_eq_false hb)
    refine awp_skip (then_n (spine_c ?_))
    refine awp_spine ?_
    refine awp_rc tab [0, 1, 5, 6] [] [(2, .dat (.tup [.d (.sl (.int .i64)) ((farkas_Prove.fn a1 a2).1), vi ((farkas_Prove.fn a1 a2).2)]))] [] [OkC prog 11 [.d (.sl t_api_Cond) a1, vi a2] (.tup [.d (.sl (.int .i64)) ((farkas_Prove.fn a1 a2).1), vi ((farkas_Prove.fn a1 a2).2)])] ⟨133, [(0, .d (.sl t_api_Cond) a1), (1, vi a2), (5, .d (.sl (.int .i64)) ((farkas_Prove.fn a1 a2).1)), (6, vi ((farkas_Prove.fn a1 a2).2))], []⟩ (by kernel_rfl) (AllP.of (ok_farkas_Prove a1 a2) trivial) ?_
    refine then_n (spine_c ?_)
    refine awp_abs (fun (x1 : (List Int) × Int) => ⟨133, [(0, .d (.sl t_api_Cond) a1), (1, vi a2), (5, .d (.sl (.int .i64)) x1.1), (6, vi x1.2)], []⟩) (farkas_Prove.fn a1 a2) ?_
    intro x1 hx1
    replace h := h x1 hx1
    refine awp_spine ?_
    refine awp_rc tab [0, 1, 5, 6, 7, 8, 9] [] [(2, .dat (.tup [.d (.sl (.int .i64)) ((farkas_Inner.fn a1 a2).1), vi ((farkas_Inner.fn a1 a2).2.1), vi ((farkas_Inner.fn a1 a2).2.2)]))] [] [OkC prog 13 [.d (.sl t_api_Cond) a1, vi a2] (.tup [.d (.sl (.int .i64)) ((farkas_Inner.fn a1 a2).1), vi ((farkas_Inner.fn a1 a2).2.1), vi ((farkas_Inner.fn a1 a2).2.2)])] ⟨133, [(0, .d (.sl t_api_Cond) a1), (1, vi a2), (5, .d (.sl (.int .i64)) x1.1), (6, vi x1.2), (7, .d (.sl (.int .i64)) ((farkas_Inner.fn a1 a2).1)), (8, vi ((farkas_Inner.fn a1 a2).2.1)), (9, vi ((farkas_Inner.fn a1 a2).2.2))], []⟩ (by kernel_rfl) (AllP.of (ok_farkas_Inner a1 a2) trivial) ?_
    refine then_n (spine_c ?_)
    refine awp_abs (fun (x2 : (List Int) × Int × Int) => ⟨133, [(0, .d (.sl t_api_Cond) a1), (1, vi a2), (5, .d (.sl (.int .i64)) x1.1), (6, vi x1.2), (7, .d (.sl (.int .i64)) x2.1), (8, vi x2.2.1), (9, vi x2.2.2)], []⟩) (farkas_Inner.fn a1 a2) ?_
    intro x2 hx2
    replace h := h x2 hx2
    refine awp_spine ?_
    refine awp_rc tab [0, 1, 5, 6, 7, 8, 9, 39] [] [] [] [(!(x1.2 == (3 : Int))) = true → (!(x1.2 == (3 : Int))) = true ∧ True, (x1.2 == (3 : Int)) = false → (!(x1.2 == (3 : Int))) = true] ⟨133, [(0, .d (.sl t_api_Cond) a1), (1, vi a2), (5, .d (.sl (.int .i64)) x1.1), (6, vi x1.2), (7, .d (.sl (.int .i64)) x2.1), (8, vi x2.2.1), (9, vi x2.2.2), (39, vb ((x1.2 == (3 : Int)) || (x2.2.2 == (3 : Int))))], []⟩ (by kernel_rfl) (AllP.of (fun hg => ⟨hg, trivial⟩) (AllP.of (fun hc => not_f hc) trivial)) ?_
    refine then_n (spine_c ?_)
    refine awp_cond (b := (x1.2 == (3 : Int)) || (x2.2.2 == (3 : Int))) (by kernel_rfl) (fun hb => ?_) (fun hb => ?_)
    · replace h := h.1 (hb)
      refine awp_spine ?_
      obtain ⟨o2, h⟩ := h
      refine awp_rc tab [4] [] [(0, .dat (vb law09_awake.fn))] [] [OkC prog 10 [] (vb law09_awake.fn)] ⟨133, [(4, vb law09_awake.fn)], []⟩ (by kernel_rfl) (AllP.of (ok_law09_awake (o2)) trivial) ?_
      refine then_n (spine_c ?_)
      refine awp_ret (then_r (then_r (then_r (then_r (then_r (then_r (?_)))))))
      exact ret_r (m := 0) (r := vb law09_awake.fn) (objs := []) hk [.keep [4]] ⟨133, [(4, vb law09_awake.fn)], []⟩ (by kernel_rfl) (by kernel_rfl) (Nat.le_refl 0) ⟨law09_awake.fn, rfl, rfl, h⟩
    · replace h := h.2 (hb)
      refine awp_skip (then_n (spine_c ?_))
      refine awp_spine ?_
      refine awp_rc tab [0, 1, 5, 6, 7, 8, 9, 46] [] [] [] [(x1.2 != (0 : Int)) = true → (x1.2 != (0 : Int)) = true ∧ True, (x1.2 != (0 : Int)) = true → (x1.2 != (0 : Int)) = true] ⟨133, [(0, .d (.sl t_api_Cond) a1), (1, vi a2), (5, .d (.sl (.int .i64)) x1.1), (6, vi x1.2), (7, .d (.sl (.int .i64)) x2.1), (8, vi x2.2.1), (9, vi x2.2.2), (46, vb ((x1.2 != (0 : Int)) && (x1.2 != (5 : Int))))], []⟩ (by kernel_rfl) (AllP.of (fun hg => ⟨hg, trivial⟩) (AllP.of (fun hc => hc) trivial)) ?_
      refine then_n (spine_c ?_)
      refine awp_cond (b := (x1.2 != (0 : Int)) && (x1.2 != (5 : Int))) (by kernel_rfl) (fun hb => ?_) (fun hb => ?_)
      · replace h := h.1 (hb)
        refine awp_spine ?_
        obtain ⟨o3, h⟩ := h
        refine awp_rc tab [4] [] [(4, .dat (vb law09_awake.fn))] [] [(x1.2 == x2.2.2) = true → OkC prog 10 [] (vb law09_awake.fn), (x1.2 == x2.2.2) = true → (x1.2 == x2.2.2) = true] ⟨133, [(4, vb ((x1.2 == x2.2.2) && law09_awake.fn))], []⟩ (by kernel_rfl) (AllP.of (fun hg => ok_law09_awake ((o3 hg))) (AllP.of (fun hc => hc) trivial)) ?_
        refine then_n (spine_c ?_)
        refine awp_ret (then_r (then_r (then_r (then_r (then_r (then_r (then_r (?_))))))))
        exact ret_r (m := 0) (r := vb ((x1.2 == x2.2.2) && law09_awake.fn)) (objs := []) hk [.keep [4]] ⟨133, [(4, vb ((x1.2 == x2.2.2) && law09_awake.fn))], []⟩ (by kernel_rfl) (by kernel_rfl) (Nat.le_refl 0) ⟨(x1.2 == x2.2.2) && law09_awake.fn, rfl, rfl, h⟩
      · replace h := h.2 (hb)
        refine awp_skip (then_n (spine_c ?_))
        refine awp_spine ?_
        refine awp_rc tab [0, 1, 5, 7, 8, 9, 54] [] [] [] [] ⟨133, [(0, .d (.sl t_api_Cond) a1), (1, vi a2), (5, .d (.sl (.int .i64)) x1.1), (7, .d (.sl (.int .i64)) x2.1), (8, vi x2.2.1), (9, vi x2.2.2), (54, vb (x1.2 == (0 : Int)))], []⟩ (by kernel_rfl) (trivial) ?_
        refine then_n (spine_c ?_)
        refine awp_cond (b := x1.2 == (0 : Int)) (by kernel_rfl) (fun hb => ?_) (fun hb => ?_)
        · replace h := h.1 (eq_of_beq hb)
          refine awp_spine ?_
          obtain ⟨o4, h⟩ := h
          refine awp_rc tab [9, 10, 11] [] [(3, .dat (.tup [vb ((farkas_Check.fn a1 a2 x1.1).1), vi ((farkas_Check.fn a1 a2 x1.1).2)]))] [] [OkC prog 20 [.d (.sl t_api_Cond) a1, vi a2, .d (.sl (.int .i64)) x1.1] (.tup [vb ((farkas_Check.fn a1 a2 x1.1).1), vi ((farkas_Check.fn a1 a2 x1.1).2)])] ⟨133, [(9, vi x2.2.2), (10, vb ((farkas_Check.fn a1 a2 x1.1).1)), (11, vi ((farkas_Check.fn a1 a2 x1.1).2))], []⟩ (by kernel_rfl) (AllP.of (ok_farkas_Check a1 a2 x1.1 (o4)) trivial) ?_
          refine then_n (spine_c ?_)
          refine awp_abs (fun (x3 : Bool × Int) => ⟨133, [(9, vi x2.2.2), (10, vb x3.1), (11, vi x3.2)], []⟩) (farkas_Check.fn a1 a2 x1.1) ?_
          intro x3 hx3
          replace h := h x3 hx3
          refine awp_spine ?_
          obtain ⟨o5, h⟩ := h
          refine awp_rc tab [4] [] [(10, .dat (vb law09_awake.fn))] [] [(x2.2.2 == (5 : Int)) = true → (x2.2.2 == (5 : Int)) = true, ((x2.2.2 == (5 : Int)) && x3.1) = true → ((x2.2.2 == (5 : Int)) && x3.1) = true ∧ True, ((x2.2.2 == (5 : Int)) && x3.1) = true → ((x2.2.2 == (5 : Int)) && x3.1) = true, (((x2.2.2 == (5 : Int)) && x3.1) && (x3.2 == (0 : Int))) = true → OkC prog 10 [] (vb law09_awake.fn), (((x2.2.2 == (5 : Int)) && x3.1) && (x3.2 == (0 : Int))) = true → (((x2.2.2 == (5 : Int)) && x3.1) && (x3.2 == (0 : Int))) = true] ⟨133, [(4, vb ((((x2.2.2 == (5 : Int)) && x3.1) && (x3.2 == (0 : Int))) && law09_awake.fn))], []⟩ (by kernel_rfl) (AllP.of (fun hc => hc) (AllP.of (fun hg => ⟨hg, trivial⟩) (AllP.of (fun hc => hc) (AllP.of (fun hg => ok_law09_awake ((o5 hg))) (AllP.of (fun hc => hc) trivial))))) ?_
          refine then_n (spine_c ?_)
          refine awp_ret (then_r (then_r (then_r (then_r (then_r (then_r (then_r (then_r (then_r (?_))))))))))
          exact ret_r (m := 0) (r := vb ((((x2.2.2 == (5 : Int)) && x3.1) && (x3.2 == (0 : Int))) && law09_awake.fn)) (objs := []) hk [.keep [4]] ⟨133, [(4, vb ((((x2.2.2 == (5 : Int)) && x3.1) && (x3.2 == (0 : Int))) && law09_awake.fn))], []⟩ (by kernel_rfl) (by kernel_rfl) (Nat.le_refl 0) ⟨(((x2.2.2 == (5 : Int)) && x3.1) && (x3.2 == (0 : Int))) && law09_awake.fn, rfl, rfl, h⟩
        · replace h := h.2 (ne_of_beq_false hb)
          refine awp_skip (then_n (spine_c ?_))
          refine awp_spine ?_
          refine awp_rc tab [0, 7, 8, 85] [] [] [] [(!(x2.2.2 != (0 : Int))) = true → (!(x2.2.2 != (0 : Int))) = true ∧ True, (!(x2.2.2 != (0 : Int))) = true → (!(x2.2.2 != (0 : Int))) = true ∧ ((!(x2.2.2 != (0 : Int))) = true ∧ True), (x2.2.2 != (0 : Int)) = false → (!(x2.2.2 != (0 : Int))) = true, (!((x2.2.2 != (0 : Int)) || ((x2.1.length : Int) != a2))) = true → (!((x2.2.2 != (0 : Int)) || ((x2.1.length : Int) != a2))) = true ∧ True, ((x2.2.2 != (0 : Int)) || ((x2.1.length : Int) != a2)) = false → (!((x2.2.2 != (0 : Int)) || ((x2.1.length : Int) != a2))) = true] ⟨133, [(0, .d (.sl t_api_Cond) a1), (7, .d (.sl (.int .i64)) x2.1), (8, vi x2.2.1), (85, vb (((x2.2.2 != (0 : Int)) || ((x2.1.length : Int) != a2)) || (decide (x2.2.1 < (1 : Int)))))], []⟩ (by kernel_rfl) (AllP.of (fun hg => ⟨hg, trivial⟩) (AllP.of (fun hg => ⟨hg, hg, trivial⟩) (AllP.of (fun hc => not_f hc) (AllP.of (fun hg => ⟨hg, trivial⟩) (AllP.of (fun hc => not_f hc) trivial))))) ?_
          refine then_n (spine_c ?_)
          refine awp_cond (b := ((x2.2.2 != (0 : Int)) || ((x2.1.length : Int) != a2)) || (decide (x2.2.1 < (1 : Int)))) (by kernel_rfl) (fun hb => ?_) (fun hb => ?_)
          · replace h := h.1 (hb)
            refine awp_spine ?_
            refine awp_rc tab [4] [] [] [] [] ⟨133, [(4, vb false)], []⟩ (by kernel_rfl) (trivial) ?_
            refine then_n (spine_c ?_)
            refine awp_ret (then_r (then_r (then_r (then_r (then_r (then_r (then_r (then_r (then_r (?_))))))))))
            exact ret_r (m := 0) (r := vb false) (objs := []) hk [.keep [4]] ⟨133, [(4, vb false)], []⟩ (by kernel_rfl) (by kernel_rfl) (Nat.le_refl 0) ⟨false, rfl, rfl, h⟩
          · replace h := h.2 (hb)
            refine awp_skip (then_n (spine_c ?_))
            refine awp_spine ?_
            refine awp_rc tab [7, 8, 86, 87, 88] [] [] [] [] ⟨133, [(7, .d (.sl (.int .i64)) x2.1), (8, vi x2.2.1), (86, .d (.sl t_api_Cond) a1), (87, vi (a1.length : Int)), (88, vi (0 : Int))], []⟩ (by kernel_rfl) (trivial) ?_
            refine then_n (spine_c ?_)
            refine awp_len 86 [] (T := t_api_Cond) (l := a1) (by kernel_rfl) fun hl => ?_
            replace h := h hl
            refine awp_block ?_
            obtain ⟨I7, ⟨n7a, hz7⟩, hI7⟩ := h
            refine awp_loopN (fun n s => ∃ (x5 : Int), I7 n x5 ∧ s = ⟨133, [(7, .d (.sl (.int .i64)) x2.1), (8, vi x2.2.1), (86, .d (.sl t_api_Cond) a1), (87, vi (a1.length : Int)), (88, vi x5)], []⟩) (n := n7a) (s0 := ⟨133, [(7, .d (.sl (.int .i64)) x2.1), (8, vi x2.2.1), (86, .d (.sl t_api_Cond) a1), (87, vi (a1.length : Int)), (88, vi (0 : Int))], []⟩) (wk_ghosts hk (l := [.keep [7, 8, 86, 87, 88], .keep [7, 8, 86, 87, 88], .keep [7, 8, 86, 87, 88], .keep [7, 8, 86, 87, 88]]) (by kernel_rfl)) ⟨0, hz7, rfl⟩ ?_
            rintro n7 s ⟨x5, hx7, rfl⟩
            have h := hI7 n7 x5 hx7
            refine awp_spine ?_
            refine awp_rc tab [7, 8, 86, 87, 88, 89] [] [] [] [] ⟨133, [(7, .d (.sl (.int .i64)) x2.1), (8, vi x2.2.1), (86, .d (.sl t_api_Cond) a1), (87, vi (a1.length : Int)), (88, vi x5), (89, vb (decide (x5 < (a1.length : Int))))], []⟩ (by kernel_rfl) (trivial) ?_
            refine then_n (spine_c ?_)
            refine awp_spine ?_
            refine awp_cond (b := decide (x5 < (a1.length : Int))) (by kernel_rfl) (fun hb => ?_) (fun hb => ?_)
            · replace h := h.1 (of_decide_eq_true hb)
              refine awp_skip (then_n (spine_c ?_))
              refine awp_spine ?_
              refine awp_block ?_
              refine awp_spine ?_
              obtain ⟨o6, h⟩ := h
              refine awp_rc tab [7, 8, 13, 86, 87, 88] [] [] [] [(0 : Int) ≤ x5 ∧ x5 < (a1.length : Int)] ⟨133, [(7, .d (.sl (.int .i64)) x2.1), (8, vi x2.2.1), (13, .ref 0 0 0), (86, .d (.sl t_api_Cond) a1), (87, vi (a1.length : Int)), (88, vi x5)], [.box [vi ((a1.getD (Int.toNat x5) d_api_Cond).1), vi ((a1.getD (Int.toNat x5) d_api_Cond).2.1), .d (.sl (.int .i64)) (((a1.getD (Int.toNat x5) d_api_Cond).2.2).1), vi (((a1.getD (Int.toNat x5) d_api_Cond).2.2).2)]]⟩ (by kernel_rfl) (AllP.of (o6) trivial) ?_
              refine then_n (spine_c ?_)
              refine awp_abs (fun (x8 : api_Cond) => ⟨133, [(7, .d (.sl (.int .i64)) x2.1), (8, vi x2.2.1), (13, .ref 0 0 0), (86, .d (.sl t_api_Cond) a1), (87, vi (a1.length : Int)), (88, vi x5)], [.box [vi x8.1, vi x8.2.1, .d (.sl (.int .i64)) x8.2.2.1, vi x8.2.2.2]]⟩) (a1.getD (Int.toNat x5) d_api_Cond) ?_
              intro x8 hx8
              replace h := h x8 hx8
              refine awp_spine ?_
              obtain ⟨o7, h⟩ := h
              refine awp_rc tab [7, 8, 13, 14, 86, 87, 88] [] [] [] [-9223372036854775808 ≤ x8.2.2.2 * x2.2.1 ∧ x8.2.2.2 * x2.2.1 ≤ 9223372036854775807] ⟨133, [(7, .d (.sl (.int .i64)) x2.1), (8, vi x2.2.1), (13, .ref 0 0 0), (14, vi (x8.2.2.2 * x2.2.1)), (86, .d (.sl t_api_Cond) a1), (87, vi (a1.length : Int)), (88, vi x5)], [.box [vi x8.1, vi x8.2.1, .d (.sl (.int .i64)) x8.2.2.1, vi x8.2.2.2]]⟩ (by kernel_rfl) (AllP.of (o7) trivial) ?_
              refine then_n (spine_c ?_)
              refine awp_spine ?_
              refine awp_rc tab [7, 8, 13, 14, 86, 87, 88, 99, 100, 101] [] [] [] [] ⟨133, [(7, .d (.sl (.int .i64)) x2.1), (8, vi x2.2.1), (13, .ref 0 0 0), (14, vi (x8.2.2.2 * x2.2.1)), (86, .d (.sl t_api_Cond) a1), (87, vi (a1.length : Int)), (88, vi x5), (99, .d (.sl (.int .i64)) x8.2.2.1), (100, vi (x8.2.2.1.length : Int)), (101, vi (0 : Int))], [.box [vi x8.1, vi x8.2.1, .d (.sl (.int .i64)) x8.2.2.1, vi x8.2.2.2]]⟩ (by kernel_rfl) (trivial) ?_
              refine then_n (spine_c ?_)
              refine awp_len 99 [] (T := (.int .i64)) (l := x8.2.2.1) (by kernel_rfl) fun hl => ?_
              replace h := h hl
              refine awp_block ?_
              obtain ⟨I15, ⟨n15a, hz15⟩, hI15⟩ := h
              refine awp_loopN (fun n s => ∃ (x11 : Int) (x12 : Int), I15 n x11 x12 ∧ s = ⟨133, [(7, .d (.sl (.int .i64)) x2.1), (8, vi x2.2.1), (13, .ref 0 0 0), (14, vi x11), (86, .d (.sl t_api_Cond) a1), (87, vi (a1.length : Int)), (88, vi x5), (99, .d (.sl (.int .i64)) x8.2.2.1), (100, vi (x8.2.2.1.length : Int)), (101, vi x12)], [.box [vi x8.1, vi x8.2.1, .d (.sl (.int .i64)) x8.2.2.1, vi x8.2.2.2]]⟩) (n := n15a) (s0 := ⟨133, [(7, .d (.sl (.int .i64)) x2.1), (8, vi x2.2.1), (13, .ref 0 0 0), (14, vi (x8.2.2.2 * x2.2.1)), (86, .d (.sl t_api_Cond) a1), (87, vi (a1.length : Int)), (88, vi x5), (99, .d (.sl (.int .i64)) x8.2.2.1), (100, vi (x8.2.2.1.length : Int)), (101, vi (0 : Int))], [.box [vi x8.1, vi x8.2.1, .d (.sl (.int .i64)) x8.2.2.1, vi x8.2.2.2]]⟩) (wk_ghosts hk (l := [.keep [7, 8, 13, 14, 86, 87, 88, 99, 100, 101], .keep [7, 8, 13, 14, 86, 87, 88, 99, 100, 101], .keep [7, 8, 13, 14, 86, 87, 88, 99, 100, 101], .keep [7, 8, 13, 14, 86, 87, 88, 99, 100, 101]]) (by kernel_rfl)) ⟨x8.2.2.2 * x2.2.1, 0, hz15, rfl⟩ ?_
              rintro n15 s ⟨x11, x12, hx15, rfl⟩
              have h := hI15 n15 x11 x12 hx15
              refine awp_spine ?_
              refine awp_rc tab [7, 8, 13, 14, 86, 87, 88, 99, 100, 101, 102] [] [] [] [] ⟨133, [(7, .d (.sl (.int .i64)) x2.1), (8, vi x2.2.1), (13, .ref 0 0 0), (14, vi x11), (86, .d (.sl t_api_Cond) a1), (87, vi (a1.length : Int)), (88, vi x5), (99, .d (.sl (.int .i64)) x8.2.2.1), (100, vi (x8.2.2.1.length : Int)), (101, vi x12), (102, vb (decide (x12 < (x8.2.2.1.length : Int))))], [.box [vi x8.1, vi x8.2.1, .d (.sl (.int .i64)) x8.2.2.1, vi x8.2.2.2]]⟩ (by kernel_rfl) (trivial) ?_
              refine then_n (spine_c ?_)
              refine awp_spine ?_
              refine awp_cond (b := decide (x12 < (x8.2.2.1.length : Int))) (by kernel_rfl) (fun hb => ?_) (fun hb => ?_)
              · replace h := h.1 (of_decide_eq_true hb)
                refine awp_skip (then_n (spine_c ?_))
                refine awp_spine ?_
                refine awp_block ?_
                refine awp_spine ?_
                obtain ⟨o8, h⟩ := h
                refine awp_rc tab [7, 8, 13, 14, 15, 16, 86, 87, 88, 99, 100, 101] [] [] [] [(0 : Int) ≤ x12 ∧ x12 < (x8.2.2.1.length : Int)] ⟨133, [(7, .d (.sl (.int .i64)) x2.1), (8, vi x2.2.1), (13, .ref 0 0 0), (14, vi x11), (15, vi x12), (16, vi (gI x8.2.2.1 x12)), (86, .d (.sl t_api_Cond) a1), (87, vi (a1.length : Int)), (88, vi x5), (99, .d (.sl (.int .i64)) x8.2.2.1), (100, vi (x8.2.2.1.length : Int)), (101, vi x12)], [.box [vi x8.1, vi x8.2.1, .d (.sl (.int .i64)) x8.2.2.1, vi x8.2.2.2]]⟩ (by kernel_rfl) (AllP.of (o8) trivial) ?_
                refine then_n (spine_c ?_)
                obtain ⟨o9, o10, o11, h⟩ := h
                refine awp_rc tab [7, 8, 13, 14, 86, 87, 88, 99, 100, 101] [] [] [] [(0 : Int) ≤ x12 ∧ x12 < (x2.1.length : Int), -9223372036854775808 ≤ (gI x8.2.2.1 x12) * (gI x2.1 x12) ∧ (gI x8.2.2.1 x12) * (gI x2.1 x12) ≤ 9223372036854775807, -9223372036854775808 ≤ x11 + ((gI x8.2.2.1 x12) * (gI x2.1 x12)) ∧ x11 + ((gI x8.2.2.1 x12) * (gI x2.1 x12)) ≤ 9223372036854775807] ⟨133, [(7, .d (.sl (.int .i64)) x2.1), (8, vi x2.2.1), (13, .ref 0 0 0), (14, vi (x11 + ((gI x8.2.2.1 x12) * (gI x2.1 x12)))), (86, .d (.sl t_api_Cond) a1), (87, vi (a1.length : Int)), (88, vi x5), (99, .d (.sl (.int .i64)) x8.2.2.1), (100, vi (x8.2.2.1.length : Int)), (101, vi x12)], [.box [vi x8.1, vi x8.2.1, .d (.sl (.int .i64)) x8.2.2.1, vi x8.2.2.2]]⟩ (by kernel_rfl) (AllP.of (o9) (AllP.of (o10) (AllP.of (o11) trivial))) ?_
                refine then_n (spine_e (blk_n (then_n (spine_c ?_))))
                refine awp_abs (fun (x16 : Int) => ⟨133, [(7, .d (.sl (.int .i64)) x2.1), (8, vi x2.2.1), (13, .ref 0 0 0), (14, vi x16), (86, .d (.sl t_api_Cond) a1), (87, vi (a1.length : Int)), (88, vi x5), (99, .d (.sl (.int .i64)) x8.2.2.1), (100, vi (x8.2.2.1.length : Int)), (101, vi x12)], [.box [vi x8.1, vi x8.2.1, .d (.sl (.int .i64)) x8.2.2.1, vi x8.2.2.2]]⟩) (x11 + ((gI x8.2.2.1 x12) * (gI x2.1 x12))) ?_
                intro x16 hx16
                replace h := h x16 hx16
                obtain ⟨o12, h⟩ := h
                refine awp_rc tab [7, 8, 13, 14, 86, 87, 88, 99, 100, 101] [] [] [] [-9223372036854775808 ≤ x12 + (1 : Int) ∧ x12 + (1 : Int) ≤ 9223372036854775807] ⟨133, [(7, .d (.sl (.int .i64)) x2.1), (8, vi x2.2.1), (13, .ref 0 0 0), (14, vi x16), (86, .d (.sl t_api_Cond) a1), (87, vi (a1.length : Int)), (88, vi x5), (99, .d (.sl (.int .i64)) x8.2.2.1), (100, vi (x8.2.2.1.length : Int)), (101, vi (x12 + (1 : Int)))], [.box [vi x8.1, vi x8.2.1, .d (.sl (.int .i64)) x8.2.2.1, vi x8.2.2.2]]⟩ (by kernel_rfl) (AllP.of (o12) trivial) ?_
                refine then_n (spine_e (then_n (spine_e (then_n (spine_e (then_n (?_)))))))
                obtain ⟨m, hm, h⟩ := h
                exact ⟨m, hm, ⟨133, [(7, .d (.sl (.int .i64)) x2.1), (8, vi x2.2.1), (13, .ref 0 0 0), (14, vi x16), (86, .d (.sl t_api_Cond) a1), (87, vi (a1.length : Int)), (88, vi x5), (99, .d (.sl (.int .i64)) x8.2.2.1), (100, vi (x8.2.2.1.length : Int)), (101, vi (x12 + (1 : Int)))], [.box [vi x8.1, vi x8.2.1, .d (.sl (.int .i64)) x8.2.2.1, vi x8.2.2.2]]⟩, wk_ghosts hk (l := [.keep [7, 8, 13, 14, 86, 87, 88, 99, 100, 101], .keep [7, 8, 13, 14, 86, 87, 88, 99, 100, 101], .keep [7, 8, 13, 14, 86, 87, 88, 99, 100, 101]]) (by kernel_rfl), x16, x12 + (1 : Int), h, rfl⟩
              · replace h := h.2 (of_decide_eq_false hb)
                refine awp_exit (then_x (then_x (then_x (blk_h (then_n (spine_c ?_))))))
                refine awp_spine ?_
                refine awp_rc tab [7, 8, 86, 87, 88, 130] [] [] [] [(x8.1 == (0 : Int)) = true → (x8.1 == (0 : Int)) = true ∧ True, (x8.1 == (0 : Int)) = true → (x8.1 == (0 : Int)) = true, (!((x8.1 == (0 : Int)) && (decide (x11 < (0 : Int))))) = true → (!((x8.1 == (0 : Int)) && (decide (x11 < (0 : Int))))) = true ∧ True, (!((x8.1 == (0 : Int)) && (decide (x11 < (0 : Int))))) = true → (!((x8.1 == (0 : Int)) && (decide (x11 < (0 : Int))))) = true ∧ True, (!((x8.1 == (0 : Int)) && (decide (x11 < (0 : Int))))) = true → (!((x8.1 == (0 : Int)) && (decide (x11 < (0 : Int))))) = true ∧ True, ((!((x8.1 == (0 : Int)) && (decide (x11 < (0 : Int))))) && (x8.1 == (1 : Int))) = true → ((!((x8.1 == (0 : Int)) && (decide (x11 < (0 : Int))))) && (x8.1 == (1 : Int))) = true ∧ True, (!((x8.1 == (0 : Int)) && (decide (x11 < (0 : Int))))) = true → (!((x8.1 == (0 : Int)) && (decide (x11 < (0 : Int))))) = true ∧ ((x8.1 == (1 : Int)) = true → ((!((x8.1 == (0 : Int)) && (decide (x11 < (0 : Int))))) && (x8.1 == (1 : Int))) = true), ((x8.1 == (0 : Int)) && (decide (x11 < (0 : Int)))) = false → (!((x8.1 == (0 : Int)) && (decide (x11 < (0 : Int))))) = true] ⟨133, [(7, .d (.sl (.int .i64)) x2.1), (8, vi x2.2.1), (86, .d (.sl t_api_Cond) a1), (87, vi (a1.length : Int)), (88, vi x5), (130, vb (((x8.1 == (0 : Int)) && (decide (x11 < (0 : Int)))) || ((x8.1 == (1 : Int)) && (x11 != (0 : Int)))))], [.box [vi x8.1, vi x8.2.1, .d (.sl (.int .i64)) x8.2.2.1, vi x8.2.2.2]]⟩ (by kernel_rfl) (AllP.of (fun hg => ⟨hg, trivial⟩) (AllP.of (fun hc => hc) (AllP.of (fun hg => ⟨hg, trivial⟩) (AllP.of (fun hg => ⟨hg, trivial⟩) (AllP.of (fun hg => ⟨hg, trivial⟩) (AllP.of (fun hg => ⟨hg, trivial⟩) (AllP.of (fun hg => ⟨hg, fun hc => and_t hg hc⟩) (AllP.of (fun hc => not_f hc) trivial)))))))) ?_
                refine then_n (spine_c ?_)
                refine awp_cond (b := ((x8.1 == (0 : Int)) && (decide (x11 < (0 : Int)))) || ((x8.1 == (1 : Int)) && (x11 != (0 : Int)))) (by kernel_rfl) (fun hb => ?_) (fun hb => ?_)
                · replace h := h.1 (hb)
                  refine awp_spine ?_
                  refine awp_rc tab [4] [] [] [] [] ⟨133, [(4, vb false)], [.box [vi x8.1, vi x8.2.1, .d (.sl (.int .i64)) x8.2.2.1, vi x8.2.2.2]]⟩ (by kernel_rfl) (trivial) ?_
                  refine then_n (spine_c ?_)
                  refine awp_ret (then_r (then_r (then_r (then_r (then_r (blk_r (then_r (then_r (then_r (then_r (blk_r (then_r (then_r (then_r (then_r (then_r (then_r (then_r (then_r (then_r (?_)))))))))))))))))))))
                  exact ret_r (m := 0) (r := vb false) (objs := []) hk [.keep [4]] ⟨133, [(4, vb false)], [.box [vi x8.1, vi x8.2.1, .d (.sl (.int .i64)) x8.2.2.1, vi x8.2.2.2]]⟩ (by kernel_rfl) (by kernel_rfl) (Nat.le_refl 0) ⟨false, rfl, rfl, h⟩
                · replace h := h.2 (hb)
                  refine awp_skip (then_n (spine_e (then_n (spine_e (then_n (spine_e (then_n (spine_e (blk_n (then_n (spine_c ?_)))))))))))
                  obtain ⟨o13, h⟩ := h
                  refine awp_rc tab [7, 8, 86, 87, 88] [] [] [] [-9223372036854775808 ≤ x5 + (1 : Int) ∧ x5 + (1 : Int) ≤ 9223372036854775807] ⟨133, [(7, .d (.sl (.int .i64)) x2.1), (8, vi x2.2.1), (86, .d (.sl t_api_Cond) a1), (87, vi (a1.length : Int)), (88, vi (x5 + (1 : Int)))], [.box [vi x8.1, vi x8.2.1, .d (.sl (.int .i64)) x8.2.2.1, vi x8.2.2.2]]⟩ (by kernel_rfl) (AllP.of (o13) trivial) ?_
                  refine then_n (spine_e (then_n (spine_e (then_n (spine_e (then_n (?_)))))))
                  obtain ⟨m, hm, h⟩ := h
                  exact ⟨m, hm, ⟨133, [(7, .d (.sl (.int .i64)) x2.1), (8, vi x2.2.1), (86, .d (.sl t_api_Cond) a1), (87, vi (a1.length : Int)), (88, vi (x5 + (1 : Int)))], []⟩, wk_ghosts hk (l := [.keep [7, 8, 86, 87, 88], .keep [7, 8, 86, 87, 88], .cut 0, .keep [7, 8, 86, 87, 88]]) (by kernel_rfl), x5 + (1 : Int), h, rfl⟩
            · replace h := h.2 (of_decide_eq_false hb)
              refine awp_exit (then_x (then_x (then_x (blk_h (then_n (spine_c ?_))))))
              refine awp_spine ?_
              obtain ⟨o14, h⟩ := h
              refine awp_rc tab [4] [] [(0, .dat (vb law09_awake.fn))] [] [OkC prog 10 [] (vb law09_awake.fn)] ⟨133, [(4, vb law09_awake.fn)], []⟩ (by kernel_rfl) (AllP.of (ok_law09_awake (o14)) trivial) ?_
              refine then_n (spine_c ?_)
              refine awp_ret (then_r (then_r (then_r (then_r (then_r (then_r (then_r (then_r (then_r (then_r (?_)))))))))))
              exact ret_r (m := 0) (r := vb law09_awake.fn) (objs := []) hk [.keep [4]] ⟨133, [(4, vb law09_awake.fn)], []⟩ (by kernel_rfl) (by kernel_rfl) (Nat.le_refl 0) ⟨law09_awake.fn, rfl, rfl, h⟩
theorem ok_law09_FarkasOne (a1 : (List api_Cond)) (a2 : Int) : OkC prog 7 [.d (.sl t_api_Cond) a1, vi a2] (vb (law09_FarkasOne.fn a1 a2)) :=
  OkC.of call_law09_FarkasOne ((walk_law09_FarkasOne a1 a2 _ (law09_FarkasOne.spec a1 a2)).mono fun r o ⟨x, hr, ho, hx⟩ => ⟨by rw [hr, hx], ho⟩) rfl rfl (fun _ => rfl)

end Go.Proofs.Ytlncingakpelbaa
