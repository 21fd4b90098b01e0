/- Part of a proof that a law of the program holds for every input: printed by a program of this work. No conditions. -/
import Derived.Test.YtlncingakpelbaaK4
namespace Go.Proofs.Ytlncingakpelbaa
open Go
set_option linter.unusedVariables false
set_option maxHeartbeats 4000000

noncomputable abbrev Bfarkas_fraction_less : Code := bodyOf Try.f61
theorem call_farkas_fraction_less : CallOk prog 61 := ⟨_, Try.func61, by kernel_rfl, by kernel_rfl⟩
theorem walk_farkas_fraction_less (a1 : farkas_fraction) (a2 : farkas_fraction) (Q : Bool → Prop) (h : farkas_fraction_less.wp a1 a2 Q) : VCalls prog 61 [.agg [vi a1.1, vi a1.2], .agg [vi a2.1, vi a2.2]] [] (fun r o => ∃ x, r = vb x ∧ o = [] ∧ Q x) := by
  refine vcalls_body tab Try.func61 (c := (spine (subC [0] Bfarkas_fraction_less) [(spine (subC [1, 0, 0] Bfarkas_fraction_less) [(.cond (.tmp 15) (spine (subC [1, 0, 1, 0, 0] Bfarkas_fraction_less) [.ret]) .skip), (spine (subC [1, 1, 0] Bfarkas_fraction_less) [(spine (subC [1, 1, 1, 0] Bfarkas_fraction_less) [(spine (subC [1, 1, 1, 1, 0, 0] Bfarkas_fraction_less) [(.cond (.tmp 41) (subC [1, 1, 1, 1, 0, 1, 0] Bfarkas_fraction_less) .skip), (spine (subC [1, 1, 1, 1, 1, 0] Bfarkas_fraction_less) [.ret])])])])])])) (by kernel_rfl) (Nat.le_of_ble_eq_true (by kernel_rfl)) fun cx hd hi hk => ?_
  show AWp prog cx _ _ ⟨59, [(0, .agg [vi a1.1, vi a1.2]), (1, .agg [vi a2.1, vi a2.2])], []⟩
  replace hk : cx.E.len = 0 := hk
  unfold farkas_fraction_less.wp at h
  refine awp_spine ?_
  refine awp_rc tab [2, 3] [] [] [0, 1] [] ⟨59, [(2, .er [vi a1.1, vi a1.2]), (3, .er [vi a2.1, vi a2.2])], []⟩ (by kernel_rfl) (trivial) ?_
  refine then_n (spine_c ?_)
  refine awp_spine ?_
  refine awp_rc tab [2, 3, 15] [] [] [] [] ⟨59, [(2, .er [vi a1.1, vi a1.2]), (3, .er [vi a2.1, vi a2.2]), (15, vb ((decide (a1.1 < (0 : Int))) != (decide (a2.1 < (0 : Int)))))], []⟩ (by kernel_rfl) (trivial) ?_
  refine then_n (spine_c ?_)
  refine awp_cond (b := (decide (a1.1 < (0 : Int))) != (decide (a2.1 < (0 : Int)))) (by kernel_rfl) (fun hb => ?_) (fun hb => ?_)
  · replace h := h.1 (bne_iff_ne.mp hb)
    refine awp_spine ?_
    refine awp_rc tab [4] [] [] [] [] ⟨59, [(4, vb (decide (a1.1 < (0 : Int))))], []⟩ (by kernel_rfl) (trivial) ?_
    refine then_n (spine_c ?_)
    refine awp_ret (then_r (then_r (then_r (?_))))
    exact ret_r (m := 0) (r := vb (decide (a1.1 < (0 : Int)))) (objs := []) hk [.keep [4]] ⟨59, [(4, vb (decide (a1.1 < (0 : Int))))], []⟩ (by kernel_rfl) (by kernel_rfl) (Nat.le_refl 0) ⟨decide (a1.1 < (0 : Int)), rfl, rfl, h⟩
  · replace h := h.2 (bne_f hb)
    refine awp_skip (then_n (spine_c ?_))
    refine awp_spine ?_
    obtain ⟨o1, o2, h⟩ := h
    refine awp_dr tab mixed [2, 3, 5, 6] [5] [(2, .dat (.d (.int .u64) (farkas_size.fn a1.1))), (6, .dat (.tup [.d (.int .u64) ((math_bits_Mul64.fn (farkas_size.fn a1.1) (IntKind.wrap .u64 a2.2)).1), .d (.int .u64) ((math_bits_Mul64.fn (farkas_size.fn a1.1) (IntKind.wrap .u64 a2.2)).2)]))] [] ⟨[[], [0], [0, 1], [], [3], [3, 4], [0, 1, 2, 3, 4, 5], [0, 1, 2, 3, 4, 5, 6], [0, 1, 2, 3, 4, 5, 6, 7], [0, 1, 2, 3, 4, 5, 6, 7], [0, 1, 2, 3, 4, 5, 6, 7, 8], [0, 1, 2, 3, 4, 5, 6, 7, 8, 9, 10]], [.er [vi a1.1, vi a1.2], vi a1.1, .d (.int .u64) (farkas_size.fn a1.1), .er [vi a2.2], vi a2.2, .d (.int .u64) (IntKind.wrap .u64 a2.2), .tup [.d (.int .u64) ((math_bits_Mul64.fn (farkas_size.fn a1.1) (IntKind.wrap .u64 a2.2)).1), .d (.int .u64) ((math_bits_Mul64.fn (farkas_size.fn a1.1) (IntKind.wrap .u64 a2.2)).2)], .tup [.d (.int .u64) ((math_bits_Mul64.fn (farkas_size.fn a1.1) (IntKind.wrap .u64 a2.2)).1), .d (.int .u64) ((math_bits_Mul64.fn (farkas_size.fn a1.1) (IntKind.wrap .u64 a2.2)).2)], .d (.int .u64) ((math_bits_Mul64.fn (farkas_size.fn a1.1) (IntKind.wrap .u64 a2.2)).1), .d (.int .u64) ((math_bits_Mul64.fn (farkas_size.fn a1.1) (IntKind.wrap .u64 a2.2)).2), .d (.int .u64) ((math_bits_Mul64.fn (farkas_size.fn a1.1) (IntKind.wrap .u64 a2.2)).1), .d (.int .u64) ((math_bits_Mul64.fn (farkas_size.fn a1.1) (IntKind.wrap .u64 a2.2)).2)], [none, none, some (OkC prog 89 [vi a1.1] (.d (.int .u64) (farkas_size.fn a1.1))), none, none, none, some (OkC prog 88 [.d (.int .u64) (farkas_size.fn a1.1), .d (.int .u64) (IntKind.wrap .u64 a2.2)] (.tup [.d (.int .u64) ((math_bits_Mul64.fn (farkas_size.fn a1.1) (IntKind.wrap .u64 a2.2)).1), .d (.int .u64) ((math_bits_Mul64.fn (farkas_size.fn a1.1) (IntKind.wrap .u64 a2.2)).2)])), none, none, none, none, none], [], [([], [])]⟩ ⟨59, [(2, .er [vi a1.1, vi a1.2]), (3, .er [vi a2.1, vi a2.2]), (5, .d (.int .u64) ((math_bits_Mul64.fn (farkas_size.fn a1.1) (IntKind.wrap .u64 a2.2)).1)), (6, .d (.int .u64) ((math_bits_Mul64.fn (farkas_size.fn a1.1) (IntKind.wrap .u64 a2.2)).2))], []⟩ (by kernel_rfl) (AllO.n (AllO.n (AllO.s (ok_farkas_size a1.1 (o1)) (AllO.n (AllO.n (AllO.n (AllO.s (ok_math_bits_Mul64 (farkas_size.fn a1.1) (IntKind.wrap .u64 a2.2) (o2)) (AllO.n (AllO.n (AllO.n (AllO.n (AllO.n (AllO.e))))))))))))) ?_
    refine then_n (spine_c ?_)
    refine awp_abs (fun (x1 : Int) => ⟨59, [(2, .er [vi a1.1, vi a1.2]), (3, .er [vi a2.1, vi a2.2]), (5, .d (.int .u64) ((math_bits_Mul64.fn x1 (IntKind.wrap .u64 a2.2)).1)), (6, .d (.int .u64) ((math_bits_Mul64.fn x1 (IntKind.wrap .u64 a2.2)).2))], []⟩) (farkas_size.fn a1.1) ?_
    intro x1 hx1
    replace h := h x1 hx1
    refine awp_abs (fun (x2 : Int × Int) => ⟨59, [(2, .er [vi a1.1, vi a1.2]), (3, .er [vi a2.1, vi a2.2]), (5, .d (.int .u64) x2.1), (6, .d (.int .u64) x2.2)], []⟩) (math_bits_Mul64.fn x1 (IntKind.wrap .u64 a2.2)) ?_
    intro x2 hx2
    replace h := h x2 hx2
    refine awp_abs (fun (x3 : Int) => ⟨59, [(2, .er [vi a1.1, vi a1.2]), (3, .er [vi a2.1, vi a2.2]), (5, .d (.int .u64) x3), (6, .d (.int .u64) x2.2)], []⟩) (x2.1) ?_
    intro x3 hx3
    replace h := h x3 hx3
    refine awp_abs (fun (x4 : Int) => ⟨59, [(2, .er [vi a1.1, vi a1.2]), (3, .er [vi a2.1, vi a2.2]), (5, .d (.int .u64) x3), (6, .d (.int .u64) x4)], []⟩) (x2.2) ?_
    intro x4 hx4
    replace h := h x4 hx4
    refine awp_spine ?_
    obtain ⟨o3, o4, h⟩ := h
    refine awp_dr tab mixed [2, 5, 6, 7, 8] [5] [(2, .dat (.d (.int .u64) (farkas_size.fn a2.1))), (6, .dat (.tup [.d (.int .u64) ((math_bits_Mul64.fn (farkas_size.fn a2.1) (IntKind.wrap .u64 a1.2)).1), .d (.int .u64) ((math_bits_Mul64.fn (farkas_size.fn a2.1) (IntKind.wrap .u64 a1.2)).2)]))] [] ⟨[[], [0], [0, 1], [], [3], [3, 4], [0, 1, 2, 3, 4, 5], [0, 1, 2, 3, 4, 5, 6], [0, 1, 2, 3, 4, 5, 6, 7], [0, 1, 2, 3, 4, 5, 6, 7], [0, 1, 2, 3, 4, 5, 6, 7, 8], [0, 1, 2, 3, 4, 5, 6, 7, 8, 9, 10]], [.er [vi a2.1, vi a2.2], vi a2.1, .d (.int .u64) (farkas_size.fn a2.1), .er [vi a1.2], vi a1.2, .d (.int .u64) (IntKind.wrap .u64 a1.2), .tup [.d (.int .u64) ((math_bits_Mul64.fn (farkas_size.fn a2.1) (IntKind.wrap .u64 a1.2)).1), .d (.int .u64) ((math_bits_Mul64.fn (farkas_size.fn a2.1) (IntKind.wrap .u64 a1.2)).2)], .tup [.d (.int .u64) ((math_bits_Mul64.fn (farkas_size.fn a2.1) (IntKind.wrap .u64 a1.2)).1), .d (.int .u64) ((math_bits_Mul64.fn (farkas_size.fn a2.1) (IntKind.wrap .u64 a1.2)).2)], .d (.int .u64) ((math_bits_Mul64.fn (farkas_size.fn a2.1) (IntKind.wrap .u64 a1.2)).1), .d (.int .u64) ((math_bits_Mul64.fn (farkas_size.fn a2.1) (IntKind.wrap .u64 a1.2)).2), .d (.int .u64) ((math_bits_Mul64.fn (farkas_size.fn a2.1) (IntKind.wrap .u64 a1.2)).1), .d (.int .u64) ((math_bits_Mul64.fn (farkas_size.fn a2.1) (IntKind.wrap .u64 a1.2)).2)], [none, none, some (OkC prog 89 [vi a2.1] (.d (.int .u64) (farkas_size.fn a2.1))), none, none, none, some (OkC prog 88 [.d (.int .u64) (farkas_size.fn a2.1), .d (.int .u64) (IntKind.wrap .u64 a1.2)] (.tup [.d (.int .u64) ((math_bits_Mul64.fn (farkas_size.fn a2.1) (IntKind.wrap .u64 a1.2)).1), .d (.int .u64) ((math_bits_Mul64.fn (farkas_size.fn a2.1) (IntKind.wrap .u64 a1.2)).2)])), none, none, none, none, none], [], [([], [])]⟩ ⟨59, [(2, .er [vi a1.1, vi a1.2]), (5, .d (.int .u64) x3), (6, .d (.int .u64) x4), (7, .d (.int .u64) ((math_bits_Mul64.fn (farkas_size.fn a2.1) (IntKind.wrap .u64 a1.2)).1)), (8, .d (.int .u64) ((math_bits_Mul64.fn (farkas_size.fn a2.1) (IntKind.wrap .u64 a1.2)).2))], []⟩ (by kernel_rfl) (AllO.n (AllO.n (AllO.s (ok_farkas_size a2.1 (o3)) (AllO.n (AllO.n (AllO.n (AllO.s (ok_math_bits_Mul64 (farkas_size.fn a2.1) (IntKind.wrap .u64 a1.2) (o4)) (AllO.n (AllO.n (AllO.n (AllO.n (AllO.n (AllO.e))))))))))))) ?_
    refine then_n (spine_c ?_)
    refine awp_abs (fun (x5 : Int) => ⟨59, [(2, .er [vi a1.1, vi a1.2]), (5, .d (.int .u64) x3), (6, .d (.int .u64) x4), (7, .d (.int .u64) ((math_bits_Mul64.fn x5 (IntKind.wrap .u64 a1.2)).1)), (8, .d (.int .u64) ((math_bits_Mul64.fn x5 (IntKind.wrap .u64 a1.2)).2))], []⟩) (farkas_size.fn a2.1) ?_
    intro x5 hx5
    replace h := h x5 hx5
    refine awp_abs (fun (x6 : Int × Int) => ⟨59, [(2, .er [vi a1.1, vi a1.2]), (5, .d (.int .u64) x3), (6, .d (.int .u64) x4), (7, .d (.int .u64) x6.1), (8, .d (.int .u64) x6.2)], []⟩) (math_bits_Mul64.fn x5 (IntKind.wrap .u64 a1.2)) ?_
    intro x6 hx6
    replace h := h x6 hx6
    refine awp_abs (fun (x7 : Int) => ⟨59, [(2, .er [vi a1.1, vi a1.2]), (5, .d (.int .u64) x3), (6, .d (.int .u64) x4), (7, .d (.int .u64) x7), (8, .d (.int .u64) x6.2)], []⟩) (x6.1) ?_
    intro x7 hx7
    replace h := h x7 hx7
    refine awp_abs (fun (x8 : Int) => ⟨59, [(2, .er [vi a1.1, vi a1.2]), (5, .d (.int .u64) x3), (6, .d (.int .u64) x4), (7, .d (.int .u64) x7), (8, .d (.int .u64) x8)], []⟩) (x6.2) ?_
    intro x8 hx8
    replace h := h x8 hx8
    refine awp_spine ?_
    refine awp_rc tab [5, 6, 7, 8, 41] [] [] [] [] ⟨59, [(5, .d (.int .u64) x3), (6, .d (.int .u64) x4), (7, .d (.int .u64) x7), (8, .d (.int .u64) x8), (41, vb (decide (a1.1 < (0 : Int))))], []⟩ (by kernel_rfl) (trivial) ?_
    refine then_n (spine_c ?_)
    obtain ⟨R13, hA13, hB13⟩ := h
    refine awp_meet (fun s' => ∃ (x9 : Int) (x10 : Int) (x11 : Int) (x12 : Int), R13 x9 x10 x11 x12 ∧ Wk cx s' ⟨59, [(5, .d (.int .u64) x9), (6, .d (.int .u64) x10), (7, .d (.int .u64) x11), (8, .d (.int .u64) x12)], []⟩) ?_ ?_
    · have h := hA13
      refine awp_cond (b := decide (a1.1 < (0 : Int))) (by kernel_rfl) (fun hb => ?_) (fun hb => ?_)
      · replace h := h.1 (of_decide_eq_true hb)
        refine awp_rc tab [5, 6, 7, 8] [] [] [] [] ⟨59, [(5, .d (.int .u64) x7), (6, .d (.int .u64) x8), (7, .d (.int .u64) x3), (8, .d (.int .u64) x4)], []⟩ (by kernel_rfl) (trivial) ?_
        refine then_n (?_)
        exact ⟨x7, x8, x3, x4, h, wk_ghosts hk (l := [.keep [5, 6, 7, 8], .keep [5, 6, 7, 8], .keep [5, 6, 7, 8]]) (by kernel_rfl)⟩
      · replace h := h.2 (of_decide_eq_false hb)
        refine awp_skip (then_n (?_))
        exact ⟨x3, x4, x7, x8, h, wk_ghosts hk (l := [.keep [5, 6, 7, 8], .keep [5, 6, 7, 8], .keep [5, 6, 7, 8]]) (by kernel_rfl)⟩
    · rintro s' ⟨x9, x10, x11, x12, hx13, hw13⟩
      have h := hB13 x9 x10 x11 x12 hx13
      refine spine_c (awp_wk hw13 ?_)
      refine awp_spine ?_
      refine awp_rc tab [4] [2, 6, 10] [] [] [(!(decide (x9 < x11))) = true → (!(decide (x9 < x11))) = true ∧ ((!(decide (x9 < x11))) = true ∧ True), (!(decide (x9 < x11))) = true → (!(decide (x9 < x11))) = true ∧ True, ((!(decide (x9 < x11))) && (x9 == x11)) = true → ((!(decide (x9 < x11))) && (x9 == x11)) = true ∧ (((!(decide (x9 < x11))) && (x9 == x11)) = true ∧ True), (!(decide (x9 < x11))) = true → (!(decide (x9 < x11))) = true ∧ ((x9 == x11) = true → ((!(decide (x9 < x11))) && (x9 == x11)) = true), (decide (x9 < x11)) = false → (!(decide (x9 < x11))) = true] ⟨59, [(4, vb ((decide (x9 < x11)) || ((x9 == x11) && (decide (x10 < x12)))))], []⟩ (by kernel_rfl) (AllP.of (fun hg => ⟨hg, hg, trivial⟩) (AllP.of (fun hg => ⟨hg, trivial⟩) (AllP.of (fun hg => ⟨hg, hg, trivial⟩) (AllP.of (fun hg => ⟨hg, fun hc => and_t hg hc⟩) (AllP.of (fun hc => not_f hc) trivial))))) ?_
      refine then_n (spine_c ?_)
      refine awp_ret (then_r (then_r (then_r (then_r (then_r (then_r (?_)))))))
      exact ret_r (m := 0) (r := vb ((decide (x9 < x11)) || ((x9 == x11) && (decide (x10 < x12))))) (objs := []) hk [.keep [4]] ⟨59, [(4, vb ((decide (x9 < x11)) || ((x9 == x11) && (decide (x10 < x12)))))], []⟩ (by kernel_rfl) (by kernel_rfl) (Nat.le_refl 0) ⟨(decide (x9 < x11)) || ((x9 == x11) && (decide (x10 < x12))), rfl, rfl, h⟩
theorem ok_farkas_fraction_less (a1 : farkas_fraction) (a2 : farkas_fraction) (h : farkas_fraction_less.pre a1 a2) : OkC prog 61 [.agg [vi a1.1, vi a1.2], .agg [vi a2.1, vi a2.2]] (vb (farkas_fraction_less.fn a1 a2)) :=
  OkC.of call_farkas_fraction_less ((walk_farkas_fraction_less a1 a2 _ (farkas_fraction_less.spec a1 a2 h)).mono fun r o ⟨x, hr, ho, hx⟩ => ⟨by rw [hr, hx], ho⟩) rfl rfl (fun _ => rfl)

noncomputable abbrev Bfarkas_point_bound : Code := bodyOf Try.f60
theorem call_farkas_point_bound : CallOk prog 60 := ⟨_, Try.func60, by kernel_rfl, by kernel_rfl⟩
theorem walk_farkas_point_bound (a1 : farkas_point) (a2 : farkas_row) (a3 : Int) (Q : farkas_fraction → Prop) (h : farkas_point_bound.wp a1 a2 a3 Q) : VCalls prog 60 [.agg [.d (.sl (.int .i64)) a1.1, vi a1.2], .agg [vb a2.1, .d (.sl (.int .i64)) a2.2], vi a3] [] (fun r o => ∃ x, r = .agg [vi x.1, vi x.2] ∧ o = [] ∧ Q x) := by
  refine vcalls_body tab Try.func60 (c := (spine (subC [0] Bfarkas_point_bound) [(spine (subC [1, 0] Bfarkas_point_bound) [(spine (subC [1, 1, 0] Bfarkas_point_bound) [(spine (subC [1, 1, 1, 0, 0] Bfarkas_point_bound) [(.block 0 (.loop (spine (subC [1, 1, 1, 0, 1, 0, 0, 0] Bfarkas_point_bound) [(spine (.cond (.tmp 26) .skip (.exit 0)) [(spine (.block 1 (spine (subC [1, 1, 1, 0, 1, 0, 0, 1, 1, 0, 0, 0] Bfarkas_point_bound) [(subC [1, 1, 1, 0, 1, 0, 0, 1, 1, 0, 0, 1] Bfarkas_point_bound)])) [(subC [1, 1, 1, 0, 1, 0, 0, 1, 1, 1] Bfarkas_point_bound)])])]))), (spine (subC [1, 1, 1, 1, 0, 0] Bfarkas_point_bound) [(.cond (.tmp 45) (spine (subC [1, 1, 1, 1, 0, 1, 0, 0] Bfarkas_point_bound) [.ret]) .skip), (spine (subC [1, 1, 1, 1, 1, 0] Bfarkas_point_bound) [.ret])])])])])])) (by kernel_rfl) (Nat.le_of_ble_eq_true (by kernel_rfl)) fun cx hd hi hk => ?_
  show AWp prog cx _ _ ⟨62, [(0, .agg [.d (.sl (.int .i64)) a1.1, vi a1.2]), (1, .agg [vb a2.1, .d (.sl (.int .i64)) a2.2]), (2, vi a3)], []⟩
  replace hk : cx.E.len = 0 := hk
  unfold farkas_point_bound.wp at h
  refine awp_spine ?_
  refine awp_rc tab [2, 3, 4, 6] [] [] [0, 1] [] ⟨62, [(2, vi a3), (3, .er [.d (.sl (.int .i64)) a1.1, vi a1.2]), (4, .er [vb a2.1, .d (.sl (.int .i64)) a2.2]), (6, .ref 0 0 0)], [.box [vi (0 : Int), vi (0 : Int)]]⟩ (by kernel_rfl) (trivial) ?_
  refine then_n (spine_c ?_)
  refine awp_spine ?_
  refine awp_rc tab [2, 3, 4, 6, 7] [] [] [] [] ⟨62, [(2, vi a3), (3, .er [.d (.sl (.int .i64)) a1.1, vi a1.2]), (4, .er [vb a2.1, .d (.sl (.int .i64)) a2.2]), (6, .ref 0 0 0), (7, vi (a1.1.length : Int))], [.box [vi (0 : Int), vi (0 : Int)]]⟩ (by kernel_rfl) (trivial) ?_
  refine then_n (spine_c ?_)
  refine awp_len 3 [0] (T := (.int .i64)) (l := a1.1) (by kernel_rfl) fun hl => ?_
  replace h := h hl
  refine awp_spine ?_
  obtain ⟨o1, o2, h⟩ := h
  refine awp_dr tab mixed [3, 4, 6, 7, 8] [] [] [] ⟨[[], [0], [], [0, 1, 2], [0, 1, 2, 3], [], [5], [0, 1, 2, 3, 4, 5, 6], [0, 1, 2, 3, 4, 5, 6, 7]], [.er [.d (.sl (.int .i64)) a2.2], .d (.sl (.int .i64)) a2.2, vi a3, .er [vi (gI a2.2 a3)], vi (gI a2.2 a3), .er [vi a1.2], vi a1.2, vi ((gI a2.2 a3) * a1.2), vi ((gI a2.2 a3) * a1.2)], [none, none, none, some ((0 : Int) ≤ a3 ∧ a3 < (a2.2.length : Int)), none, none, none, some (-9223372036854775808 ≤ (gI a2.2 a3) * a1.2 ∧ (gI a2.2 a3) * a1.2 ≤ 9223372036854775807), none], [], [([], [.box [vi (0 : Int), vi (0 : Int)]])]⟩ ⟨62, [(3, .er [.d (.sl (.int .i64)) a1.1, vi a1.2]), (4, .er [vb a2.1, .d (.sl (.int .i64)) a2.2]), (6, .ref 0 0 0), (7, vi (a1.1.length : Int)), (8, vi ((gI a2.2 a3) * a1.2))], [.box [vi (0 : Int), vi (0 : Int)]]⟩ (by kernel_rfl) (AllO.n (AllO.n (AllO.n (AllO.s (o1) (AllO.n (AllO.n (AllO.n (AllO.s (o2) (AllO.n (AllO.e)))))))))) ?_
  refine then_n (spine_c ?_)
  refine awp_spine ?_
  refine awp_rc tab [4, 6, 7, 8, 23, 24, 25] [] [] [] [] ⟨62, [(4, .er [vb a2.1, .d (.sl (.int .i64)) a2.2]), (6, .ref 0 0 0), (7, vi (a1.1.length : Int)), (8, vi ((gI a2.2 a3) * a1.2)), (23, .d (.sl (.int .i64)) a1.1), (24, vi (a1.1.length : Int)), (25, vi (0 : Int))], [.box [vi (0 : Int), vi (0 : Int)]]⟩ (by kernel_rfl) (trivial) ?_
  refine then_n (spine_c ?_)
  refine awp_len 23 [] (T := (.int .i64)) (l := a1.1) (by kernel_rfl) fun hl => ?_
  replace h := h hl
  refine awp_block ?_
  obtain ⟨I7, ⟨n7a, hz7⟩, hI7⟩ := h
  refine awp_loopN (fun n s => ∃ (x3 : Int) (x4 : Int), I7 n x3 x4 ∧ s = ⟨62, [(4, .er [vb a2.1, .d (.sl (.int .i64)) a2.2]), (6, .ref 0 0 0), (7, vi (a1.1.length : Int)), (8, vi x3), (23, .d (.sl (.int .i64)) a1.1), (24, vi (a1.1.length : Int)), (25, vi x4)], [.box [vi (0 : Int), vi (0 : Int)]]⟩) (n := n7a) (s0 := ⟨62, [(4, .er [vb a2.1, .d (.sl (.int .i64)) a2.2]), (6, .ref 0 0 0), (7, vi (a1.1.length : Int)), (8, vi ((gI a2.2 a3) * a1.2)), (23, .d (.sl (.int .i64)) a1.1), (24, vi (a1.1.length : Int)), (25, vi (0 : Int))], [.box [vi (0 : Int), vi (0 : Int)]]⟩) (wk_ghosts hk (l := [.keep [4, 6, 7, 8, 23, 24, 25], .keep [4, 6, 7, 8, 23, 24, 25], .keep [4, 6, 7, 8, 23, 24, 25], .keep [4, 6, 7, 8, 23, 24, 25]]) (by kernel_rfl)) ⟨(gI a2.2 a3) * a1.2, 0, hz7, rfl⟩ ?_
  rintro n7 s ⟨x3, x4, hx7, rfl⟩
  have h := hI7 n7 x3 x4 hx7
  refine awp_spine ?_
  refine awp_rc tab [4, 6, 7, 8, 23, 24, 25, 26] [] [] [] [] ⟨62, [(4, .er [vb a2.1, .d (.sl (.int .i64)) a2.2]), (6, .ref 0 0 0), (7, vi (a1.1.length : Int)), (8, vi x3), (23, .d (.sl (.int .i64)) a1.1), (24, vi (a1.1.length : Int)), (25, vi x4), (26, vb (decide (x4 < (a1.1.length : Int))))], [.box [vi (0 : Int), vi (0 : Int)]]⟩ (by kernel_rfl) (trivial) ?_
  refine then_n (spine_c ?_)
  refine awp_spine ?_
  refine awp_cond (b := decide (x4 < (a1.1.length : Int))) (by kernel_rfl) (fun hb => ?_) (fun hb => ?_)
  · replace h := h.1 (of_decide_eq_true hb)
    refine awp_skip (then_n (spine_c ?_))
    refine awp_spine ?_
    refine awp_block ?_
    refine awp_spine ?_
    obtain ⟨o3, h⟩ := h
    refine awp_rc tab [4, 6, 7, 8, 9, 10, 23, 24, 25] [] [] [] [(0 : Int) ≤ x4 ∧ x4 < (a1.1.length : Int)] ⟨62, [(4, .er [vb a2.1, .d (.sl (.int .i64)) a2.2]), (6, .ref 0 0 0), (7, vi (a1.1.length : Int)), (8, vi x3), (9, vi x4), (10, vi (gI a1.1 x4)), (23, .d (.sl (.int .i64)) a1.1), (24, vi (a1.1.length : Int)), (25, vi x4)], [.box [vi (0 : Int), vi (0 : Int)]]⟩ (by kernel_rfl) (AllP.of (o3) trivial) ?_
    refine then_n (spine_c ?_)
    obtain ⟨o4, o5, o6, h⟩ := h
    refine awp_rc tab [4, 6, 7, 8, 23, 24, 25] [] [] [] [(0 : Int) ≤ x4 ∧ x4 < (a2.2.length : Int), -9223372036854775808 ≤ (gI a2.2 x4) * (gI a1.1 x4) ∧ (gI a2.2 x4) * (gI a1.1 x4) ≤ 9223372036854775807, -9223372036854775808 ≤ x3 + ((gI a2.2 x4) * (gI a1.1 x4)) ∧ x3 + ((gI a2.2 x4) * (gI a1.1 x4)) ≤ 9223372036854775807] ⟨62, [(4, .er [vb a2.1, .d (.sl (.int .i64)) a2.2]), (6, .ref 0 0 0), (7, vi (a1.1.length : Int)), (8, vi (x3 + ((gI a2.2 x4) * (gI a1.1 x4)))), (23, .d (.sl (.int .i64)) a1.1), (24, vi (a1.1.length : Int)), (25, vi x4)], [.box [vi (0 : Int), vi (0 : Int)]]⟩ (by kernel_rfl) (AllP.of (o4) (AllP.of (o5) (AllP.of (o6) trivial))) ?_
    refine then_n (spine_e (blk_n (then_n (spine_c ?_))))
    refine awp_abs (fun (x8 : Int) => ⟨62, [(4, .er [vb a2.1, .d (.sl (.int .i64)) a2.2]), (6, .ref 0 0 0), (7, vi (a1.1.length : Int)), (8, vi x8), (23, .d (.sl (.int .i64)) a1.1), (24, vi (a1.1.length : Int)), (25, vi x4)], [.box [vi (0 : Int), vi (0 : Int)]]⟩) (x3 + ((gI a2.2 x4) * (gI a1.1 x4))) ?_
    intro x8 hx8
    replace h := h x8 hx8
    obtain ⟨o7, h⟩ := h
    refine awp_rc tab [4, 6, 7, 8, 23, 24, 25] [] [] [] [-9223372036854775808 ≤ x4 + (1 : Int) ∧ x4 + (1 : Int) ≤ 9223372036854775807] ⟨62, [(4, .er [vb a2.1, .d (.sl (.int .i64)) a2.2]), (6, .ref 0 0 0), (7, vi (a1.1.length : Int)), (8, vi x8), (23, .d (.sl (.int .i64)) a1.1), (24, vi (a1.1.length : Int)), (25, vi (x4 + (1 : Int)))], [.box [vi (0 : Int), vi (0 : Int)]]⟩ (by kernel_rfl) (AllP.of (o7) trivial) ?_
    refine then_n (spine_e (then_n (spine_e (then_n (spine_e (then_n (?_)))))))
    obtain ⟨m, hm, h⟩ := h
    exact ⟨m, hm, ⟨62, [(4, .er [vb a2.1, .d (.sl (.int .i64)) a2.2]), (6, .ref 0 0 0), (7, vi (a1.1.length : Int)), (8, vi x8), (23, .d (.sl (.int .i64)) a1.1), (24, vi (a1.1.length : Int)), (25, vi (x4 + (1 : Int)))], [.box [vi (0 : Int), vi (0 : Int)]]⟩, wk_ghosts hk (l := [.keep [4, 6, 7, 8, 23, 24, 25], .keep [4, 6, 7, 8, 23, 24, 25], .keep [4, 6, 7, 8, 23, 24, 25]]) (by kernel_rfl), x8, x4 + (1 : Int), h, rfl⟩
  · replace h := h.2 (of_decide_eq_false hb)
    refine awp_exit (then_x (then_x (then_x (blk_h (then_n (spine_c ?_))))))
    refine awp_spine ?_
    obtain ⟨o8, h⟩ := h
    refine awp_rc tab [4, 6, 7, 8, 45] [] [] [] [(0 : Int) ≤ (a1.1.length : Int) ∧ (a1.1.length : Int) < (a2.2.length : Int)] ⟨62, [(4, .er [vb a2.1, .d (.sl (.int .i64)) a2.2]), (6, .ref 0 0 0), (7, vi (a1.1.length : Int)), (8, vi x3), (45, vb (decide ((gI a2.2 (a1.1.length : Int)) < (0 : Int))))], [.box [vi (0 : Int), vi (0 : Int)]]⟩ (by kernel_rfl) (AllP.of (o8) trivial) ?_
    refine then_n (spine_c ?_)
    refine awp_cond (b := decide ((gI a2.2 (a1.1.length : Int)) < (0 : Int))) (by kernel_rfl) (fun hb => ?_) (fun hb => ?_)
    · replace h := h.1 (of_decide_eq_true hb)
      refine awp_spine ?_
      obtain ⟨o9, o10, h⟩ := h
      refine awp_rc tab [6] [] [] [] [(0 : Int) ≤ (a1.1.length : Int) ∧ (a1.1.length : Int) < (a2.2.length : Int), -9223372036854775808 ≤ -(gI a2.2 (a1.1.length : Int)) ∧ -(gI a2.2 (a1.1.length : Int)) ≤ 9223372036854775807] ⟨62, [(6, .ref 0 0 0)], [.box [vi x3, vi (-(gI a2.2 (a1.1.length : Int)))]]⟩ (by kernel_rfl) (AllP.of (o9) (AllP.of (o10) trivial)) ?_
      refine then_n (spine_c ?_)
      refine awp_ret (then_r (then_r (then_r (then_r (then_r (then_r (?_)))))))
      exact ret_r (m := 0) (r := .agg [vi ((x3, -(gI a2.2 (a1.1.length : Int))).1), vi ((x3, -(gI a2.2 (a1.1.length : Int))).2)]) (objs := []) hk [.keep [6]] ⟨62, [(6, .ref 0 0 0)], [.box [vi x3, vi (-(gI a2.2 (a1.1.length : Int)))]]⟩ (by kernel_rfl) (by kernel_rfl) (Nat.le_refl 0) ⟨(x3, -(gI a2.2 (a1.1.length : Int))), rfl, rfl, h⟩
    · replace h := h.2 (of_decide_eq_false hb)
      refine awp_skip (then_n (spine_c ?_))
      refine awp_spine ?_
      obtain ⟨o11, o12, h⟩ := h
      refine awp_rc tab [6] [] [] [] [-9223372036854775808 ≤ -x3 ∧ -x3 ≤ 9223372036854775807, (0 : Int) ≤ (a1.1.length : Int) ∧ (a1.1.length : Int) < (a2.2.length : Int)] ⟨62, [(6, .ref 0 0 0)], [.box [vi (-x3), vi (gI a2.2 (a1.1.length : Int))]]⟩ (by kernel_rfl) (AllP.of (o11) (AllP.of (o12) trivial)) ?_
      refine then_n (spine_c ?_)
      refine awp_ret (then_r (then_r (then_r (then_r (then_r (then_r (?_)))))))
      exact ret_r (m := 0) (r := .agg [vi ((-x3, gI a2.2 (a1.1.length : Int)).1), vi ((-x3, gI a2.2 (a1.1.length : Int)).2)]) (objs := []) hk [.keep [6]] ⟨62, [(6, .ref 0 0 0)], [.box [vi (-x3), vi (gI a2.2 (a1.1.length : Int))]]⟩ (by kernel_rfl) (by kernel_rfl) (Nat.le_refl 0) ⟨(-x3, gI a2.2 (a1.1.length : Int)), rfl, rfl, h⟩
theorem ok_farkas_point_bound (a1 : farkas_point) (a2 : farkas_row) (a3 : Int) (h : farkas_point_bound.pre a1 a2 a3) : OkC prog 60 [.agg [.d (.sl (.int .i64)) a1.1, vi a1.2], .agg [vb a2.1, .d (.sl (.int .i64)) a2.2], vi a3] (.agg [vi ((farkas_point_bound.fn a1 a2 a3).1), vi ((farkas_point_bound.fn a1 a2 a3).2)]) :=
  OkC.of call_farkas_point_bound ((walk_farkas_point_bound a1 a2 a3 _ (farkas_point_bound.spec a1 a2 a3 h)).mono fun r o ⟨x, hr, ho, hx⟩ => ⟨by rw [hr, hx], ho⟩) rfl rfl (fun _ => rfl)

noncomputable abbrev Bfarkas_point_value : Code := bodyOf Try.f33
theorem call_farkas_point_value : CallOk prog 33 := ⟨_, Try.func33, by kernel_rfl, by kernel_rfl⟩
theorem walk_farkas_point_value (a1 : farkas_point) (a2 : farkas_table) (Q : farkas_fraction → Prop) (h : farkas_point_value.wp a1 a2 Q) : VCalls prog 33 [.agg [.d (.sl (.int .i64)) a1.1, vi a1.2], .agg [vi a2.1, .d (.sl t_farkas_row) a2.2]] [] (fun r o => ∃ x, r = .agg [vi x.1, vi x.2] ∧ o = [] ∧ Q x) := by
  refine vcalls_body tab Try.func33 (c := (spine (subC [0] Bfarkas_point_value) [(spine (subC [1, 0] Bfarkas_point_value) [(spine (subC [1, 1, 0] Bfarkas_point_value) [(spine (subC [1, 1, 1, 0, 0] Bfarkas_point_value) [(.block 0 (.loop (spine (subC [1, 1, 1, 0, 1, 0, 0, 0] Bfarkas_point_value) [(spine (.cond (.tmp 18) .skip (.exit 0)) [(spine (.block 1 (spine (subC [1, 1, 1, 0, 1, 0, 0, 1, 1, 0, 0, 0] Bfarkas_point_value) [(spine (subC [1, 1, 1, 0, 1, 0, 0, 1, 1, 0, 0, 1, 0, 0] Bfarkas_point_value) [(.cond (.tmp 26) (.exit 1) .skip), (spine (subC [1, 1, 1, 0, 1, 0, 0, 1, 1, 0, 0, 1, 1, 0] Bfarkas_point_value) [(.block 2 (spine (subC [1, 1, 1, 0, 1, 0, 0, 1, 1, 0, 0, 1, 1, 1, 0, 0] Bfarkas_point_value) [(.cond (.tmp 32) (spine (subC [1, 1, 1, 0, 1, 0, 0, 1, 1, 0, 0, 1, 1, 1, 0, 1, 0, 0] Bfarkas_point_value) [.ret]) (spine (subC [1, 1, 1, 0, 1, 0, 0, 1, 1, 0, 0, 1, 1, 1, 0, 1, 1, 0] Bfarkas_point_value) [(.cond (.tmp 36) (spine (subC [1, 1, 1, 0, 1, 0, 0, 1, 1, 0, 0, 1, 1, 1, 0, 1, 1, 1, 0, 0] Bfarkas_point_value) [(.cond (.tmp 51) (subC [1, 1, 1, 0, 1, 0, 0, 1, 1, 0, 0, 1, 1, 1, 0, 1, 1, 1, 0, 1, 0] Bfarkas_point_value) .skip)]) (spine (subC [1, 1, 1, 0, 1, 0, 0, 1, 1, 0, 0, 1, 1, 1, 0, 1, 1, 1, 1, 0] Bfarkas_point_value) [(.cond (.tmp 52) (subC [1, 1, 1, 0, 1, 0, 0, 1, 1, 0, 0, 1, 1, 1, 0, 1, 1, 1, 1, 1, 0] Bfarkas_point_value) .skip)]))]))]))])])])) [(subC [1, 1, 1, 0, 1, 0, 0, 1, 1, 1] Bfarkas_point_value)])])]))), (spine (subC [1, 1, 1, 1, 0, 0] Bfarkas_point_value) [(.cond (.tmp 64) (spine (subC [1, 1, 1, 1, 0, 1, 0, 0] Bfarkas_point_value) [.ret]) .skip), (spine (subC [1, 1, 1, 1, 1, 0, 0] Bfarkas_point_value) [(.cond (.tmp 69) (spine (subC [1, 1, 1, 1, 1, 0, 1, 0, 0] Bfarkas_point_value) [.ret]) .skip), (spine (subC [1, 1, 1, 1, 1, 1, 0] Bfarkas_point_value) [.ret])])])])])])])) (by kernel_rfl) (Nat.le_of_ble_eq_true (by kernel_rfl)) fun cx hd hi hk => ?_
  show AWp prog cx _ _ ⟨74, [(0, .agg [.d (.sl (.int .i64)) a1.1, vi a1.2]), (1, .agg [vi a2.1, .d (.sl t_farkas_row) a2.2])], []⟩
  replace hk : cx.E.len = 0 := hk
  unfold farkas_point_value.wp at h
  refine awp_spine ?_
  refine awp_rc tab [2, 3, 4] [] [] [0, 1] [] ⟨74, [(2, .er [.d (.sl (.int .i64)) a1.1, vi a1.2]), (3, .er [vi a2.1, .d (.sl t_farkas_row) a2.2]), (4, .ref 0 0 0)], [.box [vi (0 : Int), vi (0 : Int)]]⟩ (by kernel_rfl) (trivial) ?_
  refine then_n (spine_c ?_)
  refine awp_spine ?_
  refine awp_rc tab [2, 3, 4, 5] [] [] [] [] ⟨74, [(2, .er [.d (.sl (.int .i64)) a1.1, vi a1.2]), (3, .er [vi a2.1, .d (.sl t_farkas_row) a2.2]), (4, .ref 0 0 0), (5, vi (a1.1.length : Int))], [.box [vi (0 : Int), vi (0 : Int)]]⟩ (by kernel_rfl) (trivial) ?_
  refine then_n (spine_c ?_)
  refine awp_len 2 [0] (T := (.int .i64)) (l := a1.1) (by kernel_rfl) fun hl => ?_
  replace h := h hl
  refine awp_spine ?_
  refine awp_rc tab [2, 3, 4, 5, 6, 7] [] [] [] [] ⟨74, [(2, .er [.d (.sl (.int .i64)) a1.1, vi a1.2]), (3, .er [vi a2.1, .d (.sl t_farkas_row) a2.2]), (4, .ref 0 0 0), (5, vi (a1.1.length : Int)), (6, .nilp), (7, .nilp)], [.box [vi (0 : Int), vi (0 : Int)]]⟩ (by kernel_rfl) (trivial) ?_
  refine then_n (spine_c ?_)
  refine awp_spine ?_
  refine awp_rc tab [2, 3, 4, 5, 6, 7, 15, 16, 17] [] [] [] [] ⟨74, [(2, .er [.d (.sl (.int .i64)) a1.1, vi a1.2]), (3, .er [vi a2.1, .d (.sl t_farkas_row) a2.2]), (4, .ref 0 0 0), (5, vi (a1.1.length : Int)), (6, .nilp), (7, .nilp), (15, .d (.sl t_farkas_row) a2.2), (16, vi (a2.2.length : Int)), (17, vi (0 : Int))], [.box [vi (0 : Int), vi (0 : Int)]]⟩ (by kernel_rfl) (trivial) ?_
  refine then_n (spine_c ?_)
  refine awp_len 3 [1] (T := t_farkas_row) (l := a2.2) (by kernel_rfl) fun hl => ?_
  replace h := h hl
  refine awp_block ?_
  obtain ⟨I15, ⟨n15a, hz15⟩, hI15⟩ := h
  refine awp_loopN (fun n s => ∃ (x1 : Bool) (x2 : Int) (x3 : Int) (x4 : Bool) (x5 : Int) (x6 : Int) (x7 : Int), I15 n x1 x2 x3 x4 x5 x6 x7 ∧ s = ⟨74, [(2, .er [.d (.sl (.int .i64)) a1.1, vi a1.2]), (3, .er [vi a2.1, .d (.sl t_farkas_row) a2.2]), (4, .ref 0 0 0), (5, vi (a1.1.length : Int)), (6, .opt x1 (.er [vi x2, vi x3])), (7, .opt x4 (.er [vi x5, vi x6])), (15, .d (.sl t_farkas_row) a2.2), (16, vi (a2.2.length : Int)), (17, vi x7)], [.box [vi (0 : Int), vi (0 : Int)]]⟩) (n := n15a) (s0 := ⟨74, [(2, .er [.d (.sl (.int .i64)) a1.1, vi a1.2]), (3, .er [vi a2.1, .d (.sl t_farkas_row) a2.2]), (4, .ref 0 0 0), (5, vi (a1.1.length : Int)), (6, .opt false (.er [vi (0 : Int), vi (0 : Int)])), (7, .opt false (.er [vi (0 : Int), vi (0 : Int)])), (15, .d (.sl t_farkas_row) a2.2), (16, vi (a2.2.length : Int)), (17, vi (0 : Int))], [.box [vi (0 : Int), vi (0 : Int)]]⟩) (wk_ghosts hk (l := [.keep [2, 3, 4, 5, 6, 7, 15, 16, 17], .keep [2, 3, 4, 5, 6, 7, 15, 16, 17], .optN 6 (.er [vi (0 : Int), vi (0 : Int)]), .optN 7 (.er [vi (0 : Int), vi (0 : Int)]), .keep [2, 3, 4, 5, 6, 7, 15, 16, 17], .keep [2, 3, 4, 5, 6, 7, 15, 16, 17]]) (by kernel_rfl)) ⟨false, (0 : Int), (0 : Int), false, (0 : Int), (0 : Int), 0, hz15, rfl⟩ ?_
  rintro n15 s ⟨x1, x2, x3, x4, x5, x6, x7, hx15, rfl⟩
  have h := hI15 n15 x1 x2 x3 x4 x5 x6 x7 hx15
  refine awp_spine ?_
  refine awp_rc tab [2, 3, 4, 5, 6, 7, 15, 16, 17, 18] [] [] [] [] ⟨74, [(2, .er [.d (.sl (.int .i64)) a1.1, vi a1.2]), (3, .er [vi a2.1, .d (.sl t_farkas_row) a2.2]), (4, .ref 0 0 0), (5, vi (a1.1.length : Int)), (6, .opt x1 (.er [vi x2, vi x3])), (7, .opt x4 (.er [vi x5, vi x6])), (15, .d (.sl t_farkas_row) a2.2), (16, vi (a2.2.length : Int)), (17, vi x7), (18, vb (decide (x7 < (a2.2.length : Int))))], [.box [vi (0 : Int), vi (0 : Int)]]⟩ (by kernel_rfl) (trivial) ?_
  refine then_n (spine_c ?_)
  refine awp_spine ?_
  refine awp_cond (b := decide (x7 < (a2.2.length : Int))) (by kernel_rfl) (fun hb => ?_) (fun hb => ?_)
  · replace h := h.1 (of_decide_eq_true hb)
    refine awp_skip (then_n (spine_c ?_))
    refine awp_spine ?_
    refine awp_block ?_
    refine awp_spine ?_
    obtain ⟨o1, h⟩ := h
    refine awp_rc tab [2, 3, 4, 5, 6, 7, 9, 15, 16, 17] [] [] [] [(0 : Int) ≤ x7 ∧ x7 < (a2.2.length : Int)] ⟨74, [(2, .er [.d (.sl (.int .i64)) a1.1, vi a1.2]), (3, .er [vi a2.1, .d (.sl t_farkas_row) a2.2]), (4, .ref 0 0 0), (5, vi (a1.1.length : Int)), (6, .opt x1 (.er [vi x2, vi x3])), (7, .opt x4 (.er [vi x5, vi x6])), (9, .ref 1 0 0), (15, .d (.sl t_farkas_row) a2.2), (16, vi (a2.2.length : Int)), (17, vi x7)], [.box [vi (0 : Int), vi (0 : Int)], .box [vb ((a2.2.getD (Int.toNat x7) d_farkas_row).1), .d (.sl (.int .i64)) ((a2.2.getD (Int.toNat x7) d_farkas_row).2)]]⟩ (by kernel_rfl) (AllP.of (o1) trivial) ?_
    refine then_n (spine_c ?_)
    refine awp_abs (fun (x16 : farkas_row) => ⟨74, [(2, .er [.d (.sl (.int .i64)) a1.1, vi a1.2]), (3, .er [vi a2.1, .d (.sl t_farkas_row) a2.2]), (4, .ref 0 0 0), (5, vi (a1.1.length : Int)), (6, .opt x1 (.er [vi x2, vi x3])), (7, .opt x4 (.er [vi x5, vi x6])), (9, .ref 1 0 0), (15, .d (.sl t_farkas_row) a2.2), (16, vi (a2.2.length : Int)), (17, vi x7)], [.box [vi (0 : Int), vi (0 : Int)], .box [vb x16.1, .d (.sl (.int .i64)) x16.2]]⟩) (a2.2.getD (Int.toNat x7) d_farkas_row) ?_
    intro x16 hx16
    replace h := h x16 hx16
    refine awp_spine ?_
    obtain ⟨o2, h⟩ := h
    refine awp_rc tab [2, 3, 4, 5, 6, 7, 9, 15, 16, 17, 26] [] [] [] [(0 : Int) ≤ (a1.1.length : Int) ∧ (a1.1.length : Int) < (x16.2.length : Int)] ⟨74, [(2, .er [.d (.sl (.int .i64)) a1.1, vi a1.2]), (3, .er [vi a2.1, .d (.sl t_farkas_row) a2.2]), (4, .ref 0 0 0), (5, vi (a1.1.length : Int)), (6, .opt x1 (.er [vi x2, vi x3])), (7, .opt x4 (.er [vi x5, vi x6])), (9, .ref 1 0 0), (15, .d (.sl t_farkas_row) a2.2), (16, vi (a2.2.length : Int)), (17, vi x7), (26, vb ((gI x16.2 (a1.1.length : Int)) == (0 : Int)))], [.box [vi (0 : Int), vi (0 : Int)], .box [vb x16.1, .d (.sl (.int .i64)) x16.2]]⟩ (by kernel_rfl) (AllP.of (o2) trivial) ?_
    refine then_n (spine_c ?_)
    refine awp_cond (b := (gI x16.2 (a1.1.length : Int)) == (0 : Int)) (by kernel_rfl) (fun hb => ?_) (fun hb => ?_)
    · replace h := h.1 (eq_of_beq hb)
      refine awp_exit (then_x (then_x (blk_h (then_n (spine_c ?_)))))
      obtain ⟨o3, h⟩ := h
      refine awp_rc tab [2, 3, 4, 5, 6, 7, 15, 16, 17] [] [] [] [-9223372036854775808 ≤ x7 + (1 : Int) ∧ x7 + (1 : Int) ≤ 9223372036854775807] ⟨74, [(2, .er [.d (.sl (.int .i64)) a1.1, vi a1.2]), (3, .er [vi a2.1, .d (.sl t_farkas_row) a2.2]), (4, .ref 0 0 0), (5, vi (a1.1.length : Int)), (6, .opt x1 (.er [vi x2, vi x3])), (7, .opt x4 (.er [vi x5, vi x6])), (15, .d (.sl t_farkas_row) a2.2), (16, vi (a2.2.length : Int)), (17, vi (x7 + (1 : Int)))], [.box [vi (0 : Int), vi (0 : Int)], .box [vb x16.1, .d (.sl (.int .i64)) x16.2]]⟩ (by kernel_rfl) (AllP.of (o3) trivial) ?_
      refine then_n (spine_e (then_n (spine_e (then_n (spine_e (then_n (?_)))))))
      obtain ⟨m, hm, h⟩ := h
      exact ⟨m, hm, ⟨74, [(2, .er [.d (.sl (.int .i64)) a1.1, vi a1.2]), (3, .er [vi a2.1, .d (.sl t_farkas_row) a2.2]), (4, .ref 0 0 0), (5, vi (a1.1.length : Int)), (6, .opt x1 (.er [vi x2, vi x3])), (7, .opt x4 (.er [vi x5, vi x6])), (15, .d (.sl t_farkas_row) a2.2), (16, vi (a2.2.length : Int)), (17, vi (x7 + (1 : Int)))], [.box [vi (0 : Int), vi (0 : Int)]]⟩, wk_ghosts hk (l := [.keep [2, 3, 4, 5, 6, 7, 15, 16, 17], .keep [2, 3, 4, 5, 6, 7, 15, 16, 17], .cut 1, .keep [2, 3, 4, 5, 6, 7, 15, 16, 17]]) (by kernel_rfl), x1, x2, x3, x4, x5, x6, x7 + (1 : Int), h, rfl⟩
    · replace h := h.2 (ne_of_beq_false hb)
      refine awp_skip (then_n (spine_c ?_))
      refine awp_spine ?_
      obtain ⟨o4, h⟩ := h
      refine awp_rc tab [2, 3, 4, 5, 6, 7, 9, 10, 15, 16, 17] [] [(4, .dat (.agg [vi ((farkas_point_bound.fn a1 x16 a2.1).1), vi ((farkas_point_bound.fn a1 x16 a2.1).2)]))] [] [OkC prog 60 [.agg [.d (.sl (.int .i64)) a1.1, vi a1.2], .agg [vb x16.1, .d (.sl (.int .i64)) x16.2], vi a2.1] (.agg [vi ((farkas_point_bound.fn a1 x16 a2.1).1), vi ((farkas_point_bound.fn a1 x16 a2.1).2)])] ⟨74, [(2, .er [.d (.sl (.int .i64)) a1.1, vi a1.2]), (3, .er [vi a2.1, .d (.sl t_farkas_row) a2.2]), (4, .ref 0 0 0), (5, vi (a1.1.length : Int)), (6, .opt x1 (.er [vi x2, vi x3])), (7, .opt x4 (.er [vi x5, vi x6])), (9, .ref 1 0 0), (10, .ref 2 0 0), (15, .d (.sl t_farkas_row) a2.2), (16, vi (a2.2.length : Int)), (17, vi x7)], [.box [vi (0 : Int), vi (0 : Int)], .box [vb x16.1, .d (.sl (.int .i64)) x16.2], .box [vi ((farkas_point_bound.fn a1 x16 a2.1).1), vi ((farkas_point_bound.fn a1 x16 a2.1).2)]]⟩ (by kernel_rfl) (AllP.of (ok_farkas_point_bound a1 x16 a2.1 (o4)) trivial) ?_
      refine then_n (spine_c ?_)
      refine awp_abs (fun (x17 : farkas_fraction) => ⟨74, [(2, .er [.d (.sl (.int .i64)) a1.1, vi a1.2]), (3, .er [vi a2.1, .d (.sl t_farkas_row) a2.2]), (4, .ref 0 0 0), (5, vi (a1.1.length : Int)), (6, .opt x1 (.er [vi x2, vi x3])), (7, .opt x4 (.er [vi x5, vi x6])), (9, .ref 1 0 0), (10, .ref 2 0 0), (15, .d (.sl t_farkas_row) a2.2), (16, vi (a2.2.length : Int)), (17, vi x7)], [.box [vi (0 : Int), vi (0 : Int)], .box [vb x16.1, .d (.sl (.int .i64)) x16.2], .box [vi x17.1, vi x17.2]]⟩) (farkas_point_bound.fn a1 x16 a2.1) ?_
      intro x17 hx17
      replace h := h x17 hx17
      refine awp_abs (fun (x18 : Int) => ⟨74, [(2, .er [.d (.sl (.int .i64)) a1.1, vi a1.2]), (3, .er [vi a2.1, .d (.sl t_farkas_row) a2.2]), (4, .ref 0 0 0), (5, vi (a1.1.length : Int)), (6, .opt x1 (.er [vi x2, vi x3])), (7, .opt x4 (.er [vi x5, vi x6])), (9, .ref 1 0 0), (10, .ref 2 0 0), (15, .d (.sl t_farkas_row) a2.2), (16, vi (a2.2.length : Int)), (17, vi x7)], [.box [vi (0 : Int), vi (0 : Int)], .box [vb x16.1, .d (.sl (.int .i64)) x16.2], .box [vi x18, vi x17.2]]⟩) (x17.1) ?_
      intro x18 hx18
      replace h := h x18 hx18
      refine awp_abs (fun (x19 : Int) => ⟨74, [(2, .er [.d (.sl (.int .i64)) a1.1, vi a1.2]), (3, .er [vi a2.1, .d (.sl t_farkas_row) a2.2]), (4, .ref 0 0 0), (5, vi (a1.1.length : Int)), (6, .opt x1 (.er [vi x2, vi x3])), (7, .opt x4 (.er [vi x5, vi x6])), (9, .ref 1 0 0), (10, .ref 2 0 0), (15, .d (.sl t_farkas_row) a2.2), (16, vi (a2.2.length : Int)), (17, vi x7)], [.box [vi (0 : Int), vi (0 : Int)], .box [vb x16.1, .d (.sl (.int .i64)) x16.2], .box [vi x18, vi x19]]⟩) (x17.2) ?_
      intro x19 hx19
      replace h := h x19 hx19
      refine awp_block ?_
      refine awp_spine ?_
      refine awp_rc tab [2, 3, 4, 5, 6, 7, 9, 10, 15, 16, 17, 32] [] [] [] [] ⟨74, [(2, .er [.d (.sl (.int .i64)) a1.1, vi a1.2]), (3, .er [vi a2.1, .d (.sl t_farkas_row) a2.2]), (4, .ref 0 0 0), (5, vi (a1.1.length : Int)), (6, .opt x1 (.er [vi x2, vi x3])), (7, .opt x4 (.er [vi x5, vi x6])), (9, .ref 1 0 0), (10, .ref 2 0 0), (15, .d (.sl t_farkas_row) a2.2), (16, vi (a2.2.length : Int)), (17, vi x7), (32, vb x16.1)], [.box [vi (0 : Int), vi (0 : Int)], .box [vb x16.1, .d (.sl (.int .i64)) x16.2], .box [vi x18, vi x19]]⟩ (by kernel_rfl) (trivial) ?_
      refine then_n (spine_c ?_)
      refine awp_cond (b := x16.1) (by kernel_rfl) (fun hb => ?_) (fun hb => ?_)
      · replace h := h.1 (hb)
        refine awp_spine ?_
        refine awp_rc tab [4] [] [] [] [] ⟨74, [(4, .ref 0 0 0)], [.box [vi x18, vi x19], .box [vb x16.1, .d (.sl (.int .i64)) x16.2], .box [vi x18, vi x19]]⟩ (by kernel_rfl) (trivial) ?_
        refine then_n (spine_c ?_)
        refine awp_ret (then_r (then_r (blk_r (then_r (then_r (then_r (blk_r (then_r (then_r (then_r (then_r (blk_r (then_r (then_r (then_r (then_r (?_)))))))))))))))))
        exact ret_r (m := 0) (r := .agg [vi ((x18, x19).1), vi ((x18, x19).2)]) (objs := []) hk [.keep [4]] ⟨74, [(4, .ref 0 0 0)], [.box [vi x18, vi x19], .box [vb x16.1, .d (.sl (.int .i64)) x16.2], .box [vi x18, vi x19]]⟩ (by kernel_rfl) (by kernel_rfl) (Nat.le_refl 0) ⟨(x18, x19), rfl, rfl, h⟩
      · replace h := h.2 (hb)
        refine awp_spine ?_
        obtain ⟨o5, h⟩ := h
        refine awp_rc tab [2, 3, 4, 5, 6, 7, 10, 15, 16, 17, 36] [] [] [] [(0 : Int) ≤ (a1.1.length : Int) ∧ (a1.1.length : Int) < (x16.2.length : Int)] ⟨74, [(2, .er [.d (.sl (.int .i64)) a1.1, vi a1.2]), (3, .er [vi a2.1, .d (.sl t_farkas_row) a2.2]), (4, .ref 0 0 0), (5, vi (a1.1.length : Int)), (6, .opt x1 (.er [vi x2, vi x3])), (7, .opt x4 (.er [vi x5, vi x6])), (10, .ref 2 0 0), (15, .d (.sl t_farkas_row) a2.2), (16, vi (a2.2.length : Int)), (17, vi x7), (36, vb (decide ((gI x16.2 (a1.1.length : Int)) > (0 : Int))))], [.box [vi (0 : Int), vi (0 : Int)], .box [vb x16.1, .d (.sl (.int .i64)) x16.2], .box [vi x18, vi x19]]⟩ (by kernel_rfl) (AllP.of (o5) trivial) ?_
        refine then_n (spine_c ?_)
        refine awp_cond (b := decide ((gI x16.2 (a1.1.length : Int)) > (0 : Int))) (by kernel_rfl) (fun hb => ?_) (fun hb => ?_)
        · replace h := h.1 (of_decide_eq_true hb)
          refine awp_spine ?_
          obtain ⟨o6, h⟩ := h
          refine awp_dr tab mixed [2, 3, 4, 5, 6, 7, 10, 15, 16, 17, 51] [] [(7, .dat (vb (farkas_fraction_less.fn (x2, x3) (x18, x19))))] [] ⟨[[], [0], [0, 1], [0, 1, 2], [0, 1, 2, 3], [0, 1, 2, 3, 4], [0, 1, 2], [0, 1, 2, 3, 4, 5, 6], [0, 1, 2, 3, 4, 5, 6, 7]], [.opt x1 (.er [vi x2, vi x3]), vb (!x1), vb (!x1), .when (!(!x1)) (.opt x1 (.er [vi x2, vi x3])), .when (!(!x1)) (.er [vi x2, vi x3]), .when (!(!x1)) (.agg [vi x2, vi x3]), .when (!(!x1)) (.agg [vi x18, vi x19]), .when (!(!x1)) (vb (farkas_fraction_less.fn (x2, x3) (x18, x19))), vb ((!x1) || (farkas_fraction_less.fn (x2, x3) (x18, x19)))], [none, none, none, none, some ((!(!x1)) = true → (!(!x1)) = true ∧ (x1 = true)), some ((!(!x1)) = true → (!(!x1)) = true ∧ True), none, some ((!(!x1)) = true → (!(!x1)) = true ∧ ((!(!x1)) = true ∧ (OkC prog 61 [.agg [vi x2, vi x3], .agg [vi x18, vi x19]] (vb (farkas_fraction_less.fn (x2, x3) (x18, x19)))))), some ((!x1) = false → (!(!x1)) = true)], [], [([], [.box [vi (0 : Int), vi (0 : Int)], .box [vb x16.1, .d (.sl (.int .i64)) x16.2], .box [vi x18, vi x19]])]⟩ ⟨74, [(2, .er [.d (.sl (.int .i64)) a1.1, vi a1.2]), (3, .er [vi a2.1, .d (.sl t_farkas_row) a2.2]), (4, .ref 0 0 0), (5, vi (a1.1.length : Int)), (6, .opt x1 (.er [vi x2, vi x3])), (7, .opt x4 (.er [vi x5, vi x6])), (10, .ref 2 0 0), (15, .d (.sl t_farkas_row) a2.2), (16, vi (a2.2.length : Int)), (17, vi x7), (51, vb ((!x1) || (farkas_fraction_less.fn (x2, x3) (x18, x19))))], [.box [vi (0 : Int), vi (0 : Int)], .box [vb x16.1, .d (.sl (.int .i64)) x16.2], .box [vi x18, vi x19]]⟩ (by kernel_rfl) (AllO.n (AllO.n (AllO.n (AllO.n (AllO.s (fun hg => ⟨hg, nn hg⟩) (AllO.s (fun hg => ⟨hg, trivial⟩) (AllO.n (AllO.s (fun hg => ⟨hg, hg, ok_farkas_fraction_less (x2, x3) (x18, x19) ((o6 hg))⟩) (AllO.s (fun hc => not_f hc) (AllO.e)))))))))) ?_
          refine then_n (spine_c ?_)
          refine awp_cond (b := (!x1) || (farkas_fraction_less.fn (x2, x3) (x18, x19))) (by kernel_rfl) (fun hb => ?_) (fun hb => ?_)
          · replace h := h.1 (hb)
            refine awp_rc tab [2, 3, 4, 5, 6, 7, 15, 16, 17] [] [] [] [] ⟨74, [(2, .er [.d (.sl (.int .i64)) a1.1, vi a1.2]), (3, .er [vi a2.1, .d (.sl t_farkas_row) a2.2]), (4, .ref 0 0 0), (5, vi (a1.1.length : Int)), (6, .ref 2 0 0), (7, .opt x4 (.er [vi x5, vi x6])), (15, .d (.sl t_farkas_row) a2.2), (16, vi (a2.2.length : Int)), (17, vi x7)], [.box [vi (0 : Int), vi (0 : Int)], .box [vb x16.1, .d (.sl (.int .i64)) x16.2], .box [vi x18, vi x19]]⟩ (by kernel_rfl) (trivial) ?_
            refine then_n (spine_e (then_n (spine_e (then_n (spine_e (blk_n (then_n (spine_e (then_n (spine_e (then_n (spine_e (blk_n (then_n (spine_c ?_)))))))))))))))
            obtain ⟨o7, h⟩ := h
            refine awp_rc tab [2, 3, 4, 5, 6, 7, 15, 16, 17] [] [] [] [-9223372036854775808 ≤ x7 + (1 : Int) ∧ x7 + (1 : Int) ≤ 9223372036854775807] ⟨74, [(2, .er [.d (.sl (.int .i64)) a1.1, vi a1.2]), (3, .er [vi a2.1, .d (.sl t_farkas_row) a2.2]), (4, .ref 0 0 0), (5, vi (a1.1.length : Int)), (6, .ref 2 0 0), (7, .opt x4 (.er [vi x5, vi x6])), (15, .d (.sl t_farkas_row) a2.2), (16, vi (a2.2.length : Int)), (17, vi (x7 + (1 : Int)))], [.box [vi (0 : Int), vi (0 : Int)], .box [vb x16.1, .d (.sl (.int .i64)) x16.2], .box [vi x18, vi x19]]⟩ (by kernel_rfl) (AllP.of (o7) trivial) ?_
            refine then_n (spine_e (then_n (spine_e (then_n (spine_e (then_n (?_)))))))
            obtain ⟨m, hm, h⟩ := h
            exact ⟨m, hm, ⟨74, [(2, .er [.d (.sl (.int .i64)) a1.1, vi a1.2]), (3, .er [vi a2.1, .d (.sl t_farkas_row) a2.2]), (4, .ref 0 0 0), (5, vi (a1.1.length : Int)), (6, .opt true (.er [vi x18, vi x19])), (7, .opt x4 (.er [vi x5, vi x6])), (15, .d (.sl t_farkas_row) a2.2), (16, vi (a2.2.length : Int)), (17, vi (x7 + (1 : Int)))], [.box [vi (0 : Int), vi (0 : Int)]]⟩, wk_ghosts hk (l := [.keep [2, 3, 4, 5, 6, 7, 15, 16, 17], .freeze 2, .optS 6, .keep [2, 3, 4, 5, 6, 7, 15, 16, 17], .cut 1, .keep [2, 3, 4, 5, 6, 7, 15, 16, 17]]) (by kernel_rfl), true, x18, x19, x4, x5, x6, x7 + (1 : Int), h, rfl⟩
          · replace h := h.2 (hb)
            refine awp_skip (then_n (spine_e (then_n (spine_e (then_n (spine_e (blk_n (then_n (spine_e (then_n (spine_e (then_n (spine_e (blk_n (then_n (spine_c ?_))))))))))))))))
            obtain ⟨o8, h⟩ := h
            refine awp_rc tab [2, 3, 4, 5, 6, 7, 15, 16, 17] [] [] [] [-9223372036854775808 ≤ x7 + (1 : Int) ∧ x7 + (1 : Int) ≤ 9223372036854775807] ⟨74, [(2, .er [.d (.sl (.int .i64)) a1.1, vi a1.2]), (3, .er [vi a2.1, .d (.sl t_farkas_row) a2.2]), (4, .ref 0 0 0), (5, vi (a1.1.length : Int)), (6, .opt x1 (.er [vi x2, vi x3])), (7, .opt x4 (.er [vi x5, vi x6])), (15, .d (.sl t_farkas_row) a2.2), (16, vi (a2.2.length : Int)), (17, vi (x7 + (1 : Int)))], [.box [vi (0 : Int), vi (0 : Int)], .box [vb x16.1, .d (.sl (.int .i64)) x16.2], .box [vi x18, vi x19]]⟩ (by kernel_rfl) (AllP.of (o8) trivial) ?_
            refine then_n (spine_e (then_n (spine_e (then_n (spine_e (then_n (?_)))))))
            obtain ⟨m, hm, h⟩ := h
            exact ⟨m, hm, ⟨74, [(2, .er [.d (.sl (.int .i64)) a1.1, vi a1.2]), (3, .er [vi a2.1, .d (.sl t_farkas_row) a2.2]), (4, .ref 0 0 0), (5, vi (a1.1.length : Int)), (6, .opt x1 (.er [vi x2, vi x3])), (7, .opt x4 (.er [vi x5, vi x6])), (15, .d (.sl t_farkas_row) a2.2), (16, vi (a2.2.length : Int)), (17, vi (x7 + (1 : Int)))], [.box [vi (0 : Int), vi (0 : Int)]]⟩, wk_ghosts hk (l := [.keep [2, 3, 4, 5, 6, 7, 15, 16, 17], .keep [2, 3, 4, 5, 6, 7, 15, 16, 17], .cut 1, .keep [2, 3, 4, 5, 6, 7, 15, 16, 17]]) (by kernel_rfl), x1, x2, x3, x4, x5, x6, x7 + (1 : Int), h, rfl⟩
        · replace h := h.2 (of_decide_eq_false hb)
          refine awp_spine ?_
          obtain ⟨o9, h⟩ := h
          refine awp_dr tab mixed [2, 3, 4, 5, 6, 7, 10, 15, 16, 17, 52] [] [(7, .dat (vb (farkas_fraction_less.fn (x18, x19) (x5, x6))))] [] ⟨[[], [0], [0, 1], [0, 1, 2], [0, 1, 2], [0, 1, 2, 4], [0, 1, 2, 4, 5], [0, 1, 2, 3, 4, 5, 6], [0, 1, 2, 3, 4, 5, 6, 7], [0, 1, 2, 3, 4, 5, 6, 7, 8]], [.opt x4 (.er [vi x5, vi x6]), vb (!x4), vb (!x4), .when (!(!x4)) (.agg [vi x18, vi x19]), .when (!(!x4)) (.opt x4 (.er [vi x5, vi x6])), .when (!(!x4)) (.er [vi x5, vi x6]), .when (!(!x4)) (.agg [vi x5, vi x6]), .when (!(!x4)) (vb (farkas_fraction_less.fn (x18, x19) (x5, x6))), vb ((!x4) || (farkas_fraction_less.fn (x18, x19) (x5, x6))), vb ((!x4) || (farkas_fraction_less.fn (x18, x19) (x5, x6)))], [none, none, none, none, none, some ((!(!x4)) = true → (!(!x4)) = true ∧ (x4 = true)), some ((!(!x4)) = true → (!(!x4)) = true ∧ True), some ((!(!x4)) = true → (!(!x4)) = true ∧ ((!(!x4)) = true ∧ (OkC prog 61 [.agg [vi x18, vi x19], .agg [vi x5, vi x6]] (vb (farkas_fraction_less.fn (x18, x19) (x5, x6)))))), some ((!x4) = false → (!(!x4)) = true), none], [], [([], [.box [vi (0 : Int), vi (0 : Int)], .box [vb x16.1, .d (.sl (.int .i64)) x16.2], .box [vi x18, vi x19]])]⟩ ⟨74, [(2, .er [.d (.sl (.int .i64)) a1.1, vi a1.2]), (3, .er [vi a2.1, .d (.sl t_farkas_row) a2.2]), (4, .ref 0 0 0), (5, vi (a1.1.length : Int)), (6, .opt x1 (.er [vi x2, vi x3])), (7, .opt x4 (.er [vi x5, vi x6])), (10, .ref 2 0 0), (15, .d (.sl t_farkas_row) a2.2), (16, vi (a2.2.length : Int)), (17, vi x7), (52, vb ((!x4) || (farkas_fraction_less.fn (x18, x19) (x5, x6))))], [.box [vi (0 : Int), vi (0 : Int)], .box [vb x16.1, .d (.sl (.int .i64)) x16.2], .box [vi x18, vi x19]]⟩ (by kernel_rfl) (AllO.n (AllO.n (AllO.n (AllO.n (AllO.n (AllO.s (fun hg => ⟨hg, nn hg⟩) (AllO.s (fun hg => ⟨hg, trivial⟩) (AllO.s (fun hg => ⟨hg, hg, ok_farkas_fraction_less (x18, x19) (x5, x6) ((o9 hg))⟩) (AllO.s (fun hc => not_f hc) (AllO.n (AllO.e))))))))))) ?_
          refine then_n (spine_c ?_)
          refine awp_cond (b := (!x4) || (farkas_fraction_less.fn (x18, x19) (x5, x6))) (by kernel_rfl) (fun hb => ?_) (fun hb => ?_)
          · replace h := h.1 (hb)
            refine awp_rc tab [2, 3, 4, 5, 6, 7, 15, 16, 17] [] [] [] [] ⟨74, [(2, .er [.d (.sl (.int .i64)) a1.1, vi a1.2]), (3, .er [vi a2.1, .d (.sl t_farkas_row) a2.2]), (4, .ref 0 0 0), (5, vi (a1.1.length : Int)), (6, .opt x1 (.er [vi x2, vi x3])), (7, .ref 2 0 0), (15, .d (.sl t_farkas_row) a2.2), (16, vi (a2.2.length : Int)), (17, vi x7)], [.box [vi (0 : Int), vi (0 : Int)], .box [vb x16.1, .d (.sl (.int .i64)) x16.2], .box [vi x18, vi x19]]⟩ (by kernel_rfl) (trivial) ?_
            refine then_n (spine_e (then_n (spine_e (then_n (spine_e (blk_n (then_n (spine_e (then_n (spine_e (then_n (spine_e (blk_n (then_n (spine_c ?_)))))))))))))))
            obtain ⟨o10, h⟩ := h
            refine awp_rc tab [2, 3, 4, 5, 6, 7, 15, 16, 17] [] [] [] [-9223372036854775808 ≤ x7 + (1 : Int) ∧ x7 + (1 : Int) ≤ 9223372036854775807] ⟨74, [(2, .er [.d (.sl (.int .i64)) a1.1, vi a1.2]), (3, .er [vi a2.1, .d (.sl t_farkas_row) a2.2]), (4, .ref 0 0 0), (5, vi (a1.1.length : Int)), (6, .opt x1 (.er [vi x2, vi x3])), (7, .ref 2 0 0), (15, .d (.sl t_farkas_row) a2.2), (16, vi (a2.2.length : Int)), (17, vi (x7 + (1 : Int)))], [.box [vi (0 : Int), vi (0 : Int)], .box [vb x16.1, .d (.sl (.int .i64)) x16.2], .box [vi x18, vi x19]]⟩ (by kernel_rfl) (AllP.of (o10) trivial) ?_
            refine then_n (spine_e (then_n (spine_e (then_n (spine_e (then_n (?_)))))))
            obtain ⟨m, hm, h⟩ := h
            exact ⟨m, hm, ⟨74, [(2, .er [.d (.sl (.int .i64)) a1.1, vi a1.2]), (3, .er [vi a2.1, .d (.sl t_farkas_row) a2.2]), (4, .ref 0 0 0), (5, vi (a1.1.length : Int)), (6, .opt x1 (.er [vi x2, vi x3])), (7, .opt true (.er [vi x18, vi x19])), (15, .d (.sl t_farkas_row) a2.2), (16, vi (a2.2.length : Int)), (17, vi (x7 + (1 : Int)))], [.box [vi (0 : Int), vi (0 : Int)]]⟩, wk_ghosts hk (l := [.keep [2, 3, 4, 5, 6, 7, 15, 16, 17], .freeze 2, .optS 7, .keep [2, 3, 4, 5, 6, 7, 15, 16, 17], .cut 1, .keep [2, 3, 4, 5, 6, 7, 15, 16, 17]]) (by kernel_rfl), x1, x2, x3, true, x18, x19, x7 + (1 : Int), h, rfl⟩
          · replace h := h.2 (hb)
            refine awp_skip (then_n (spine_e (then_n (spine_e (then_n (spine_e (blk_n (then_n (spine_e (then_n (spine_e (then_n (spine_e (blk_n (then_n (spine_c ?_))))))))))))))))
            obtain ⟨o11, h⟩ := h
            refine awp_rc tab [2, 3, 4, 5, 6, 7, 15, 16, 17] [] [] [] [-9223372036854775808 ≤ x7 + (1 : Int) ∧ x7 + (1 : Int) ≤ 9223372036854775807] ⟨74, [(2, .er [.d (.sl (.int .i64)) a1.1, vi a1.2]), (3, .er [vi a2.1, .d (.sl t_farkas_row) a2.2]), (4, .ref 0 0 0), (5, vi (a1.1.length : Int)), (6, .opt x1 (.er [vi x2, vi x3])), (7, .opt x4 (.er [vi x5, vi x6])), (15, .d (.sl t_farkas_row) a2.2), (16, vi (a2.2.length : Int)), (17, vi (x7 + (1 : Int)))], [.box [vi (0 : Int), vi (0 : Int)], .box [vb x16.1, .d (.sl (.int .i64)) x16.2], .box [vi x18, vi x19]]⟩ (by kernel_rfl) (AllP.of (o11) trivial) ?_
            refine then_n (spine_e (then_n (spine_e (then_n (spine_e (then_n (?_)))))))
            obtain ⟨m, hm, h⟩ := h
            exact ⟨m, hm, ⟨74, [(2, .er [.d (.sl (.int .i64)) a1.1, vi a1.2]), (3, .er [vi a2.1, .d (.sl t_farkas_row) a2.2]), (4, .ref 0 0 0), (5, vi (a1.1.length : Int)), (6, .opt x1 (.er [vi x2, vi x3])), (7, .opt x4 (.er [vi x5, vi x6])), (15, .d (.sl t_farkas_row) a2.2), (16, vi (a2.2.length : Int)), (17, vi (x7 + (1 : Int)))], [.box [vi (0 : Int), vi (0 : Int)]]⟩, wk_ghosts hk (l := [.keep [2, 3, 4, 5, 6, 7, 15, 16, 17], .keep [2, 3, 4, 5, 6, 7, 15, 16, 17], .cut 1, .keep [2, 3, 4, 5, 6, 7, 15, 16, 17]]) (by kernel_rfl), x1, x2, x3, x4, x5, x6, x7 + (1 : Int), h, rfl⟩
  · replace h := h.2 (of_decide_eq_false hb)
    refine awp_exit (then_x (then_x (then_x (blk_h (then_n (spine_c ?_))))))
    refine awp_spine ?_
    refine awp_rc tab [4, 6, 7, 64] [] [] [] [] ⟨74, [(4, .ref 0 0 0), (6, .opt x1 (.er [vi x2, vi x3])), (7, .opt x4 (.er [vi x5, vi x6])), (64, vb (!(!x1)))], [.box [vi (0 : Int), vi (0 : Int)]]⟩ (by kernel_rfl) (trivial) ?_
    refine then_n (spine_c ?_)
    refine awp_cond (b := !(!x1)) (by kernel_rfl) (fun hb => ?_) (fun hb => ?_)
    · replace h := h.1 ((nf (nt hb)))
      refine awp_spine ?_
      obtain ⟨o12, h⟩ := h
      refine awp_rc tab [4] [] [] [] [x1 = true] ⟨74, [(4, .ref 0 0 0)], [.box [vi x2, vi x3]]⟩ (by kernel_rfl) (AllP.of (o12) trivial) ?_
      refine then_n (spine_c ?_)
      refine awp_ret (then_r (then_r (then_r (then_r (then_r (then_r (?_)))))))
      exact ret_r (m := 0) (r := .agg [vi ((x2, x3).1), vi ((x2, x3).2)]) (objs := []) hk [.keep [4]] ⟨74, [(4, .ref 0 0 0)], [.box [vi x2, vi x3]]⟩ (by kernel_rfl) (by kernel_rfl) (Nat.le_refl 0) ⟨(x2, x3), rfl, rfl, h⟩
    · replace h := h.2 ((nt (nf hb)))
      refine awp_skip (then_n (spine_c ?_))
      refine awp_spine ?_
      refine awp_rc tab [4, 7, 69] [] [] [] [] ⟨74, [(4, .ref 0 0 0), (7, .opt x4 (.er [vi x5, vi x6])), (69, vb (!(!x4)))], [.box [vi (0 : Int), vi (0 : Int)]]⟩ (by kernel_rfl) (trivial) ?_
      refine then_n (spine_c ?_)
      refine awp_cond (b := !(!x4)) (by kernel_rfl) (fun hb => ?_) (fun hb => ?_)
      · replace h := h.1 ((nf (nt hb)))
        refine awp_spine ?_
        obtain ⟨o13, h⟩ := h
        refine awp_rc tab [4] [] [] [] [x4 = true] ⟨74, [(4, .ref 0 0 0)], [.box [vi x5, vi x6]]⟩ (by kernel_rfl) (AllP.of (o13) trivial) ?_
        refine then_n (spine_c ?_)
        refine awp_ret (then_r (then_r (then_r (then_r (then_r (then_r (then_r (?_))))))))
        exact ret_r (m := 0) (r := .agg [vi ((x5, x6).1), vi ((x5, x6).2)]) (objs := []) hk [.keep [4]] ⟨74, [(4, .ref 0 0 0)], [.box [vi x5, vi x6]]⟩ (by kernel_rfl) (by kernel_rfl) (Nat.le_refl 0) ⟨(x5, x6), rfl, rfl, h⟩
      · replace h := h.2 ((nt (nf hb)))
        refine awp_skip (then_n (spine_c ?_))
        refine awp_spine ?_
        refine awp_rc tab [4] [] [] [] [] ⟨74, [(4, .ref 0 0 0)], [.box [vi (0 : Int), vi (1 : Int)]]⟩ (by kernel_rfl) (trivial) ?_
        refine then_n (spine_c ?_)
        refine awp_ret (then_r (then_r (then_r (then_r (then_r (then_r (then_r (?_))))))))
        exact ret_r (m := 0) (r := .agg [vi ((0, 1).1), vi ((0, 1).2)]) (objs := []) hk [.keep [4]] ⟨74, [(4, .ref 0 0 0)], [.box [vi (0 : Int), vi (1 : Int)]]⟩ (by kernel_rfl) (by kernel_rfl) (Nat.le_refl 0) ⟨(0, 1), rfl, rfl, h⟩
theorem ok_farkas_point_value (a1 : farkas_point) (a2 : farkas_table) (h : farkas_point_value.pre a1 a2) : OkC prog 33 [.agg [.d (.sl (.int .i64)) a1.1, vi a1.2], .agg [vi a2.1, .d (.sl t_farkas_row) a2.2]] (.agg [vi ((farkas_point_value.fn a1 a2).1), vi ((farkas_point_value.fn a1 a2).2)]) :=
  OkC.of call_farkas_point_value ((walk_farkas_point_value a1 a2 _ (farkas_point_value.spec a1 a2 h)).mono fun r o ⟨x, hr, ho, hx⟩ => ⟨by rw [hr, hx], ho⟩) rfl rfl (fun _ => rfl)

noncomputable abbrev Bfarkas_point_with : Code := bodyOf Try.f32
theorem call_farkas_point_with : CallOk prog 32 := ⟨_, Try.func32, by kernel_rfl, by kernel_rfl⟩
theorem walk_farkas_point_with (a1 : farkas_point) (a2 : farkas_fraction) (Q : farkas_point × Int → Prop) (h : farkas_point_with.wp a1 a2 Q) : VCalls prog 32 [.agg [.d (.sl (.int .i64)) a1.1, vi a1.2], .agg [vi a2.1, vi a2.2]] [] (fun r o => ∃ x, r = .tup [.agg [.d (.sl (.int .i64)) x.1.1, vi x.1.2], vi x.2] ∧ o = [] ∧ Q x) := by
  refine vcalls_body tab Try.func32 (c := (spine (subC [0] Bfarkas_point_with) [(spine (subC [1, 0] Bfarkas_point_with) [(spine (subC [1, 1, 0] Bfarkas_point_with) [(spine (subC [1, 1, 1, 0] Bfarkas_point_with) [(spine (subC [1, 1, 1, 1, 0] Bfarkas_point_with) [(spine (subC [1, 1, 1, 1, 1, 0, 0] Bfarkas_point_with) [(.cond (.tmp 60) (spine (subC [1, 1, 1, 1, 1, 0, 1, 0, 0] Bfarkas_point_with) [.ret]) .skip), (spine (subC [1, 1, 1, 1, 1, 1, 0] Bfarkas_point_with) [(spine (subC [1, 1, 1, 1, 1, 1, 1, 0] Bfarkas_point_with) [(spine (subC [1, 1, 1, 1, 1, 1, 1, 1, 0] Bfarkas_point_with) [(spine (subC [1, 1, 1, 1, 1, 1, 1, 1, 1, 0, 0] Bfarkas_point_with) [(.cond (.tmp 80) (spine (subC [1, 1, 1, 1, 1, 1, 1, 1, 1, 0, 1, 0, 0] Bfarkas_point_with) [.ret]) .skip), (spine (subC [1, 1, 1, 1, 1, 1, 1, 1, 1, 1, 0] Bfarkas_point_with) [(spine (subC [1, 1, 1, 1, 1, 1, 1, 1, 1, 1, 1, 0, 0] Bfarkas_point_with) [(.block 0 (.loop (spine (subC [1, 1, 1, 1, 1, 1, 1, 1, 1, 1, 1, 0, 1, 0, 0, 0] Bfarkas_point_with) [(spine (.cond (.tmp 88) .skip (.exit 0)) [(spine (.block 1 (spine (subC [1, 1, 1, 1, 1, 1, 1, 1, 1, 1, 1, 0, 1, 0, 0, 1, 1, 0, 0, 0] Bfarkas_point_with) [(subC [1, 1, 1, 1, 1, 1, 1, 1, 1, 1, 1, 0, 1, 0, 0, 1, 1, 0, 0, 1] Bfarkas_point_with)])) [(subC [1, 1, 1, 1, 1, 1, 1, 1, 1, 1, 1, 0, 1, 0, 0, 1, 1, 1] Bfarkas_point_with)])])]))), (spine (subC [1, 1, 1, 1, 1, 1, 1, 1, 1, 1, 1, 1, 0, 0] Bfarkas_point_with) [(.cond (.tmp 108) (spine (subC [1, 1, 1, 1, 1, 1, 1, 1, 1, 1, 1, 1, 0, 1, 0, 0] Bfarkas_point_with) [.ret]) .skip), (spine (subC [1, 1, 1, 1, 1, 1, 1, 1, 1, 1, 1, 1, 1, 0] Bfarkas_point_with) [(spine (subC [1, 1, 1, 1, 1, 1, 1, 1, 1, 1, 1, 1, 1, 1, 0, 0] Bfarkas_point_with) [(.block 2 (.loop (spine (subC [1, 1, 1, 1, 1, 1, 1, 1, 1, 1, 1, 1, 1, 1, 0, 1, 0, 0, 0] Bfarkas_point_with) [(spine (.cond (.tmp 124) .skip (.exit 2)) [(spine (.block 3 (spine (subC [1, 1, 1, 1, 1, 1, 1, 1, 1, 1, 1, 1, 1, 1, 0, 1, 0, 0, 1, 1, 0, 0, 0] Bfarkas_point_with) [(spine (subC [1, 1, 1, 1, 1, 1, 1, 1, 1, 1, 1, 1, 1, 1, 0, 1, 0, 0, 1, 1, 0, 0, 1, 0] Bfarkas_point_with) [(.cond (.tmp 132) (spine (subC [1, 1, 1, 1, 1, 1, 1, 1, 1, 1, 1, 1, 1, 1, 0, 1, 0, 0, 1, 1, 0, 0, 1, 1, 0, 0] Bfarkas_point_with) [.ret]) .skip)])])) [(subC [1, 1, 1, 1, 1, 1, 1, 1, 1, 1, 1, 1, 1, 1, 0, 1, 0, 0, 1, 1, 1] Bfarkas_point_with)])])]))), (spine (subC [1, 1, 1, 1, 1, 1, 1, 1, 1, 1, 1, 1, 1, 1, 1, 0] Bfarkas_point_with) [.ret])])])])])])])])])])])])])])])])) (by kernel_rfl) (Nat.le_of_ble_eq_true (by kernel_rfl)) fun cx hd hi hk => ?_
  show AWp prog cx _ _ ⟨136, [(0, .agg [.d (.sl (.int .i64)) a1.1, vi a1.2]), (1, .agg [vi a2.1, vi a2.2])], []⟩
  replace hk : cx.E.len = 0 := hk
  unfold farkas_point_with.wp at h
  refine awp_spine ?_
  refine awp_rc tab [2, 3, 4] [] [] [0, 1] [] ⟨136, [(2, .er [.d (.sl (.int .i64)) a1.1, vi a1.2]), (3, .er [vi a2.1, vi a2.2]), (4, .ref 0 0 0)], [.box [.nils, vi (0 : Int)]]⟩ (by kernel_rfl) (trivial) ?_
  refine then_n (spine_c ?_)
  refine awp_spine ?_
  obtain ⟨o1, h⟩ := h
  refine awp_rc tab [2, 3, 4, 6] [] [(5, .dat (.tup [vi ((num_Gcd.fn [a2.1, a2.2]).1), vi ((num_Gcd.fn [a2.1, a2.2]).2)]))] [4] [2 * 1 ≤ 16777216, OkC prog 59 [.d (.sl (.int .i64)) [a2.1, a2.2]] (.tup [vi ((num_Gcd.fn [a2.1, a2.2]).1), vi ((num_Gcd.fn [a2.1, a2.2]).2)])] ⟨136, [(2, .er [.d (.sl (.int .i64)) a1.1, vi a1.2]), (3, .er [vi a2.1, vi a2.2]), (4, .ref 0 0 0), (6, vi ((num_Gcd.fn [a2.1, a2.2]).1))], [.box [.nils, vi (0 : Int)]]⟩ (by kernel_rfl) (AllP.of (by decide) (AllP.of (ok_num_Gcd [a2.1, a2.2] (o1)) trivial)) ?_
  refine then_n (spine_c ?_)
  refine awp_abs (fun (x1 : Int × Int) => ⟨136, [(2, .er [.d (.sl (.int .i64)) a1.1, vi a1.2]), (3, .er [vi a2.1, vi a2.2]), (4, .ref 0 0 0), (6, vi x1.1)], [.box [.nils, vi (0 : Int)]]⟩) (num_Gcd.fn [a2.1, a2.2]) ?_
  intro x1 hx1
  replace h := h x1 hx1
  refine awp_spine ?_
  obtain ⟨o2, o3, h⟩ := h
  refine awp_dr tab mixed [2, 4, 8, 9] [] [] [] ⟨[[], [0], [], [0, 1, 2], [], [4], [], [4, 5, 6], [0, 1, 2, 3], [0, 1, 2, 3, 4, 5, 6, 7, 8]], [.er [vi a2.1, vi a2.2], vi a2.1, vi x1.1, vi (Int.tdiv a2.1 x1.1), .er [vi a2.2], vi a2.2, vi x1.1, vi (Int.tdiv a2.2 x1.1), vi (Int.tdiv a2.1 x1.1), vi (Int.tdiv a2.2 x1.1)], [none, none, none, some (x1.1 ≠ 0 ∧ -9223372036854775808 ≤ Int.tdiv a2.1 x1.1 ∧ Int.tdiv a2.1 x1.1 ≤ 9223372036854775807), none, none, none, some (x1.1 ≠ 0 ∧ -9223372036854775808 ≤ Int.tdiv a2.2 x1.1 ∧ Int.tdiv a2.2 x1.1 ≤ 9223372036854775807), none, none], [], [([], [.box [.nils, vi (0 : Int)]])]⟩ ⟨136, [(2, .er [.d (.sl (.int .i64)) a1.1, vi a1.2]), (4, .ref 0 0 0), (8, vi (Int.tdiv a2.1 x1.1)), (9, vi (Int.tdiv a2.2 x1.1))], [.box [.nils, vi (0 : Int)]]⟩ (by kernel_rfl) (AllO.n (AllO.n (AllO.n (AllO.s (o2) (AllO.n (AllO.n (AllO.n (AllO.s (o3) (AllO.n (AllO.n (AllO.e))))))))))) ?_
  refine then_n (spine_c ?_)
  refine awp_spine ?_
  obtain ⟨o4, h⟩ := h
  refine awp_rc tab [2, 4, 8, 9, 10] [] [(4, .dat (.tup [vi ((num_Gcd.fn [Int.tdiv a2.1 x1.1, a1.2]).1), vi ((num_Gcd.fn [Int.tdiv a2.1 x1.1, a1.2]).2)]))] [3] [2 * 1 ≤ 16777216, OkC prog 59 [.d (.sl (.int .i64)) [Int.tdiv a2.1 x1.1, a1.2]] (.tup [vi ((num_Gcd.fn [Int.tdiv a2.1 x1.1, a1.2]).1), vi ((num_Gcd.fn [Int.tdiv a2.1 x1.1, a1.2]).2)])] ⟨136, [(2, .er [.d (.sl (.int .i64)) a1.1, vi a1.2]), (4, .ref 0 0 0), (8, vi (Int.tdiv a2.1 x1.1)), (9, vi (Int.tdiv a2.2 x1.1)), (10, vi ((num_Gcd.fn [Int.tdiv a2.1 x1.1, a1.2]).1))], [.box [.nils, vi (0 : Int)]]⟩ (by kernel_rfl) (AllP.of (by decide) (AllP.of (ok_num_Gcd [Int.tdiv a2.1 x1.1, a1.2] (o4)) trivial)) ?_
  refine then_n (spine_c ?_)
  refine awp_abs (fun (x2 : Int × Int) => ⟨136, [(2, .er [.d (.sl (.int .i64)) a1.1, vi a1.2]), (4, .ref 0 0 0), (8, vi (Int.tdiv a2.1 x1.1)), (9, vi (Int.tdiv a2.2 x1.1)), (10, vi x2.1)], [.box [.nils, vi (0 : Int)]]⟩) (num_Gcd.fn [Int.tdiv a2.1 x1.1, a1.2]) ?_
  intro x2 hx2
  replace h := h x2 hx2
  refine awp_abs (fun (x3 : Int) => ⟨136, [(2, .er [.d (.sl (.int .i64)) a1.1, vi a1.2]), (4, .ref 0 0 0), (8, vi (Int.tdiv a2.1 x1.1)), (9, vi (Int.tdiv a2.2 x1.1)), (10, vi x3)], [.box [.nils, vi (0 : Int)]]⟩) (x2.1) ?_
  intro x3 hx3
  replace h := h x3 hx3
  refine awp_spine ?_
  obtain ⟨o5, o6, h⟩ := h
  refine awp_dr tab mixed [2, 4, 8, 9, 12] [] [] [] ⟨[[], [], [0, 1], [], [3], [], [3, 4, 5], [0, 1, 2], [0, 1, 2, 3, 4, 5, 6, 7]], [vi (Int.tdiv a2.1 x1.1), vi x3, vi (Int.tdiv (Int.tdiv a2.1 x1.1) x3), .er [vi a1.2], vi a1.2, vi x3, vi (Int.tdiv a1.2 x3), vi (Int.tdiv (Int.tdiv a2.1 x1.1) x3), vi (Int.tdiv a1.2 x3)], [none, none, some (x3 ≠ 0 ∧ -9223372036854775808 ≤ Int.tdiv (Int.tdiv a2.1 x1.1) x3 ∧ Int.tdiv (Int.tdiv a2.1 x1.1) x3 ≤ 9223372036854775807), none, none, none, some (x3 ≠ 0 ∧ -9223372036854775808 ≤ Int.tdiv a1.2 x3 ∧ Int.tdiv a1.2 x3 ≤ 9223372036854775807), none, none], [], [([], [.box [.nils, vi (0 : Int)]])]⟩ ⟨136, [(2, .er [.d (.sl (.int .i64)) a1.1, vi a1.2]), (4, .ref 0 0 0), (8, vi (Int.tdiv (Int.tdiv a2.1 x1.1) x3)), (9, vi (Int.tdiv a2.2 x1.1)), (12, vi (Int.tdiv a1.2 x3))], [.box [.nils, vi (0 : Int)]]⟩ (by kernel_rfl) (AllO.n (AllO.n (AllO.s (o5) (AllO.n (AllO.n (AllO.n (AllO.s (o6) (AllO.n (AllO.n (AllO.e)))))))))) ?_
  refine then_n (spine_c ?_)
  refine awp_abs (fun (x4 : Int) => ⟨136, [(2, .er [.d (.sl (.int .i64)) a1.1, vi a1.2]), (4, .ref 0 0 0), (8, vi x4), (9, vi (Int.tdiv a2.2 x1.1)), (12, vi (Int.tdiv a1.2 x3))], [.box [.nils, vi (0 : Int)]]⟩) (Int.tdiv (Int.tdiv a2.1 x1.1) x3) ?_
  intro x4 hx4
  replace h := h x4 hx4
  refine awp_spine ?_
  obtain ⟨o7, h⟩ := h
  refine awp_rc tab [2, 4, 8, 9, 12, 60] [] [] [] [(!(decide ((Int.tdiv a2.2 x1.1) > (268435456 : Int)))) = true → (!(decide ((Int.tdiv a2.2 x1.1) > (268435456 : Int)))) = true ∧ ((!(decide ((Int.tdiv a2.2 x1.1) > (268435456 : Int)))) = true ∧ (-9223372036854775808 ≤ (Int.tdiv a1.2 x3) * (Int.tdiv a2.2 x1.1) ∧ (Int.tdiv a1.2 x3) * (Int.tdiv a2.2 x1.1) ≤ 9223372036854775807)), (!(decide ((Int.tdiv a2.2 x1.1) > (268435456 : Int)))) = true → (!(decide ((Int.tdiv a2.2 x1.1) > (268435456 : Int)))) = true ∧ True, (decide ((Int.tdiv a2.2 x1.1) > (268435456 : Int))) = false → (!(decide ((Int.tdiv a2.2 x1.1) > (268435456 : Int)))) = true] ⟨136, [(2, .er [.d (.sl (.int .i64)) a1.1, vi a1.2]), (4, .ref 0 0 0), (8, vi x4), (9, vi (Int.tdiv a2.2 x1.1)), (12, vi (Int.tdiv a1.2 x3)), (60, vb ((decide ((Int.tdiv a2.2 x1.1) > (268435456 : Int))) || (decide (((Int.tdiv a1.2 x3) * (Int.tdiv a2.2 x1.1)) > (268435456 : Int)))))], [.box [.nils, vi (0 : Int)]]⟩ (by kernel_rfl) (AllP.of (fun hg => ⟨hg, hg, (o7 hg)⟩) (AllP.of (fun hg => ⟨hg, trivial⟩) (AllP.of (fun hc => not_f hc) trivial))) ?_
  refine then_n (spine_c ?_)
  refine awp_cond (b := (decide ((Int.tdiv a2.2 x1.1) > (268435456 : Int))) || (decide (((Int.tdiv a1.2 x3) * (Int.tdiv a2.2 x1.1)) > (268435456 : Int)))) (by kernel_rfl) (fun hb => ?_) (fun hb => ?_)
  · replace h := h.1 (hb)
    refine awp_spine ?_
    refine awp_rc tab [4, 5] [] [] [] [] ⟨136, [(4, .ref 0 0 0), (5, vi (3 : Int))], [.box [.nils, vi (0 : Int)]]⟩ (by kernel_rfl) (trivial) ?_
    refine then_n (spine_c ?_)
    refine awp_ret (then_r (then_r (then_r (then_r (then_r (then_r (then_r (?_))))))))
    exact ret_r (m := 0) (r := .tup [.agg [.d (.sl (.int .i64)) ((((([] : List Int), 0), 3).1).1), vi ((((([] : List Int), 0), 3).1).2)], vi (((([] : List Int), 0), 3).2)]) (objs := []) hk [.keep [4, 5], .nilBox 0 [0] (.int .i64), .keep [4, 5]] ⟨136, [(4, .ref 0 0 0), (5, vi (3 : Int))], [.box [.d (.sl (.int .i64)) ([] : List Int), vi (0 : Int)]]⟩ (by kernel_rfl) (by kernel_rfl) (Nat.le_refl 0) ⟨((([] : List Int), 0), 3), rfl, rfl, h⟩
  · replace h := h.2 (hb)
    refine awp_skip (then_n (spine_c ?_))
    refine awp_spine ?_
    obtain ⟨o8, h⟩ := h
    refine awp_rc tab [2, 4, 8, 12] [] [] [] [-9223372036854775808 ≤ (Int.tdiv a1.2 x3) * (Int.tdiv a2.2 x1.1) ∧ (Int.tdiv a1.2 x3) * (Int.tdiv a2.2 x1.1) ≤ 9223372036854775807] ⟨136, [(2, .er [.d (.sl (.int .i64)) a1.1, vi a1.2]), (4, .ref 0 0 0), (8, vi x4), (12, vi ((Int.tdiv a1.2 x3) * (Int.tdiv a2.2 x1.1)))], [.box [.nils, vi (0 : Int)]]⟩ (by kernel_rfl) (AllP.of (o8) trivial) ?_
    refine then_n (spine_c ?_)
    refine awp_abs (fun (x5 : Int) => ⟨136, [(2, .er [.d (.sl (.int .i64)) a1.1, vi a1.2]), (4, .ref 0 0 0), (8, vi x4), (12, vi x5)], [.box [.nils, vi (0 : Int)]]⟩) ((Int.tdiv a1.2 x3) * (Int.tdiv a2.2 x1.1)) ?_
    intro x5 hx5
    replace h := h x5 hx5
    refine awp_spine ?_
    obtain ⟨o9, h⟩ := h
    refine awp_rc tab [2, 4, 8, 12, 13] [] [(4, .dat (.tup [vi ((num_Gcd.fn [x5, a1.2]).1), vi ((num_Gcd.fn [x5, a1.2]).2)]))] [3] [2 * 1 ≤ 16777216, OkC prog 59 [.d (.sl (.int .i64)) [x5, a1.2]] (.tup [vi ((num_Gcd.fn [x5, a1.2]).1), vi ((num_Gcd.fn [x5, a1.2]).2)])] ⟨136, [(2, .er [.d (.sl (.int .i64)) a1.1, vi a1.2]), (4, .ref 0 0 0), (8, vi x4), (12, vi x5), (13, vi ((num_Gcd.fn [x5, a1.2]).1))], [.box [.nils, vi (0 : Int)]]⟩ (by kernel_rfl) (AllP.of (by decide) (AllP.of (ok_num_Gcd [x5, a1.2] (o9)) trivial)) ?_
    refine then_n (spine_c ?_)
    refine awp_abs (fun (x6 : Int × Int) => ⟨136, [(2, .er [.d (.sl (.int .i64)) a1.1, vi a1.2]), (4, .ref 0 0 0), (8, vi x4), (12, vi x5), (13, vi x6.1)], [.box [.nils, vi (0 : Int)]]⟩) (num_Gcd.fn [x5, a1.2]) ?_
    intro x6 hx6
    replace h := h x6 hx6
    refine awp_spine ?_
    obtain ⟨o10, o11, h⟩ := h
    refine awp_rc tab [2, 4, 8, 12, 15] [] [] [] [x6.1 ≠ 0 ∧ -9223372036854775808 ≤ Int.tdiv a1.2 x6.1 ∧ Int.tdiv a1.2 x6.1 ≤ 9223372036854775807, -9223372036854775808 ≤ (Int.tdiv a1.2 x6.1) * x5 ∧ (Int.tdiv a1.2 x6.1) * x5 ≤ 9223372036854775807] ⟨136, [(2, .er [.d (.sl (.int .i64)) a1.1, vi a1.2]), (4, .ref 0 0 0), (8, vi x4), (12, vi x5), (15, vi ((Int.tdiv a1.2 x6.1) * x5))], [.box [.nils, vi (0 : Int)]]⟩ (by kernel_rfl) (AllP.of (o10) (AllP.of (o11) trivial)) ?_
    refine then_n (spine_c ?_)
    refine awp_spine ?_
    refine awp_rc tab [2, 4, 8, 12, 15, 80] [] [] [] [] ⟨136, [(2, .er [.d (.sl (.int .i64)) a1.1, vi a1.2]), (4, .ref 0 0 0), (8, vi x4), (12, vi x5), (15, vi ((Int.tdiv a1.2 x6.1) * x5)), (80, vb (decide (((Int.tdiv a1.2 x6.1) * x5) > (268435456 : Int))))], [.box [.nils, vi (0 : Int)]]⟩ (by kernel_rfl) (trivial) ?_
    refine then_n (spine_c ?_)
    refine awp_cond (b := decide (((Int.tdiv a1.2 x6.1) * x5) > (268435456 : Int))) (by kernel_rfl) (fun hb => ?_) (fun hb => ?_)
    · replace h := h.1 (of_decide_eq_true hb)
      refine awp_spine ?_
      refine awp_rc tab [4, 5] [] [] [] [] ⟨136, [(4, .ref 0 0 0), (5, vi (3 : Int))], [.box [.nils, vi (0 : Int)]]⟩ (by kernel_rfl) (trivial) ?_
      refine then_n (spine_c ?_)
      refine awp_ret (then_r (then_r (then_r (then_r (then_r (then_r (then_r (then_r (then_r (then_r (then_r (?_))))))))))))
      exact ret_r (m := 0) (r := .tup [.agg [.d (.sl (.int .i64)) ((((([] : List Int), 0), 3).1).1), vi ((((([] : List Int), 0), 3).1).2)], vi (((([] : List Int), 0), 3).2)]) (objs := []) hk [.keep [4, 5], .nilBox 0 [0] (.int .i64), .keep [4, 5]] ⟨136, [(4, .ref 0 0 0), (5, vi (3 : Int))], [.box [.d (.sl (.int .i64)) ([] : List Int), vi (0 : Int)]]⟩ (by kernel_rfl) (by kernel_rfl) (Nat.le_refl 0) ⟨((([] : List Int), 0), 3), rfl, rfl, h⟩
    · replace h := h.2 (of_decide_eq_false hb)
      refine awp_skip (then_n (spine_c ?_))
      refine awp_spine ?_
      refine awp_rc tab [2, 4, 8, 12, 15, 16] [] [] [] [] ⟨136, [(2, .er [.d (.sl (.int .i64)) a1.1, vi a1.2]), (4, .ref 0 0 0), (8, vi x4), (12, vi x5), (15, vi ((Int.tdiv a1.2 x6.1) * x5)), (16, .ref 1 0 0)], [.box [.nils, vi (0 : Int)], .box [.nils, vi ((Int.tdiv a1.2 x6.1) * x5)]]⟩ (by kernel_rfl) (trivial) ?_
      refine then_n (spine_c ?_)
      refine awp_spine ?_
      refine awp_rc tab [2, 4, 8, 12, 15, 16, 85, 86, 87] [] [] [] [] ⟨136, [(2, .er [.d (.sl (.int .i64)) a1.1, vi a1.2]), (4, .ref 0 0 0), (8, vi x4), (12, vi x5), (15, vi ((Int.tdiv a1.2 x6.1) * x5)), (16, .ref 1 0 0), (85, .d (.sl (.int .i64)) a1.1), (86, vi (a1.1.length : Int)), (87, vi (0 : Int))], [.box [.nils, vi (0 : Int)], .box [.nils, vi ((Int.tdiv a1.2 x6.1) * x5)]]⟩ (by kernel_rfl) (trivial) ?_
      refine then_n (spine_c ?_)
      refine awp_len 2 [0] (T := (.int .i64)) (l := a1.1) (by kernel_rfl) fun hl => ?_
      replace h := h hl
      refine awp_block ?_
      obtain ⟨I13, ⟨n13a, hz13⟩, hI13⟩ := h
      refine awp_loopN (fun n s => ∃ (x9 : Int) (x10 : (List Int)), I13 n x9 x10 ∧ s = ⟨136, [(2, .er [.d (.sl (.int .i64)) a1.1, vi a1.2]), (4, .ref 0 0 0), (8, vi x4), (12, vi x5), (15, vi ((Int.tdiv a1.2 x6.1) * x5)), (16, .ref 1 0 0), (85, .d (.sl (.int .i64)) a1.1), (86, vi (a1.1.length : Int)), (87, vi x9)], [.box [.nils, vi (0 : Int)], .box [.osl 2 0, vi ((Int.tdiv a1.2 x6.1) * x5)], .row (.int .i64) x10 0]⟩) (n := n13a) (s0 := ⟨136, [(2, .er [.d (.sl (.int .i64)) a1.1, vi a1.2]), (4, .ref 0 0 0), (8, vi x4), (12, vi x5), (15, vi ((Int.tdiv a1.2 x6.1) * x5)), (16, .ref 1 0 0), (85, .d (.sl (.int .i64)) a1.1), (86, vi (a1.1.length : Int)), (87, vi (0 : Int))], [.box [.nils, vi (0 : Int)], .box [.osl 2 0, vi ((Int.tdiv a1.2 x6.1) * x5)], .row (.int .i64) ([] : List Int) 0]⟩) (wk_ghosts hk (l := [.keep [2, 4, 8, 12, 15, 16, 85, 86, 87], .adoptBox 1 0 (.int .i64), .keep [2, 4, 8, 12, 15, 16, 85, 86, 87], .keep [2, 4, 8, 12, 15, 16, 85, 86, 87], .keep [2, 4, 8, 12, 15, 16, 85, 86, 87]]) (by kernel_rfl)) ⟨0, ([] : List Int), hz13, rfl⟩ ?_
      rintro n13 s ⟨x9, x10, hx13, rfl⟩
      have h := hI13 n13 x9 x10 hx13
      refine awp_spine ?_
      refine awp_rc tab [2, 4, 8, 12, 15, 16, 85, 86, 87, 88] [] [] [] [] ⟨136, [(2, .er [.d (.sl (.int .i64)) a1.1, vi a1.2]), (4, .ref 0 0 0), (8, vi x4), (12, vi x5), (15, vi ((Int.tdiv a1.2 x6.1) * x5)), (16, .ref 1 0 0), (85, .d (.sl (.int .i64)) a1.1), (86, vi (a1.1.length : Int)), (87, vi x9), (88, vb (decide (x9 < (a1.1.length : Int))))], [.box [.nils, vi (0 : Int)], .box [.osl 2 0, vi ((Int.tdiv a1.2 x6.1) * x5)], .row (.int .i64) x10 0]⟩ (by kernel_rfl) (trivial) ?_
      refine then_n (spine_c ?_)
      refine awp_spine ?_
      refine awp_cond (b := decide (x9 < (a1.1.length : Int))) (by kernel_rfl) (fun hb => ?_) (fun hb => ?_)
      · replace h := h.1 (of_decide_eq_true hb)
        refine awp_skip (then_n (spine_c ?_))
        refine awp_spine ?_
        refine awp_block ?_
        refine awp_spine ?_
        obtain ⟨o12, h⟩ := h
        refine awp_rc tab [2, 4, 8, 12, 15, 16, 18, 85, 86, 87] [] [] [] [(0 : Int) ≤ x9 ∧ x9 < (a1.1.length : Int)] ⟨136, [(2, .er [.d (.sl (.int .i64)) a1.1, vi a1.2]), (4, .ref 0 0 0), (8, vi x4), (12, vi x5), (15, vi ((Int.tdiv a1.2 x6.1) * x5)), (16, .ref 1 0 0), (18, vi (gI a1.1 x9)), (85, .d (.sl (.int .i64)) a1.1), (86, vi (a1.1.length : Int)), (87, vi x9)], [.box [.nils, vi (0 : Int)], .box [.osl 2 0, vi ((Int.tdiv a1.2 x6.1) * x5)], .row (.int .i64) x10 0]⟩ (by kernel_rfl) (AllP.of (o12) trivial) ?_
        refine then_n (spine_c ?_)
        obtain ⟨o13, o14, o15, h⟩ := h
        refine awp_dr tab mixed [2, 4, 8, 12, 15, 16, 85, 86, 87] [] [] [8] ⟨[[], [0], [], [], [], [4], [3, 4, 5], [2, 3, 4, 5, 6], [2, 3, 4, 5, 6, 7], [0, 1, 2, 3, 4, 5, 6, 7, 8], [0, 1, 2, 3, 4, 5, 6, 7, 8, 9], [0, 1, 2, 3, 4, 5, 6, 7, 8, 9, 10]], [.ref 1 0 0, .osl 2 0, vi (gI a1.1 x9), vi ((Int.tdiv a1.2 x6.1) * x5), .er [vi a1.2], vi a1.2, vi (Int.tdiv ((Int.tdiv a1.2 x6.1) * x5) a1.2), vi ((gI a1.1 x9) * (Int.tdiv ((Int.tdiv a1.2 x6.1) * x5) a1.2)), .d (.sl (.int .i64)) [(gI a1.1 x9) * (Int.tdiv ((Int.tdiv a1.2 x6.1) * x5) a1.2)], .osl 2 1, .ref 1 0 0, .tup []], [none, none, none, none, none, none, some (a1.2 ≠ 0 ∧ -9223372036854775808 ≤ Int.tdiv ((Int.tdiv a1.2 x6.1) * x5) a1.2 ∧ Int.tdiv ((Int.tdiv a1.2 x6.1) * x5) a1.2 ≤ 9223372036854775807), some (-9223372036854775808 ≤ (gI a1.1 x9) * (Int.tdiv ((Int.tdiv a1.2 x6.1) * x5) a1.2) ∧ (gI a1.1 x9) * (Int.tdiv ((Int.tdiv a1.2 x6.1) * x5) a1.2) ≤ 9223372036854775807), some (1 * 1 ≤ 16777216), some ((x10.length + [(gI a1.1 x9) * (Int.tdiv ((Int.tdiv a1.2 x6.1) * x5) a1.2)].length) * 8 ≤ 140737488355328 ∧ x10.length + [(gI a1.1 x9) * (Int.tdiv ((Int.tdiv a1.2 x6.1) * x5) a1.2)].length ≤ 9223372036854775807), none, none], [9, 11], [([], [.box [.nils, vi (0 : Int)], .box [.osl 2 0, vi ((Int.tdiv a1.2 x6.1) * x5)], .row (.int .i64) x10 0]), ([9], [.box [.nils, vi (0 : Int)], .box [.osl 2 0, vi ((Int.tdiv a1.2 x6.1) * x5)], .row (.int .i64) (x10 ++ [(gI a1.1 x9) * (Int.tdiv ((Int.tdiv a1.2 x6.1) * x5) a1.2)]) 1]), ([9, 11], [.box [.nils, vi (0 : Int)], .box [.osl 2 1, vi ((Int.tdiv a1.2 x6.1) * x5)], .row (.int .i64) (x10 ++ [(gI a1.1 x9) * (Int.tdiv ((Int.tdiv a1.2 x6.1) * x5) a1.2)]) 1])]⟩ ⟨136, [(2, .er [.d (.sl (.int .i64)) a1.1, vi a1.2]), (4, .ref 0 0 0), (8, vi x4), (12, vi x5), (15, vi ((Int.tdiv a1.2 x6.1) * x5)), (16, .ref 1 0 0), (85, .d (.sl (.int .i64)) a1.1), (86, vi (a1.1.length : Int)), (87, vi x9)], [.box [.nils, vi (0 : Int)], .box [.osl 2 1, vi ((Int.tdiv a1.2 x6.1) * x5)], .row (.int .i64) (x10 ++ [(gI a1.1 x9) * (Int.tdiv ((Int.tdiv a1.2 x6.1) * x5) a1.2)]) 1]⟩ (by kernel_rfl) (AllO.n (AllO.n (AllO.n (AllO.n (AllO.n (AllO.n (AllO.s (o13) (AllO.s (o14) (AllO.s (by decide) (AllO.s (o15) (AllO.n (AllO.n (AllO.e))))))))))))) ?_
        refine then_n (spine_e (blk_n (then_n (spine_c ?_))))
        refine awp_abs (fun (x14 : (List Int)) => ⟨136, [(2, .er [.d (.sl (.int .i64)) a1.1, vi a1.2]), (4, .ref 0 0 0), (8, vi x4), (12, vi x5), (15, vi ((Int.tdiv a1.2 x6.1) * x5)), (16, .ref 1 0 0), (85, .d (.sl (.int .i64)) a1.1), (86, vi (a1.1.length : Int)), (87, vi x9)], [.box [.nils, vi (0 : Int)], .box [.osl 2 1, vi ((Int.tdiv a1.2 x6.1) * x5)], .row (.int .i64) x14 1]⟩) (x10 ++ [(gI a1.1 x9) * (Int.tdiv ((Int.tdiv a1.2 x6.1) * x5) a1.2)]) ?_
        intro x14 hx14
        replace h := h x14 hx14
        obtain ⟨o16, h⟩ := h
        refine awp_rc tab [2, 4, 8, 12, 15, 16, 85, 86, 87] [] [] [] [-9223372036854775808 ≤ x9 + (1 : Int) ∧ x9 + (1 : Int) ≤ 9223372036854775807] ⟨136, [(2, .er [.d (.sl (.int .i64)) a1.1, vi a1.2]), (4, .ref 0 0 0), (8, vi x4), (12, vi x5), (15, vi ((Int.tdiv a1.2 x6.1) * x5)), (16, .ref 1 0 0), (85, .d (.sl (.int .i64)) a1.1), (86, vi (a1.1.length : Int)), (87, vi (x9 + (1 : Int)))], [.box [.nils, vi (0 : Int)], .box [.osl 2 1, vi ((Int.tdiv a1.2 x6.1) * x5)], .row (.int .i64) x14 1]⟩ (by kernel_rfl) (AllP.of (o16) trivial) ?_
        refine then_n (spine_e (then_n (spine_e (then_n (spine_e (then_n (?_)))))))
        obtain ⟨m, hm, h⟩ := h
        exact ⟨m, hm, ⟨136, [(2, .er [.d (.sl (.int .i64)) a1.1, vi a1.2]), (4, .ref 0 0 0), (8, vi x4), (12, vi x5), (15, vi ((Int.tdiv a1.2 x6.1) * x5)), (16, .ref 1 0 0), (85, .d (.sl (.int .i64)) a1.1), (86, vi (a1.1.length : Int)), (87, vi (x9 + (1 : Int)))], [.box [.nils, vi (0 : Int)], .box [.osl 2 0, vi ((Int.tdiv a1.2 x6.1) * x5)], .row (.int .i64) x14 0]⟩, wk_ghosts hk (l := [.keep [2, 4, 8, 12, 15, 16, 85, 86, 87], .keep [2, 4, 8, 12, 15, 16, 85, 86, 87], .reset 2, .keep [2, 4, 8, 12, 15, 16, 85, 86, 87]]) (by kernel_rfl), x9 + (1 : Int), x14, h, rfl⟩
      · replace h := h.2 (of_decide_eq_false hb)
        refine awp_exit (then_x (then_x (then_x (blk_h (then_n (spine_c ?_))))))
        refine awp_spine ?_
        refine awp_rc tab [4, 8, 12, 15, 16, 108] [] [] [] [(!(decide (x4 > (268435456 : Int)))) = true → (!(decide (x4 > (268435456 : Int)))) = true ∧ True, (decide (x4 > (268435456 : Int))) = false → (!(decide (x4 > (268435456 : Int)))) = true] ⟨136, [(4, .ref 0 0 0), (8, vi x4), (12, vi x5), (15, vi ((Int.tdiv a1.2 x6.1) * x5)), (16, .ref 1 0 0), (108, vb ((decide (x4 > (268435456 : Int))) || (decide (x4 < (-268435456)))))], [.box [.nils, vi (0 : Int)], .box [.osl 2 0, vi ((Int.tdiv a1.2 x6.1) * x5)], .row (.int .i64) x10 0]⟩ (by kernel_rfl) (AllP.of (fun hg => ⟨hg, trivial⟩) (AllP.of (fun hc => not_f hc) trivial)) ?_
        refine then_n (spine_c ?_)
        refine awp_cond (b := (decide (x4 > (268435456 : Int))) || (decide (x4 < (-268435456)))) (by kernel_rfl) (fun hb => ?_) (fun hb => ?_)
        · replace h := h.1 (hb)
          refine awp_spine ?_
          refine awp_rc tab [4, 5] [] [] [] [] ⟨136, [(4, .ref 0 0 0), (5, vi (3 : Int))], [.box [.nils, vi (0 : Int)], .box [.osl 2 0, vi ((Int.tdiv a1.2 x6.1) * x5)], .row (.int .i64) x10 0]⟩ (by kernel_rfl) (trivial) ?_
          refine then_n (spine_c ?_)
          refine awp_ret (then_r (then_r (then_r (then_r (then_r (then_r (then_r (then_r (then_r (then_r (then_r (then_r (then_r (then_r (?_)))))))))))))))
          exact ret_r (m := 0) (r := .tup [.agg [.d (.sl (.int .i64)) ((((([] : List Int), 0), 3).1).1), vi ((((([] : List Int), 0), 3).1).2)], vi (((([] : List Int), 0), 3).2)]) (objs := []) hk [.keep [4, 5], .nilBox 0 [0] (.int .i64), .keep [4, 5]] ⟨136, [(4, .ref 0 0 0), (5, vi (3 : Int))], [.box [.d (.sl (.int .i64)) ([] : List Int), vi (0 : Int)], .box [.osl 2 0, vi ((Int.tdiv a1.2 x6.1) * x5)], .row (.int .i64) x10 0]⟩ (by kernel_rfl) (by kernel_rfl) (Nat.le_refl 0) ⟨((([] : List Int), 0), 3), rfl, rfl, h⟩
        · replace h := h.2 (hb)
          refine awp_skip (then_n (spine_c ?_))
          refine awp_spine ?_
          obtain ⟨o17, o18, o19, h⟩ := h
          refine awp_dr tab mixed [4, 16] [] [] [7] ⟨[[], [0], [], [], [], [3, 4], [2, 3, 4, 5], [2, 3, 4, 5, 6], [0, 1, 2, 3, 4, 5, 6, 7], [0, 1, 2, 3, 4, 5, 6, 7, 8], [0, 1, 2, 3, 4, 5, 6, 7, 8, 9]], [.ref 1 0 0, .osl 2 0, vi x4, vi ((Int.tdiv a1.2 x6.1) * x5), vi x5, vi (Int.tdiv ((Int.tdiv a1.2 x6.1) * x5) x5), vi (x4 * (Int.tdiv ((Int.tdiv a1.2 x6.1) * x5) x5)), .d (.sl (.int .i64)) [x4 * (Int.tdiv ((Int.tdiv a1.2 x6.1) * x5) x5)], .osl 2 1, .ref 1 0 0, .tup []], [none, none, none, none, none, some (x5 ≠ 0 ∧ -9223372036854775808 ≤ Int.tdiv ((Int.tdiv a1.2 x6.1) * x5) x5 ∧ Int.tdiv ((Int.tdiv a1.2 x6.1) * x5) x5 ≤ 9223372036854775807), some (-9223372036854775808 ≤ x4 * (Int.tdiv ((Int.tdiv a1.2 x6.1) * x5) x5) ∧ x4 * (Int.tdiv ((Int.tdiv a1.2 x6.1) * x5) x5) ≤ 9223372036854775807), some (1 * 1 ≤ 16777216), some ((x10.length + [x4 * (Int.tdiv ((Int.tdiv a1.2 x6.1) * x5) x5)].length) * 8 ≤ 140737488355328 ∧ x10.length + [x4 * (Int.tdiv ((Int.tdiv a1.2 x6.1) * x5) x5)].length ≤ 9223372036854775807), none, none], [8, 10], [([], [.box [.nils, vi (0 : Int)], .box [.osl 2 0, vi ((Int.tdiv a1.2 x6.1) * x5)], .row (.int .i64) x10 0]), ([8], [.box [.nils, vi (0 : Int)], .box [.osl 2 0, vi ((Int.tdiv a1.2 x6.1) * x5)], .row (.int .i64) (x10 ++ [x4 * (Int.tdiv ((Int.tdiv a1.2 x6.1) * x5) x5)]) 1]), ([8, 10], [.box [.nils, vi (0 : Int)], .box [.osl 2 1, vi ((Int.tdiv a1.2 x6.1) * x5)], .row (.int .i64) (x10 ++ [x4 * (Int.tdiv ((Int.tdiv a1.2 x6.1) * x5) x5)]) 1])]⟩ ⟨136, [(4, .ref 0 0 0), (16, .ref 1 0 0)], [.box [.nils, vi (0 : Int)], .box [.osl 2 1, vi ((Int.tdiv a1.2 x6.1) * x5)], .row (.int .i64) (x10 ++ [x4 * (Int.tdiv ((Int.tdiv a1.2 x6.1) * x5) x5)]) 1]⟩ (by kernel_rfl) (AllO.n (AllO.n (AllO.n (AllO.n (AllO.n (AllO.s (o17) (AllO.s (o18) (AllO.s (by decide) (AllO.s (o19) (AllO.n (AllO.n (AllO.e)))))))))))) ?_
          refine then_n (spine_c ?_)
          refine awp_abs (fun (x15 : (List Int)) => ⟨136, [(4, .ref 0 0 0), (16, .ref 1 0 0)], [.box [.nils, vi (0 : Int)], .box [.osl 2 1, vi ((Int.tdiv a1.2 x6.1) * x5)], .row (.int .i64) x15 1]⟩) (x10 ++ [x4 * (Int.tdiv ((Int.tdiv a1.2 x6.1) * x5) x5)]) ?_
          intro x15 hx15
          replace h := h x15 hx15
          refine awp_spine ?_
          refine awp_rc tab [4, 16, 121, 122, 123] [] [] [] [] ⟨136, [(4, .ref 0 0 0), (16, .ref 1 0 0), (121, .osl 2 1), (122, vi (x15.length : Int)), (123, vi (0 : Int))], [.box [.nils, vi (0 : Int)], .box [.osl 2 1, vi ((Int.tdiv a1.2 x6.1) * x5)], .row (.int .i64) x15 1]⟩ (by kernel_rfl) (trivial) ?_
          refine then_n (spine_c ?_)
          refine awp_block ?_
          obtain ⟨I19, ⟨n19a, hz19⟩, hI19⟩ := h
          refine awp_loopN (fun n s => ∃ (x17 : Int), I19 n x17 ∧ s = ⟨136, [(4, .ref 0 0 0), (16, .ref 1 0 0), (121, .osl 2 0), (122, vi (x15.length : Int)), (123, vi x17)], [.box [.nils, vi (0 : Int)], .box [.osl 2 0, vi ((Int.tdiv a1.2 x6.1) * x5)], .row (.int .i64) x15 0]⟩) (n := n19a) (s0 := ⟨136, [(4, .ref 0 0 0), (16, .ref 1 0 0), (121, .osl 2 0), (122, vi (x15.length : Int)), (123, vi (0 : Int))], [.box [.nils, vi (0 : Int)], .box [.osl 2 0, vi ((Int.tdiv a1.2 x6.1) * x5)], .row (.int .i64) x15 0]⟩) (wk_ghosts hk (l := [.keep [4, 16, 121, 122, 123], .keep [4, 16, 121, 122, 123], .keep [4, 16, 121, 122, 123], .reset 2, .keep [4, 16, 121, 122, 123]]) (by kernel_rfl)) ⟨0, hz19, rfl⟩ ?_
          rintro n19 s ⟨x17, hx19, rfl⟩
          have h := hI19 n19 x17 hx19
          refine awp_spine ?_
          refine awp_rc tab [4, 16, 121, 122, 123, 124] [] [] [] [] ⟨136, [(4, .ref 0 0 0), (16, .ref 1 0 0), (121, .osl 2 0), (122, vi (x15.length : Int)), (123, vi x17), (124, vb (decide (x17 < (x15.length : Int))))], [.box [.nils, vi (0 : Int)], .box [.osl 2 0, vi ((Int.tdiv a1.2 x6.1) * x5)], .row (.int .i64) x15 0]⟩ (by kernel_rfl) (trivial) ?_
          refine then_n (spine_c ?_)
          refine awp_spine ?_
          refine awp_cond (b := decide (x17 < (x15.length : Int))) (by kernel_rfl) (fun hb => ?_) (fun hb => ?_)
          · replace h := h.1 (of_decide_eq_true hb)
            refine awp_skip (then_n (spine_c ?_))
            refine awp_spine ?_
            refine awp_block ?_
            refine awp_spine ?_
            obtain ⟨o20, o21, h⟩ := h
            refine awp_rc tab [4, 16, 20, 121, 122, 123] [] [] [] [(0 : Int) ≤ x17 ∧ x17 < (x15.length : Int), Int.toNat x17 < x15.length] ⟨136, [(4, .ref 0 0 0), (16, .ref 1 0 0), (20, vi (x15.getD (Int.toNat x17) (0 : Int))), (121, .osl 2 0), (122, vi (x15.length : Int)), (123, vi x17)], [.box [.nils, vi (0 : Int)], .box [.osl 2 0, vi ((Int.tdiv a1.2 x6.1) * x5)], .row (.int .i64) x15 0]⟩ (by kernel_rfl) (AllP.of (o20) (AllP.of (o21) trivial)) ?_
            refine then_n (spine_c ?_)
            refine awp_abs (fun (x20 : Int) => ⟨136, [(4, .ref 0 0 0), (16, .ref 1 0 0), (20, vi x20), (121, .osl 2 0), (122, vi (x15.length : Int)), (123, vi x17)], [.box [.nils, vi (0 : Int)], .box [.osl 2 0, vi ((Int.tdiv a1.2 x6.1) * x5)], .row (.int .i64) x15 0]⟩) ((x15.getD (Int.toNat x17) (0 : Int))) ?_
            intro x20 hx20
            replace h := h x20 hx20
            refine awp_spine ?_
            refine awp_rc tab [4, 16, 121, 122, 123, 132] [] [] [] [(!(decide (x20 > (268435456 : Int)))) = true → (!(decide (x20 > (268435456 : Int)))) = true ∧ True, (decide (x20 > (268435456 : Int))) = false → (!(decide (x20 > (268435456 : Int)))) = true] ⟨136, [(4, .ref 0 0 0), (16, .ref 1 0 0), (121, .osl 2 0), (122, vi (x15.length : Int)), (123, vi x17), (132, vb ((decide (x20 > (268435456 : Int))) || (decide (x20 < (-268435456)))))], [.box [.nils, vi (0 : Int)], .box [.osl 2 0, vi ((Int.tdiv a1.2 x6.1) * x5)], .row (.int .i64) x15 0]⟩ (by kernel_rfl) (AllP.of (fun hg => ⟨hg, trivial⟩) (AllP.of (fun hc => not_f hc) trivial)) ?_
            refine then_n (spine_c ?_)
            refine awp_cond (b := (decide (x20 > (268435456 : Int))) || (decide (x20 < (-268435456)))) (by kernel_rfl) (fun hb => ?_) (fun hb => ?_)
            · replace h := h.1 (hb)
              refine awp_spine ?_
              refine awp_rc tab [4, 5] [] [] [] [] ⟨136, [(4, .ref 0 0 0), (5, vi (3 : Int))], [.box [.nils, vi (0 : Int)], .box [.osl 2 0, vi ((Int.tdiv a1.2 x6.1) * x5)], .row (.int .i64) x15 0]⟩ (by kernel_rfl) (trivial) ?_
              refine then_n (spine_c ?_)
              refine awp_ret (then_r (then_r (then_r (blk_r (then_r (then_r (then_r (then_r (blk_r (then_r (then_r (then_r (then_r (then_r (then_r (then_r (then_r (then_r (then_r (then_r (then_r (then_r (then_r (then_r (?_)))))))))))))))))))))))))
              exact ret_r (m := 0) (r := .tup [.agg [.d (.sl (.int .i64)) ((((([] : List Int), 0), 3).1).1), vi ((((([] : List Int), 0), 3).1).2)], vi (((([] : List Int), 0), 3).2)]) (objs := []) hk [.keep [4, 5], .nilBox 0 [0] (.int .i64), .keep [4, 5]] ⟨136, [(4, .ref 0 0 0), (5, vi (3 : Int))], [.box [.d (.sl (.int .i64)) ([] : List Int), vi (0 : Int)], .box [.osl 2 0, vi ((Int.tdiv a1.2 x6.1) * x5)], .row (.int .i64) x15 0]⟩ (by kernel_rfl) (by kernel_rfl) (Nat.le_refl 0) ⟨((([] : List Int), 0), 3), rfl, rfl, h⟩
            · replace h := h.2 (hb)
              refine awp_skip (then_n (spine_e (then_n (spine_e (blk_n (then_n (spine_c ?_)))))))
              obtain ⟨o22, h⟩ := h
              refine awp_rc tab [4, 16, 121, 122, 123] [] [] [] [-9223372036854775808 ≤ x17 + (1 : Int) ∧ x17 + (1 : Int) ≤ 9223372036854775807] ⟨136, [(4, .ref 0 0 0), (16, .ref 1 0 0), (121, .osl 2 0), (122, vi (x15.length : Int)), (123, vi (x17 + (1 : Int)))], [.box [.nils, vi (0 : Int)], .box [.osl 2 0, vi ((Int.tdiv a1.2 x6.1) * x5)], .row (.int .i64) x15 0]⟩ (by kernel_rfl) (AllP.of (o22) trivial) ?_
              refine then_n (spine_e (then_n (spine_e (then_n (spine_e (then_n (?_)))))))
              obtain ⟨m, hm, h⟩ := h
              exact ⟨m, hm, ⟨136, [(4, .ref 0 0 0), (16, .ref 1 0 0), (121, .osl 2 0), (122, vi (x15.length : Int)), (123, vi (x17 + (1 : Int)))], [.box [.nils, vi (0 : Int)], .box [.osl 2 0, vi ((Int.tdiv a1.2 x6.1) * x5)], .row (.int .i64) x15 0]⟩, wk_ghosts hk (l := [.keep [4, 16, 121, 122, 123], .keep [4, 16, 121, 122, 123], .keep [4, 16, 121, 122, 123]]) (by kernel_rfl), x17 + (1 : Int), h, rfl⟩
          · replace h := h.2 (of_decide_eq_false hb)
            refine awp_exit (then_x (then_x (then_x (blk_h (then_n (spine_c ?_))))))
            refine awp_spine ?_
            refine awp_rc tab [4, 5] [] [] [] [] ⟨136, [(4, .ref 0 0 0), (5, vi (0 : Int))], [.box [.osl 2 0, vi ((Int.tdiv a1.2 x6.1) * x5)], .box [.osl 2 0, vi ((Int.tdiv a1.2 x6.1) * x5)], .row (.int .i64) x15 0]⟩ (by kernel_rfl) (trivial) ?_
            refine then_n (spine_c ?_)
            refine awp_ret (then_r (then_r (then_r (then_r (then_r (then_r (then_r (then_r (then_r (then_r (then_r (then_r (then_r (then_r (then_r (then_r (?_)))))))))))))))))
            exact ret_r (m := 0) (r := .tup [.agg [.d (.sl (.int .i64)) ((((x15, (Int.tdiv a1.2 x6.1) * x5), 0).1).1), vi ((((x15, (Int.tdiv a1.2 x6.1) * x5), 0).1).2)], vi (((x15, (Int.tdiv a1.2 x6.1) * x5), 0).2)]) (objs := []) hk [.keep [4, 5], .freeze 2] ⟨136, [(4, .ref 0 0 0), (5, vi (0 : Int))], [.box [.d (.sl (.int .i64)) x15, vi ((Int.tdiv a1.2 x6.1) * x5)], .box [.d (.sl (.int .i64)) x15, vi ((Int.tdiv a1.2 x6.1) * x5)], .dead]⟩ (by kernel_rfl) (by kernel_rfl) (Nat.le_refl 0) ⟨((x15, (Int.tdiv a1.2 x6.1) * x5), 0), rfl, rfl, h⟩
theorem ok_farkas_point_with (a1 : farkas_point) (a2 : farkas_fraction) (h : farkas_point_with.pre a1 a2) : OkC prog 32 [.agg [.d (.sl (.int .i64)) a1.1, vi a1.2], .agg [vi a2.1, vi a2.2]] (.tup [.agg [.d (.sl (.int .i64)) (((farkas_point_with.fn a1 a2).1).1), vi (((farkas_point_with.fn a1 a2).1).2)], vi ((farkas_point_with.fn a1 a2).2)]) :=
  OkC.of call_farkas_point_with ((walk_farkas_point_with a1 a2 _ (farkas_point_with.spec a1 a2 h)).mono fun r o ⟨x, hr, ho, hx⟩ => ⟨by rw [hr, hx], ho⟩) rfl rfl (fun _ => rfl)

noncomputable abbrev Bslices_Clone_Sint_int : Code := bodyOf Try.f57
theorem call_slices_Clone_Sint_int : CallOk prog 57 := ⟨_, Try.func57, by kernel_rfl, by kernel_rfl⟩
theorem walk_slices_Clone_Sint_int (a1 : (List Int)) (Q : (List Int) → Prop) (h : slices_Clone_Sint_int.wp a1 Q) : VCalls prog 57 [.d (.sl (.int .i64)) a1] [] (fun r o => ∃ x, r = .osl 0 0 ∧ o = [.row (.int .i64) x 0] ∧ Q x) := by
  refine vcalls_body tab Try.func57 (c := (spine (subC [0] Bslices_Clone_Sint_int) [(spine (subC [1, 0, 0] Bslices_Clone_Sint_int) [(.cond (.tmp 4) (spine (subC [1, 0, 1, 0, 0] Bslices_Clone_Sint_int) [.ret]) .skip), (spine (subC [1, 1, 0] Bslices_Clone_Sint_int) [.ret])])])) (by kernel_rfl) (Nat.le_of_ble_eq_true (by kernel_rfl)) fun cx hd hi hk => ?_
  show AWp prog cx _ _ ⟨8, [(0, .d (.sl (.int .i64)) a1)], []⟩
  replace hk : cx.E.len = 0 := hk
  unfold slices_Clone_Sint_int.wp at h
  refine awp_spine ?_
  refine awp_rc tab [0] [] [] [] [] ⟨8, [(0, .d (.sl (.int .i64)) a1)], []⟩ (by kernel_rfl) (trivial) ?_
  refine then_n (spine_c ?_)
  refine awp_spine ?_
  refine awp_rgo (by kernel_rfl) ?_
  refine aops_eq (l' := [0, 1]) (by kernel_rfl) ?_
  refine aops_segc tab [0] [1] (by kernel_rfl) [0, 3] [] [] [] [] ⟨8, [(0, .d (.sl (.int .i64)) a1), (3, .d (.sl (.int .i64)) a1)], []⟩ (by kernel_rfl) (trivial) ?_
  refine aops_nilcmp tab (T := (.int .i64)) (xs := a1) (d := 4) (q := true) (by kernel_rfl) fun b1 hb1 => ?_
  replace h := h b1 hb1
  refine aops_segc tab [] [] (by kernel_rfl) [0, 4] [] [] [] [] ⟨8, [(0, .d (.sl (.int .i64)) a1), (4, vb b1)], []⟩ (by kernel_rfl) (trivial) (aops_nil ?_)
  refine then_n (spine_c ?_)
  refine awp_cond (b := b1) (by kernel_rfl) (fun hb => ?_) (fun hb => ?_)
  · replace h := h.1 (hb)
    refine awp_spine ?_
    refine awp_rc tab [2] [] [] [] [] ⟨8, [(2, .nils)], []⟩ (by kernel_rfl) (trivial) ?_
    refine then_n (spine_c ?_)
    refine awp_ret (then_r (then_r (then_r (?_))))
    exact ret_r (m := 1) (r := .osl 0 0) (objs := [.row (.int .i64) ([] : List Int) 0]) hk [.keep [2], .cut 0, .adopt 2 (.int .i64), .keep [2]] ⟨8, [(2, .osl 0 0)], [.row (.int .i64) ([] : List Int) 0]⟩ (by kernel_rfl) (by kernel_rfl) (Nat.zero_le _) ⟨([] : List Int), rfl, rfl, h⟩
  · replace h := h.2 (hb)
    refine awp_skip (then_n (spine_c ?_))
    refine awp_spine ?_
    obtain ⟨o1, h⟩ := h
    refine awp_rc tab [2] [] [] [] [0 * 1 ≤ 16777216, (([] : List Int).length + a1.length) * 8 ≤ 140737488355328 ∧ ([] : List Int).length + a1.length ≤ 9223372036854775807] ⟨8, [(2, .osl 0 1)], [.row (.int .i64) (([] : List Int) ++ a1) 1]⟩ (by kernel_rfl) (AllP.of (by decide) (AllP.of (o1) trivial)) ?_
    refine then_n (spine_c ?_)
    refine awp_ret (then_r (then_r (then_r (?_))))
    exact ret_r (m := 1) (r := .osl 0 0) (objs := [.row (.int .i64) (([] : List Int) ++ a1) 0]) hk [.keep [2], .reset 0, .keep [2]] ⟨8, [(2, .osl 0 0)], [.row (.int .i64) (([] : List Int) ++ a1) 0]⟩ (by kernel_rfl) (by kernel_rfl) (Nat.zero_le _) ⟨([] : List Int) ++ a1, rfl, rfl, h⟩
theorem ok_slices_Clone_Sint_int (a1 : (List Int)) (h : slices_Clone_Sint_int.pre a1) : OkO prog 57 [.d (.sl (.int .i64)) a1] (.int .i64) (slices_Clone_Sint_int.fn a1) :=
  OkO.of call_slices_Clone_Sint_int ((walk_slices_Clone_Sint_int a1 _ (slices_Clone_Sint_int.spec a1 h)).mono fun r o ⟨x, hr, ho, hx⟩ => ⟨hr, by rw [ho, hx]⟩) rfl

noncomputable abbrev Bfarkas_table_refuted : Code := bodyOf Try.f27
theorem call_farkas_table_refuted : CallOk prog 27 := ⟨_, Try.func27, by kernel_rfl, by kernel_rfl⟩
theorem walk_farkas_table_refuted (a1 : farkas_table) (Q : (List Int) × Bool → Prop) (h : farkas_table_refuted.wp a1 Q) : VCalls prog 27 [.agg [vi a1.1, .d (.sl t_farkas_row) a1.2]] [] (fun r o => ∃ x, r = .tup [.d (.sl (.int .i64)) x.1, vb x.2] ∧ o = [] ∧ Q x) := by
  refine vcalls_body tab Try.func27 (c := (spine (subC [0] Bfarkas_table_refuted) [(spine (subC [1, 0, 0] Bfarkas_table_refuted) [(.block 0 (.loop (spine (subC [1, 0, 1, 0, 0, 0] Bfarkas_table_refuted) [(spine (.cond (.tmp 13) .skip (.exit 0)) [(spine (.block 1 (spine (subC [1, 0, 1, 0, 0, 1, 1, 0, 0, 0] Bfarkas_table_refuted) [(spine (subC [1, 0, 1, 0, 0, 1, 1, 0, 0, 1, 0] Bfarkas_table_refuted) [(spine (subC [1, 0, 1, 0, 0, 1, 1, 0, 0, 1, 1, 0, 0] Bfarkas_table_refuted) [(.cond (.tmp 32) (.exit 1) .skip), (spine (subC [1, 0, 1, 0, 0, 1, 1, 0, 0, 1, 1, 1, 0] Bfarkas_table_refuted) [(spine (subC [1, 0, 1, 0, 0, 1, 1, 0, 0, 1, 1, 1, 1, 0, 0] Bfarkas_table_refuted) [(.cond (.tmp 41) (spine (subC [1, 0, 1, 0, 0, 1, 1, 0, 0, 1, 1, 1, 1, 0, 1, 0, 0] Bfarkas_table_refuted) [(.block 2 (.loop (spine (subC [1, 0, 1, 0, 0, 1, 1, 0, 0, 1, 1, 1, 1, 0, 1, 0, 1, 0, 0, 0] Bfarkas_table_refuted) [(spine (.cond (.tmp 45) .skip (.exit 2)) [(spine (.block 3 (spine (subC [1, 0, 1, 0, 0, 1, 1, 0, 0, 1, 1, 1, 1, 0, 1, 0, 1, 0, 0, 1, 1, 0, 0, 0] Bfarkas_table_refuted) [(subC [1, 0, 1, 0, 0, 1, 1, 0, 0, 1, 1, 1, 1, 0, 1, 0, 1, 0, 0, 1, 1, 0, 0, 1] Bfarkas_table_refuted)])) [(subC [1, 0, 1, 0, 0, 1, 1, 0, 0, 1, 1, 1, 1, 0, 1, 0, 1, 0, 0, 1, 1, 1] Bfarkas_table_refuted)])])])))]) .skip), (spine (subC [1, 0, 1, 0, 0, 1, 1, 0, 0, 1, 1, 1, 1, 1, 0] Bfarkas_table_refuted) [.ret])])])])])])) [(subC [1, 0, 1, 0, 0, 1, 1, 1] Bfarkas_table_refuted)])])]))), (spine (subC [1, 1, 0] Bfarkas_table_refuted) [.ret])])])) (by kernel_rfl) (Nat.le_of_ble_eq_true (by kernel_rfl)) fun cx hd hi hk => ?_
  show AWp prog cx _ _ ⟨58, [(0, .agg [vi a1.1, .d (.sl t_farkas_row) a1.2])], []⟩
  replace hk : cx.E.len = 0 := hk
  unfold farkas_table_refuted.wp at h
  refine awp_spine ?_
  refine awp_rc tab [1] [] [] [0] [] ⟨58, [(1, .er [vi a1.1, .d (.sl t_farkas_row) a1.2])], []⟩ (by kernel_rfl) (trivial) ?_
  refine then_n (spine_c ?_)
  refine awp_spine ?_
  refine awp_rc tab [1, 10, 11, 12] [] [] [] [] ⟨58, [(1, .er [vi a1.1, .d (.sl t_farkas_row) a1.2]), (10, .d (.sl t_farkas_row) a1.2), (11, vi (a1.2.length : Int)), (12, vi (0 : Int))], []⟩ (by kernel_rfl) (trivial) ?_
  refine then_n (spine_c ?_)
  refine awp_len 1 [1] (T := t_farkas_row) (l := a1.2) (by kernel_rfl) fun hl => ?_
  replace h := h hl
  refine awp_block ?_
  obtain ⟨I4, ⟨n4a, hz4⟩, hI4⟩ := h
  refine awp_loopN (fun n s => ∃ (x2 : Int), I4 n x2 ∧ s = ⟨58, [(1, .er [vi a1.1, .d (.sl t_farkas_row) a1.2]), (10, .d (.sl t_farkas_row) a1.2), (11, vi (a1.2.length : Int)), (12, vi x2)], []⟩) (n := n4a) (s0 := ⟨58, [(1, .er [vi a1.1, .d (.sl t_farkas_row) a1.2]), (10, .d (.sl t_farkas_row) a1.2), (11, vi (a1.2.length : Int)), (12, vi (0 : Int))], []⟩) (wk_ghosts hk (l := [.keep [1, 10, 11, 12], .keep [1, 10, 11, 12], .keep [1, 10, 11, 12], .keep [1, 10, 11, 12]]) (by kernel_rfl)) ⟨0, hz4, rfl⟩ ?_
  rintro n4 s ⟨x2, hx4, rfl⟩
  have h := hI4 n4 x2 hx4
  refine awp_spine ?_
  refine awp_rc tab [1, 10, 11, 12, 13] [] [] [] [] ⟨58, [(1, .er [vi a1.1, .d (.sl t_farkas_row) a1.2]), (10, .d (.sl t_farkas_row) a1.2), (11, vi (a1.2.length : Int)), (12, vi x2), (13, vb (decide (x2 < (a1.2.length : Int))))], []⟩ (by kernel_rfl) (trivial) ?_
  refine then_n (spine_c ?_)
  refine awp_spine ?_
  refine awp_cond (b := decide (x2 < (a1.2.length : Int))) (by kernel_rfl) (fun hb => ?_) (fun hb => ?_)
  · replace h := h.1 (of_decide_eq_true hb)
    refine awp_skip (then_n (spine_c ?_))
    refine awp_spine ?_
    refine awp_block ?_
    refine awp_spine ?_
    obtain ⟨o1, h⟩ := h
    refine awp_rc tab [1, 5, 10, 11, 12] [] [] [] [(0 : Int) ≤ x2 ∧ x2 < (a1.2.length : Int)] ⟨58, [(1, .er [vi a1.1, .d (.sl t_farkas_row) a1.2]), (5, .ref 0 0 0), (10, .d (.sl t_farkas_row) a1.2), (11, vi (a1.2.length : Int)), (12, vi x2)], [.box [vb ((a1.2.getD (Int.toNat x2) d_farkas_row).1), .d (.sl (.int .i64)) ((a1.2.getD (Int.toNat x2) d_farkas_row).2)]]⟩ (by kernel_rfl) (AllP.of (o1) trivial) ?_
    refine then_n (spine_c ?_)
    refine awp_abs (fun (x5 : farkas_row) => ⟨58, [(1, .er [vi a1.1, .d (.sl t_farkas_row) a1.2]), (5, .ref 0 0 0), (10, .d (.sl t_farkas_row) a1.2), (11, vi (a1.2.length : Int)), (12, vi x2)], [.box [vb x5.1, .d (.sl (.int .i64)) x5.2]]⟩) (a1.2.getD (Int.toNat x2) d_farkas_row) ?_
    intro x5 hx5
    replace h := h x5 hx5
    refine awp_spine ?_
    obtain ⟨o2, h⟩ := h
    refine awp_rc tab [1, 5, 6, 10, 11, 12] [] [] [] [(0 : Int) ≤ a1.1 ∧ a1.1 < (x5.2.length : Int)] ⟨58, [(1, .er [vi a1.1, .d (.sl t_farkas_row) a1.2]), (5, .ref 0 0 0), (6, vi (gI x5.2 a1.1)), (10, .d (.sl t_farkas_row) a1.2), (11, vi (a1.2.length : Int)), (12, vi x2)], [.box [vb x5.1, .d (.sl (.int .i64)) x5.2]]⟩ (by kernel_rfl) (AllP.of (o2) trivial) ?_
    refine then_n (spine_c ?_)
    refine awp_spine ?_
    refine awp_rc tab [1, 5, 6, 10, 11, 12, 32] [] [] [] [(decide ((gI x5.2 a1.1) ≥ (0 : Int))) = true → (decide ((gI x5.2 a1.1) ≥ (0 : Int))) = true ∧ True, (decide ((gI x5.2 a1.1) ≥ (0 : Int))) = true → (decide ((gI x5.2 a1.1) ≥ (0 : Int))) = true ∧ True, (decide ((gI x5.2 a1.1) ≥ (0 : Int))) = true → (decide ((gI x5.2 a1.1) ≥ (0 : Int))) = true ∧ True, ((decide ((gI x5.2 a1.1) ≥ (0 : Int))) && (!(!x5.1))) = true → ((decide ((gI x5.2 a1.1) ≥ (0 : Int))) && (!(!x5.1))) = true ∧ True, (decide ((gI x5.2 a1.1) ≥ (0 : Int))) = true → (decide ((gI x5.2 a1.1) ≥ (0 : Int))) = true ∧ ((!x5.1) = false → ((decide ((gI x5.2 a1.1) ≥ (0 : Int))) && (!(!x5.1))) = true), (decide ((gI x5.2 a1.1) ≥ (0 : Int))) = true → (decide ((gI x5.2 a1.1) ≥ (0 : Int))) = true] ⟨58, [(1, .er [vi a1.1, .d (.sl t_farkas_row) a1.2]), (5, .ref 0 0 0), (6, vi (gI x5.2 a1.1)), (10, .d (.sl t_farkas_row) a1.2), (11, vi (a1.2.length : Int)), (12, vi x2), (32, vb ((decide ((gI x5.2 a1.1) ≥ (0 : Int))) && ((!x5.1) || ((gI x5.2 a1.1) == (0 : Int)))))], [.box [vb x5.1, .d (.sl (.int .i64)) x5.2]]⟩ (by kernel_rfl) (AllP.of (fun hg => ⟨hg, trivial⟩) (AllP.of (fun hg => ⟨hg, trivial⟩) (AllP.of (fun hg => ⟨hg, trivial⟩) (AllP.of (fun hg => ⟨hg, trivial⟩) (AllP.of (fun hg => ⟨hg, fun hc => and_f hg hc⟩) (AllP.of (fun hc => hc) trivial)))))) ?_
    refine then_n (spine_c ?_)
    refine awp_cond (b := (decide ((gI x5.2 a1.1) ≥ (0 : Int))) && ((!x5.1) || ((gI x5.2 a1.1) == (0 : Int)))) (by kernel_rfl) (fun hb => ?_) (fun hb => ?_)
    · replace h := h.1 (hb)
      refine awp_exit (then_x (then_x (then_x (blk_h (then_n (spine_c ?_))))))
      obtain ⟨o3, h⟩ := h
      refine awp_rc tab [1, 10, 11, 12] [] [] [] [-9223372036854775808 ≤ x2 + (1 : Int) ∧ x2 + (1 : Int) ≤ 9223372036854775807] ⟨58, [(1, .er [vi a1.1, .d (.sl t_farkas_row) a1.2]), (10, .d (.sl t_farkas_row) a1.2), (11, vi (a1.2.length : Int)), (12, vi (x2 + (1 : Int)))], [.box [vb x5.1, .d (.sl (.int .i64)) x5.2]]⟩ (by kernel_rfl) (AllP.of (o3) trivial) ?_
      refine then_n (spine_e (then_n (spine_e (then_n (spine_e (then_n (?_)))))))
      obtain ⟨m, hm, h⟩ := h
      exact ⟨m, hm, ⟨58, [(1, .er [vi a1.1, .d (.sl t_farkas_row) a1.2]), (10, .d (.sl t_farkas_row) a1.2), (11, vi (a1.2.length : Int)), (12, vi (x2 + (1 : Int)))], []⟩, wk_ghosts hk (l := [.keep [1, 10, 11, 12], .keep [1, 10, 11, 12], .cut 0, .keep [1, 10, 11, 12]]) (by kernel_rfl), x2 + (1 : Int), h, rfl⟩
    · replace h := h.2 (hb)
      refine awp_skip (then_n (spine_c ?_))
      refine awp_spine ?_
      obtain ⟨o4, o5, o6, h⟩ := h
      refine awp_rc tab [6, 7] [] [(6, .own (.int .i64) (slices_Clone_Sint_int.fn (x5.2.drop (Int.toNat (a1.1 + (1 : Int))))))] [] [-9223372036854775808 ≤ a1.1 + (1 : Int) ∧ a1.1 + (1 : Int) ≤ 9223372036854775807, (0 : Int) ≤ (a1.1 + (1 : Int)) ∧ (a1.1 + (1 : Int)) ≤ (x5.2.length : Int), OkO prog 57 [.d (.sl (.int .i64)) (x5.2.drop (Int.toNat (a1.1 + (1 : Int))))] (.int .i64) (slices_Clone_Sint_int.fn (x5.2.drop (Int.toNat (a1.1 + (1 : Int)))))] ⟨58, [(6, vi (gI x5.2 a1.1)), (7, .osl 1 0)], [.box [vb x5.1, .d (.sl (.int .i64)) x5.2], .row (.int .i64) (slices_Clone_Sint_int.fn (x5.2.drop (Int.toNat (a1.1 + (1 : Int))))) 0]⟩ (by kernel_rfl) (AllP.of (o4) (AllP.of (o5) (AllP.of (ok_slices_Clone_Sint_int (x5.2.drop (Int.toNat (a1.1 + (1 : Int)))) (o6)) trivial))) ?_
      refine then_n (spine_c ?_)
      refine awp_abs (fun (x6 : (List Int)) => ⟨58, [(6, vi (gI x5.2 a1.1)), (7, .osl 1 0)], [.box [vb x5.1, .d (.sl (.int .i64)) x5.2], .row (.int .i64) x6 0]⟩) (slices_Clone_Sint_int.fn (x5.2.drop (Int.toNat (a1.1 + (1 : Int))))) ?_
      intro x6 hx6
      replace h := h x6 hx6
      refine awp_spine ?_
      refine awp_rc tab [7, 41] [] [] [] [] ⟨58, [(7, .osl 1 0), (41, vb (decide ((gI x5.2 a1.1) > (0 : Int))))], [.box [vb x5.1, .d (.sl (.int .i64)) x5.2], .row (.int .i64) x6 0]⟩ (by kernel_rfl) (trivial) ?_
      refine then_n (spine_c ?_)
      refine awp_cond (b := decide ((gI x5.2 a1.1) > (0 : Int))) (by kernel_rfl) (fun hb => ?_) (fun hb => ?_)
      · replace h := h.1 (of_decide_eq_true hb)
        refine awp_spine ?_
        refine awp_rc tab [7, 43, 44] [] [] [] [] ⟨58, [(7, .osl 1 0), (43, vi (x6.length : Int)), (44, vi (0 : Int))], [.box [vb x5.1, .d (.sl (.int .i64)) x5.2], .row (.int .i64) x6 0]⟩ (by kernel_rfl) (trivial) ?_
        refine then_n (spine_c ?_)
        refine awp_block ?_
        obtain ⟨I13, ⟨n13a, hz13⟩, hI13⟩ := h
        refine awp_loopN (fun n s => ∃ (x9 : Int) (x10 : (List Int)), I13 n x9 x10 ∧ s = ⟨58, [(7, .osl 1 0), (43, vi (x6.length : Int)), (44, vi x9)], [.box [vb x5.1, .d (.sl (.int .i64)) x5.2], .row (.int .i64) x10 0]⟩) (n := n13a) (s0 := ⟨58, [(7, .osl 1 0), (43, vi (x6.length : Int)), (44, vi (0 : Int))], [.box [vb x5.1, .d (.sl (.int .i64)) x5.2], .row (.int .i64) x6 0]⟩) (wk_ghosts hk (l := [.keep [7, 43, 44], .keep [7, 43, 44], .keep [7, 43, 44], .keep [7, 43, 44]]) (by kernel_rfl)) ⟨0, x6, hz13, rfl⟩ ?_
        rintro n13 s ⟨x9, x10, hx13, rfl⟩
        have h := hI13 n13 x9 x10 hx13
        refine awp_spine ?_
        refine awp_rc tab [7, 43, 44, 45] [] [] [] [] ⟨58, [(7, .osl 1 0), (43, vi (x6.length : Int)), (44, vi x9), (45, vb (decide (x9 < (x6.length : Int))))], [.box [vb x5.1, .d (.sl (.int .i64)) x5.2], .row (.int .i64) x10 0]⟩ (by kernel_rfl) (trivial) ?_
        refine then_n (spine_c ?_)
        refine awp_spine ?_
        refine awp_cond (b := decide (x9 < (x6.length : Int))) (by kernel_rfl) (fun hb => ?_) (fun hb => ?_)
        · replace h := h.1 (of_decide_eq_true hb)
          refine awp_skip (then_n (spine_c ?_))
          refine awp_spine ?_
          refine awp_block ?_
          refine awp_spine ?_
          refine awp_rc tab [7, 8, 43, 44] [] [] [] [] ⟨58, [(7, .osl 1 0), (8, vi x9), (43, vi (x6.length : Int)), (44, vi x9)], [.box [vb x5.1, .d (.sl (.int .i64)) x5.2], .row (.int .i64) x10 0]⟩ (by kernel_rfl) (trivial) ?_
          refine then_n (spine_c ?_)
          obtain ⟨o7, o8, o9, o10, o11, h⟩ := h
          refine awp_rc tab [7, 43, 44] [] [] [] [(0 : Int) ≤ x9 ∧ x9 < (x10.length : Int), Int.toNat x9 < x10.length, -9223372036854775808 ≤ -(x10.getD (Int.toNat x9) (0 : Int)) ∧ -(x10.getD (Int.toNat x9) (0 : Int)) ≤ 9223372036854775807, (0 : Int) ≤ x9 ∧ x9 < (x10.length : Int), Int.toNat x9 < x10.length] ⟨58, [(7, .osl 1 0), (43, vi (x6.length : Int)), (44, vi x9)], [.box [vb x5.1, .d (.sl (.int .i64)) x5.2], .row (.int .i64) (x10.set (Int.toNat x9) (-(x10.getD (Int.toNat x9) (0 : Int)))) 0]⟩ (by kernel_rfl) (AllP.of (o7) (AllP.of (o8) (AllP.of (o9) (AllP.of (o10) (AllP.of (o11) trivial))))) ?_
          refine then_n (spine_e (blk_n (then_n (spine_c ?_))))
          refine awp_abs (fun (x14 : (List Int)) => ⟨58, [(7, .osl 1 0), (43, vi (x6.length : Int)), (44, vi x9)], [.box [vb x5.1, .d (.sl (.int .i64)) x5.2], .row (.int .i64) x14 0]⟩) (x10.set (Int.toNat x9) (-(x10.getD (Int.toNat x9) (0 : Int)))) ?_
          intro x14 hx14
          replace h := h x14 hx14
          obtain ⟨o12, h⟩ := h
          refine awp_rc tab [7, 43, 44] [] [] [] [-9223372036854775808 ≤ x9 + (1 : Int) ∧ x9 + (1 : Int) ≤ 9223372036854775807] ⟨58, [(7, .osl 1 0), (43, vi (x6.length : Int)), (44, vi (x9 + (1 : Int)))], [.box [vb x5.1, .d (.sl (.int .i64)) x5.2], .row (.int .i64) x14 0]⟩ (by kernel_rfl) (AllP.of (o12) trivial) ?_
          refine then_n (spine_e (then_n (spine_e (then_n (spine_e (then_n (?_)))))))
          obtain ⟨m, hm, h⟩ := h
          exact ⟨m, hm, ⟨58, [(7, .osl 1 0), (43, vi (x6.length : Int)), (44, vi (x9 + (1 : Int)))], [.box [vb x5.1, .d (.sl (.int .i64)) x5.2], .row (.int .i64) x14 0]⟩, wk_ghosts hk (l := [.keep [7, 43, 44], .keep [7, 43, 44], .keep [7, 43, 44]]) (by kernel_rfl), x9 + (1 : Int), x14, h, rfl⟩
        · replace h := h.2 (of_decide_eq_false hb)
          refine awp_exit (then_x (then_x (then_x (blk_h (then_n (spine_e (then_n (spine_c ?_))))))))
          refine awp_spine ?_
          refine awp_rc tab [2, 3] [] [] [] [] ⟨58, [(2, .osl 1 0), (3, vb true)], [.box [vb x5.1, .d (.sl (.int .i64)) x5.2], .row (.int .i64) x10 0]⟩ (by kernel_rfl) (trivial) ?_
          refine then_n (spine_c ?_)
          refine awp_ret (then_r (then_r (then_r (then_r (then_r (then_r (blk_r (then_r (then_r (then_r (then_r (blk_r (then_r (then_r (?_)))))))))))))))
          exact ret_r (m := 0) (r := .tup [.d (.sl (.int .i64)) ((x10, true).1), vb ((x10, true).2)]) (objs := []) hk [.keep [2, 3], .freeze 1] ⟨58, [(2, .d (.sl (.int .i64)) x10), (3, vb true)], [.box [vb x5.1, .d (.sl (.int .i64)) x5.2], .dead]⟩ (by kernel_rfl) (by kernel_rfl) (Nat.le_refl 0) ⟨(x10, true), rfl, rfl, h⟩
      · replace h := h.2 (of_decide_eq_false hb)
        refine awp_skip (then_n (spine_c ?_))
        refine awp_spine ?_
        refine awp_rc tab [2, 3] [] [] [] [] ⟨58, [(2, .osl 1 0), (3, vb true)], [.box [vb x5.1, .d (.sl (.int .i64)) x5.2], .row (.int .i64) x6 0]⟩ (by kernel_rfl) (trivial) ?_
        refine then_n (spine_c ?_)
        refine awp_ret (then_r (then_r (then_r (then_r (then_r (then_r (blk_r (then_r (then_r (then_r (then_r (blk_r (then_r (then_r (?_)))))))))))))))
        exact ret_r (m := 0) (r := .tup [.d (.sl (.int .i64)) ((x6, true).1), vb ((x6, true).2)]) (objs := []) hk [.keep [2, 3], .freeze 1] ⟨58, [(2, .d (.sl (.int .i64)) x6), (3, vb true)], [.box [vb x5.1, .d (.sl (.int .i64)) x5.2], .dead]⟩ (by kernel_rfl) (by kernel_rfl) (Nat.le_refl 0) ⟨(x6, true), rfl, rfl, h⟩
  · replace h := h.2 (of_decide_eq_false hb)
    refine awp_exit (then_x (then_x (then_x (blk_h (then_n (spine_c ?_))))))
    refine awp_spine ?_
    refine awp_rc tab [2, 3] [] [] [] [] ⟨58, [(2, .nils), (3, vb false)], []⟩ (by kernel_rfl) (trivial) ?_
    refine then_n (spine_c ?_)
    refine awp_ret (then_r (then_r (then_r (?_))))
    exact ret_r (m := 0) (r := .tup [.d (.sl (.int .i64)) ((([] : List Int), false).1), vb ((([] : List Int), false).2)]) (objs := []) hk [.keep [2, 3], .nilAt 2 [] (.int .i64), .keep [2, 3]] ⟨58, [(2, .d (.sl (.int .i64)) ([] : List Int)), (3, vb false)], []⟩ (by kernel_rfl) (by kernel_rfl) (Nat.le_refl 0) ⟨(([] : List Int), false), rfl, rfl, h⟩
theorem ok_farkas_table_refuted (a1 : farkas_table) (h : farkas_table_refuted.pre a1) : OkC prog 27 [.agg [vi a1.1, .d (.sl t_farkas_row) a1.2]] (.tup [.d (.sl (.int .i64)) ((farkas_table_refuted.fn a1).1), vb ((farkas_table_refuted.fn a1).2)]) :=
  OkC.of call_farkas_table_refuted ((walk_farkas_table_refuted a1 _ (farkas_table_refuted.spec a1 h)).mono fun r o ⟨x, hr, ho, hx⟩ => ⟨by rw [hr, hx], ho⟩) rfl rfl (fun _ => rfl)

noncomputable abbrev Bfarkas_Inner_1 : Code := bodyOf Try.f31
theorem call_farkas_Inner_1 : CallOk prog 31 := ⟨_, Try.func31, by kernel_rfl, by kernel_rfl⟩
noncomputable abbrev Bfarkas_Inner : Code := bodyOf Try.f13
theorem call_farkas_Inner : CallOk prog 13 := ⟨_, Try.func13, by kernel_rfl, by kernel_rfl⟩
theorem walk_farkas_Inner (a1 : (List api_Cond)) (a2 : Int) (Q : (List Int) × Int × Int → Prop) (h : farkas_Inner.wp a1 a2 Q) : VCalls prog 13 [.d (.sl t_api_Cond) a1, vi a2] [] (fun r o => ∃ x, r = .tup [.d (.sl (.int .i64)) x.1, vi x.2.1, vi x.2.2] ∧ o = [] ∧ Q x) := by
  refine vcalls_bodyG Try.func13 (c := (.seq (subC [0] Bfarkas_Inner) (.seq (spine (subC [1, 0, 0] Bfarkas_Inner) [(spine (subC [1, 0, 1, 0] Bfarkas_Inner) [(.cond (.tmp 17) (spine (subC [1, 0, 1, 1, 0, 0] Bfarkas_Inner) [.ret]) .skip)])]) (.seq (subC [1, 1, 0] Bfarkas_Inner) (.seq (spine (subC [1, 1, 1, 0, 0] Bfarkas_Inner) [(.cond (.tmp 26) (spine (subC [1, 1, 1, 0, 1, 0, 0] Bfarkas_Inner) [.ret]) .skip)]) (.seq (spine (subC [1, 1, 1, 1, 0, 0] Bfarkas_Inner) [(spine (subC [1, 1, 1, 1, 0, 1, 0] Bfarkas_Inner) [(.cond (.tmp 35) (spine (subC [1, 1, 1, 1, 0, 1, 1, 0, 0] Bfarkas_Inner) [.ret]) .skip)])]) (.seq (subC [1, 1, 1, 1, 1, 0] Bfarkas_Inner) (.seq (subC [1, 1, 1, 1, 1, 1, 0] Bfarkas_Inner) (spine (subC [1, 1, 1, 1, 1, 1, 1, 0, 0] Bfarkas_Inner) [(.block 0 (.loop (spine (subC [1, 1, 1, 1, 1, 1, 1, 0, 1, 0, 0, 0] Bfarkas_Inner) [(spine (.cond (.tmp 40) .skip (.exit 0)) [(spine (.block 1 (spine (subC [1, 1, 1, 1, 1, 1, 1, 0, 1, 0, 0, 1, 1, 0, 0, 0] Bfarkas_Inner) [(spine (subC [1, 1, 1, 1, 1, 1, 1, 0, 1, 0, 0, 1, 1, 0, 0, 1, 0] Bfarkas_Inner) [(spine (subC [1, 1, 1, 1, 1, 1, 1, 0, 1, 0, 0, 1, 1, 0, 0, 1, 1, 0] Bfarkas_Inner) [(.cond (.tmp 55) (spine (subC [1, 1, 1, 1, 1, 1, 1, 0, 1, 0, 0, 1, 1, 0, 0, 1, 1, 1, 0, 0] Bfarkas_Inner) [.ret]) .skip)])])])) [(subC [1, 1, 1, 1, 1, 1, 1, 0, 1, 0, 0, 1, 1, 1] Bfarkas_Inner)])])]))), (spine (subC [1, 1, 1, 1, 1, 1, 1, 1, 0] Bfarkas_Inner) [.ret])]))))))))) (by kernel_rfl) (Nat.le_of_ble_eq_true (by kernel_rfl)) fun E0 hk => ?_
  show AWpG prog ⟨E0, [], []⟩ _ _ ⟨62, [(0, .d (.sl t_api_Cond) a1), (1, vi a2)], []⟩
  replace hk : E0.len = 0 := hk
  have hkE : E0.len = 0 := hk
  unfold farkas_Inner.wp at h
  refine awpG_seq ?_
  refine awp_rc tab [0, 1, 4, 5, 6] [] [] [] [] ⟨62, [(0, .d (.sl t_api_Cond) a1), (1, vi a2), (4, .ref 0 0 0), (5, .ref 1 0 0), (6, .ref 2 0 0)], [.box [.nils], .box [vi (0 : Int)], .box [vi (0 : Int)]]⟩ (by kernel_rfl) (trivial) ?_
  refine then_n (?_)
  refine awpG_seq ?_
  refine awp_spine ?_
  refine awp_rc tab [0, 1, 4, 5, 6, 7] [] [(2, .dat (vi (farkas_asked.fn a1 a2)))] [] [OkC prog 25 [.d (.sl t_api_Cond) a1, vi a2] (vi (farkas_asked.fn a1 a2))] ⟨62, [(0, .d (.sl t_api_Cond) a1), (1, vi a2), (4, .ref 0 0 0), (5, .ref 1 0 0), (6, .ref 2 0 0), (7, vi (farkas_asked.fn a1 a2))], [.box [.nils], .box [vi (0 : Int)], .box [vi (0 : Int)]]⟩ (by kernel_rfl) (AllP.of (ok_farkas_asked a1 a2) trivial) ?_
  refine then_n (spine_c ?_)
  refine awp_abs (fun (x1 : Int) => ⟨62, [(0, .d (.sl t_api_Cond) a1), (1, vi a2), (4, .ref 0 0 0), (5, .ref 1 0 0), (6, .ref 2 0 0), (7, vi x1)], [.box [.nils], .box [vi (0 : Int)], .box [vi (0 : Int)]]⟩) (farkas_asked.fn a1 a2) ?_
  intro x1 hx1
  replace h := h x1 hx1
  refine awp_spine ?_
  refine awp_rc tab [0, 1, 4, 5, 6, 7, 17] [] [] [] [] ⟨62, [(0, .d (.sl t_api_Cond) a1), (1, vi a2), (4, .ref 0 0 0), (5, .ref 1 0 0), (6, .ref 2 0 0), (7, vi x1), (17, vb (x1 != (0 : Int)))], [.box [.nils], .box [vi (0 : Int)], .box [vi (0 : Int)]]⟩ (by kernel_rfl) (trivial) ?_
  refine then_n (spine_c ?_)
  refine awp_cond (b := x1 != (0 : Int)) (by kernel_rfl) (fun hb => ?_) (fun hb => ?_)
  · replace h := h.1 (bne_iff_ne.mp hb)
    refine awp_spine ?_
    refine awp_rc tab [4, 5, 6] [] [] [] [] ⟨62, [(4, .ref 0 0 0), (5, .ref 1 0 0), (6, .ref 2 0 0)], [.box [.nils], .box [vi (0 : Int)], .box [vi x1]]⟩ (by kernel_rfl) (trivial) ?_
    refine then_n (spine_c ?_)
    refine awp_ret (then_r (then_r (then_r (then_r (retW_G tab hk rfl (?_))))))
    exact ret_r (m := 0) (r := .tup [.d (.sl (.int .i64)) ((([] : List Int), 0, x1).1), vi ((([] : List Int), 0, x1).2.1), vi ((([] : List Int), 0, x1).2.2)]) (objs := []) hk [.keep [4, 5, 6], .nilBox 0 [0] (.int .i64), .keep [4, 5, 6]] ⟨62, [(4, .ref 0 0 0), (5, .ref 1 0 0), (6, .ref 2 0 0)], [.box [.d (.sl (.int .i64)) ([] : List Int)], .box [vi (0 : Int)], .box [vi x1]]⟩ (by kernel_rfl) (by kernel_rfl) (Nat.le_refl 0) ⟨(([] : List Int), 0, x1), rfl, rfl, h⟩
  · replace h := h.2 (bne_f hb)
    refine awp_skip (then_n (spine_e (then_n (spine_e (then_n (?_))))))
    refine awpG_seq ?_
    obtain ⟨o1, h⟩ := h
    refine awp_rc tab [1, 4, 5, 6, 8] [] [(2, .dat (.tup [.d (.sl t_farkas_table) ((farkas_eliminated.fn a1 a2).1), vi ((farkas_eliminated.fn a1 a2).2)]))] [] [OkC prog 26 [.d (.sl t_api_Cond) a1, vi a2] (.tup [.d (.sl t_farkas_table) ((farkas_eliminated.fn a1 a2).1), vi ((farkas_eliminated.fn a1 a2).2)])] ⟨62, [(1, vi a2), (4, .ref 0 0 0), (5, .ref 1 0 0), (6, .ref 2 0 0), (8, .d (.sl t_farkas_table) ((farkas_eliminated.fn a1 a2).1))], [.box [.nils], .box [vi (0 : Int)], .box [vi ((farkas_eliminated.fn a1 a2).2)]]⟩ (by kernel_rfl) (AllP.of (ok_farkas_eliminated a1 a2 (o1)) trivial) ?_
    refine then_n (?_)
    refine awpG_abs (fun (x2 : (List farkas_table) × Int) => ⟨62, [(1, vi a2), (4, .ref 0 0 0), (5, .ref 1 0 0), (6, .ref 2 0 0), (8, .d (.sl t_farkas_table) x2.1)], [.box [.nils], .box [vi (0 : Int)], .box [vi x2.2]]⟩) (farkas_eliminated.fn a1 a2) ?_
    intro x2 hx2
    replace h := h x2 hx2
    refine awpG_seq ?_
    refine awp_spine ?_
    refine awp_rc tab [1, 4, 5, 6, 8, 26] [] [] [] [] ⟨62, [(1, vi a2), (4, .ref 0 0 0), (5, .ref 1 0 0), (6, .ref 2 0 0), (8, .d (.sl t_farkas_table) x2.1), (26, vb (x2.2 != (0 : Int)))], [.box [.nils], .box [vi (0 : Int)], .box [vi x2.2]]⟩ (by kernel_rfl) (trivial) ?_
    refine then_n (spine_c ?_)
    refine awp_cond (b := x2.2 != (0 : Int)) (by kernel_rfl) (fun hb => ?_) (fun hb => ?_)
    · replace h := h.1 (bne_iff_ne.mp hb)
      refine awp_spine ?_
      refine awp_dr tab mixed [4, 5, 6] [] [] [] ⟨[[], [], [1], [0, 1, 2]], [vi x2.2, .tup [], .tup [], .tup []], [none, none, none, none], [], [([], [.box [.nils], .box [vi (0 : Int)], .box [vi x2.2]])]⟩ ⟨62, [(4, .ref 0 0 0), (5, .ref 1 0 0), (6, .ref 2 0 0)], [.box [.nils], .box [vi (0 : Int)], .box [vi x2.2]]⟩ (by kernel_rfl) (AllO.n (AllO.n (AllO.n (AllO.n (AllO.e))))) ?_
      refine then_n (spine_c ?_)
      refine awp_ret (then_r (then_r (then_r (retW_G tab hk rfl (?_)))))
      exact ret_r (m := 0) (r := .tup [.d (.sl (.int .i64)) ((([] : List Int), 0, x2.2).1), vi ((([] : List Int), 0, x2.2).2.1), vi ((([] : List Int), 0, x2.2).2.2)]) (objs := []) hk [.keep [4, 5, 6], .nilBox 0 [0] (.int .i64), .keep [4, 5, 6]] ⟨62, [(4, .ref 0 0 0), (5, .ref 1 0 0), (6, .ref 2 0 0)], [.box [.d (.sl (.int .i64)) ([] : List Int)], .box [vi (0 : Int)], .box [vi x2.2]]⟩ (by kernel_rfl) (by kernel_rfl) (Nat.le_refl 0) ⟨(([] : List Int), 0, x2.2), rfl, rfl, h⟩
    · replace h := h.2 (bne_f hb)
      refine awp_skip (then_n (spine_e (then_n (?_))))
      refine awpG_seq ?_
      refine awp_spine ?_
      obtain ⟨o2, o3, h⟩ := h
      refine awp_rc tab [1, 4, 5, 6, 8, 10] [] [(3, .dat (.tup [.d (.sl (.int .i64)) ((farkas_table_refuted.fn (x2.1.getD (Int.toNat (0 : Int)) d_farkas_table)).1), vb ((farkas_table_refuted.fn (x2.1.getD (Int.toNat (0 : Int)) d_farkas_table)).2)]))] [] [(0 : Int) ≤ (0 : Int) ∧ (0 : Int) < (x2.1.length : Int), OkC prog 27 [.agg [vi ((x2.1.getD (Int.toNat (0 : Int)) d_farkas_table).1), .d (.sl t_farkas_row) ((x2.1.getD (Int.toNat (0 : Int)) d_farkas_table).2)]] (.tup [.d (.sl (.int .i64)) ((farkas_table_refuted.fn (x2.1.getD (Int.toNat (0 : Int)) d_farkas_table)).1), vb ((farkas_table_refuted.fn (x2.1.getD (Int.toNat (0 : Int)) d_farkas_table)).2)])] ⟨62, [(1, vi a2), (4, .ref 0 0 0), (5, .ref 1 0 0), (6, .ref 2 0 0), (8, .d (.sl t_farkas_table) x2.1), (10, vb ((farkas_table_refuted.fn (x2.1.getD (Int.toNat (0 : Int)) d_farkas_table)).2))], [.box [.nils], .box [vi (0 : Int)], .box [vi x2.2]]⟩ (by kernel_rfl) (AllP.of (o2) (AllP.of (ok_farkas_table_refuted (x2.1.getD (Int.toNat (0 : Int)) d_farkas_table) (o3)) trivial)) ?_
      refine then_n (spine_c ?_)
      refine awp_abs (fun (x3 : (List Int) × Bool) => ⟨62, [(1, vi a2), (4, .ref 0 0 0), (5, .ref 1 0 0), (6, .ref 2 0 0), (8, .d (.sl t_farkas_table) x2.1), (10, vb x3.2)], [.box [.nils], .box [vi (0 : Int)], .box [vi x2.2]]⟩) (farkas_table_refuted.fn (x2.1.getD (Int.toNat (0 : Int)) d_farkas_table)) ?_
      intro x3 hx3
      replace h := h x3 hx3
      refine awp_spine ?_
      refine awp_rc tab [1, 4, 5, 6, 8, 35] [] [] [] [] ⟨62, [(1, vi a2), (4, .ref 0 0 0), (5, .ref 1 0 0), (6, .ref 2 0 0), (8, .d (.sl t_farkas_table) x2.1), (35, vb x3.2)], [.box [.nils], .box [vi (0 : Int)], .box [vi x2.2]]⟩ (by kernel_rfl) (trivial) ?_
      refine then_n (spine_c ?_)
      refine awp_cond (b := x3.2) (by kernel_rfl) (fun hb => ?_) (fun hb => ?_)
      · replace h := h.1 (hb)
        refine awp_spine ?_
        refine awp_rc tab [4, 5, 6] [] [] [] [] ⟨62, [(4, .ref 0 0 0), (5, .ref 1 0 0), (6, .ref 2 0 0)], [.box [.nils], .box [vi (0 : Int)], .box [vi (5 : Int)]]⟩ (by kernel_rfl) (trivial) ?_
        refine then_n (spine_c ?_)
        refine awp_ret (then_r (then_r (then_r (then_r (retW_G tab hk rfl (?_))))))
        exact ret_r (m := 0) (r := .tup [.d (.sl (.int .i64)) ((([] : List Int), 0, 5).1), vi ((([] : List Int), 0, 5).2.1), vi ((([] : List Int), 0, 5).2.2)]) (objs := []) hk [.keep [4, 5, 6], .nilBox 0 [0] (.int .i64), .keep [4, 5, 6]] ⟨62, [(4, .ref 0 0 0), (5, .ref 1 0 0), (6, .ref 2 0 0)], [.box [.d (.sl (.int .i64)) ([] : List Int)], .box [vi (0 : Int)], .box [vi (5 : Int)]]⟩ (by kernel_rfl) (by kernel_rfl) (Nat.le_refl 0) ⟨(([] : List Int), 0, 5), rfl, rfl, h⟩
      · replace h := h.2 (hb)
        refine awp_skip (then_n (spine_e (then_n (spine_e (then_n (?_))))))
        refine awpG_seq ?_
        refine awp_rc tab [1, 4, 5, 6, 8, 11] [] [] [] [] ⟨62, [(1, vi a2), (4, .ref 0 0 0), (5, .ref 1 0 0), (6, .ref 2 0 0), (8, .d (.sl t_farkas_table) x2.1), (11, .ref 3 0 0)], [.box [.nils], .box [vi (0 : Int)], .box [vi x2.2], .box [.nils, vi (1 : Int)]]⟩ (by kernel_rfl) (trivial) ?_
        refine then_n (?_)
        refine awpG_defer tab rfl (g := 31) (cv := [.ref 2 0 0, .ref 0 0 0, .ref 1 0 0]) (s1 := ⟨62, [(37, .fn (.func 31) [] [.ref 2 0 0, .ref 0 0 0, .ref 1 0 0]), (1, vi a2), (4, .ref 0 0 0), (5, .ref 1 0 0), (6, .ref 2 0 0), (8, .d (.sl t_farkas_table) x2.1), (11, .ref 3 0 0)], [.box [.nils], .box [vi (0 : Int)], .box [vi x2.2], .box [.nils, vi (1 : Int)]]⟩) [0] 1 (by kernel_rfl) (by kernel_rfl) (by kernel_rfl) (by kernel_rfl) fun cx2 hD => ?_
        refine awpG_of ?_
        have hk : cx2.E.len = 4 := hD.len
        refine awp_gh hk [.keep [1, 4, 5, 6, 8, 11]] ⟨62, [(1, vi a2), (4, .ref 0 0 0), (5, .ref 1 0 0), (6, .ref 2 0 0), (8, .d (.sl t_farkas_table) x2.1), (11, .ref 3 0 0)], [.box [.nils], .box [vi (0 : Int)], .box [vi x2.2], .box [.nils, vi (1 : Int)]]⟩ (by kernel_rfl) ?_
        refine awp_spine ?_
        refine awp_rc tab [4, 5, 6, 8, 11, 38, 39] [] [] [] [] ⟨62, [(4, .ref 0 0 0), (5, .ref 1 0 0), (6, .ref 2 0 0), (8, .d (.sl t_farkas_table) x2.1), (11, .ref 3 0 0), (38, vi a2), (39, vi (0 : Int))], [.box [.nils], .box [vi (0 : Int)], .box [vi x2.2], .box [.nils, vi (1 : Int)]]⟩ (by kernel_rfl) (trivial) ?_
        refine then_n (spine_c ?_)
        refine awp_block ?_
        obtain ⟨I12, ⟨n12a, hz12⟩, hI12⟩ := h
        refine awp_loopN (fun n s => ∃ (x4 : Int) (x5 : Int) (x6 : (List Int)) (x7 : Int), I12 n x4 x5 x6 x7 ∧ s = ⟨62, [(4, .ref 0 0 0), (5, .ref 1 0 0), (6, .ref 2 0 0), (8, .d (.sl t_farkas_table) x2.1), (11, .ref 3 0 0), (38, vi a2), (39, vi x4)], [.box [.nils], .box [vi (0 : Int)], .box [vi x5], .box [.d (.sl (.int .i64)) x6, vi x7]]⟩) (n := n12a) (s0 := ⟨62, [(4, .ref 0 0 0), (5, .ref 1 0 0), (6, .ref 2 0 0), (8, .d (.sl t_farkas_table) x2.1), (11, .ref 3 0 0), (38, vi a2), (39, vi (0 : Int))], [.box [.nils], .box [vi (0 : Int)], .box [vi x2.2], .box [.d (.sl (.int .i64)) ([] : List Int), vi (1 : Int)]]⟩) (wk_ghosts hk (l := [.keep [4, 5, 6, 8, 11, 38, 39], .keep [4, 5, 6, 8, 11, 38, 39], .nilBox 3 [0] (.int .i64), .keep [4, 5, 6, 8, 11, 38, 39], .keep [4, 5, 6, 8, 11, 38, 39]]) (by kernel_rfl)) ⟨0, x2.2, ([] : List Int), 1, hz12, rfl⟩ ?_
        rintro n12 s ⟨x4, x5, x6, x7, hx12, rfl⟩
        have h := hI12 n12 x4 x5 x6 x7 hx12
        refine awp_spine ?_
        refine awp_rc tab [4, 5, 6, 8, 11, 38, 39, 40] [] [] [] [] ⟨62, [(4, .ref 0 0 0), (5, .ref 1 0 0), (6, .ref 2 0 0), (8, .d (.sl t_farkas_table) x2.1), (11, .ref 3 0 0), (38, vi a2), (39, vi x4), (40, vb (decide (x4 < a2)))], [.box [.nils], .box [vi (0 : Int)], .box [vi x5], .box [.d (.sl (.int .i64)) x6, vi x7]]⟩ (by kernel_rfl) (trivial) ?_
        refine then_n (spine_c ?_)
        refine awp_spine ?_
        refine awp_cond (b := decide (x4 < a2)) (by kernel_rfl) (fun hb => ?_) (fun hb => ?_)
        · replace h := h.1 (of_decide_eq_true hb)
          refine awp_skip (then_n (spine_c ?_))
          refine awp_spine ?_
          refine awp_block ?_
          refine awp_spine ?_
          refine awp_rc tab [4, 5, 6, 8, 11, 12, 38, 39] [] [] [] [] ⟨62, [(4, .ref 0 0 0), (5, .ref 1 0 0), (6, .ref 2 0 0), (8, .d (.sl t_farkas_table) x2.1), (11, .ref 3 0 0), (12, vi x4), (38, vi a2), (39, vi x4)], [.box [.nils], .box [vi (0 : Int)], .box [vi x5], .box [.d (.sl (.int .i64)) x6, vi x7]]⟩ (by kernel_rfl) (trivial) ?_
          refine then_n (spine_c ?_)
          refine awp_spine ?_
          obtain ⟨o4, o5, o6, o7, h⟩ := h
          refine awp_dr tab mixed [4, 5, 6, 8, 11, 38, 39] [] [(7, .dat (.agg [vi ((farkas_point_value.fn (x6, x7) (x2.1.getD (Int.toNat (x4 + (1 : Int))) d_farkas_table)).1), vi ((farkas_point_value.fn (x6, x7) (x2.1.getD (Int.toNat (x4 + (1 : Int))) d_farkas_table)).2)])), (8, .dat (.tup [.agg [.d (.sl (.int .i64)) (((farkas_point_with.fn (x6, x7) (farkas_point_value.fn (x6, x7) (x2.1.getD (Int.toNat (x4 + (1 : Int))) d_farkas_table))).1).1), vi (((farkas_point_with.fn (x6, x7) (farkas_point_value.fn (x6, x7) (x2.1.getD (Int.toNat (x4 + (1 : Int))) d_farkas_table))).1).2)], vi ((farkas_point_with.fn (x6, x7) (farkas_point_value.fn (x6, x7) (x2.1.getD (Int.toNat (x4 + (1 : Int))) d_farkas_table))).2)]))] [] ⟨[[], [], [], [], [3], [2, 3, 4], [2, 3, 4, 5], [1, 2, 3, 4, 5, 6], [0, 1, 2, 3, 4, 5, 6, 7], [0, 1, 2, 3, 4, 5, 6, 7, 8], [0, 1, 2, 3, 4, 5, 6, 7, 8, 9], [0, 1, 2, 3, 4, 5, 6, 7, 8, 9], [0, 1, 2, 3, 4, 5, 6, 7, 8, 9, 10], [0, 1, 2, 3, 4, 5, 6, 7, 8, 9, 10, 11, 12]], [.agg [.d (.sl (.int .i64)) x6, vi x7], .agg [.d (.sl (.int .i64)) x6, vi x7], .d (.sl t_farkas_table) x2.1, vi x4, vi (x4 + (1 : Int)), .er [vi ((x2.1.getD (Int.toNat (x4 + (1 : Int))) d_farkas_table).1), .d (.sl t_farkas_row) ((x2.1.getD (Int.toNat (x4 + (1 : Int))) d_farkas_table).2)], .agg [vi ((x2.1.getD (Int.toNat (x4 + (1 : Int))) d_farkas_table).1), .d (.sl t_farkas_row) ((x2.1.getD (Int.toNat (x4 + (1 : Int))) d_farkas_table).2)], .agg [vi ((farkas_point_value.fn (x6, x7) (x2.1.getD (Int.toNat (x4 + (1 : Int))) d_farkas_table)).1), vi ((farkas_point_value.fn (x6, x7) (x2.1.getD (Int.toNat (x4 + (1 : Int))) d_farkas_table)).2)], .tup [.agg [.d (.sl (.int .i64)) (((farkas_point_with.fn (x6, x7) (farkas_point_value.fn (x6, x7) (x2.1.getD (Int.toNat (x4 + (1 : Int))) d_farkas_table))).1).1), vi (((farkas_point_with.fn (x6, x7) (farkas_point_value.fn (x6, x7) (x2.1.getD (Int.toNat (x4 + (1 : Int))) d_farkas_table))).1).2)], vi ((farkas_point_with.fn (x6, x7) (farkas_point_value.fn (x6, x7) (x2.1.getD (Int.toNat (x4 + (1 : Int))) d_farkas_table))).2)], .tup [.agg [.d (.sl (.int .i64)) (((farkas_point_with.fn (x6, x7) (farkas_point_value.fn (x6, x7) (x2.1.getD (Int.toNat (x4 + (1 : Int))) d_farkas_table))).1).1), vi (((farkas_point_with.fn (x6, x7) (farkas_point_value.fn (x6, x7) (x2.1.getD (Int.toNat (x4 + (1 : Int))) d_farkas_table))).1).2)], vi ((farkas_point_with.fn (x6, x7) (farkas_point_value.fn (x6, x7) (x2.1.getD (Int.toNat (x4 + (1 : Int))) d_farkas_table))).2)], .agg [.d (.sl (.int .i64)) (((farkas_point_with.fn (x6, x7) (farkas_point_value.fn (x6, x7) (x2.1.getD (Int.toNat (x4 + (1 : Int))) d_farkas_table))).1).1), vi (((farkas_point_with.fn (x6, x7) (farkas_point_value.fn (x6, x7) (x2.1.getD (Int.toNat (x4 + (1 : Int))) d_farkas_table))).1).2)], vi ((farkas_point_with.fn (x6, x7) (farkas_point_value.fn (x6, x7) (x2.1.getD (Int.toNat (x4 + (1 : Int))) d_farkas_table))).2), .tup [], .tup []], [none, none, none, none, some (-9223372036854775808 ≤ x4 + (1 : Int) ∧ x4 + (1 : Int) ≤ 9223372036854775807), some ((0 : Int) ≤ (x4 + (1 : Int)) ∧ (x4 + (1 : Int)) < (x2.1.length : Int)), none, some (OkC prog 33 [.agg [.d (.sl (.int .i64)) x6, vi x7], .agg [vi ((x2.1.getD (Int.toNat (x4 + (1 : Int))) d_farkas_table).1), .d (.sl t_farkas_row) ((x2.1.getD (Int.toNat (x4 + (1 : Int))) d_farkas_table).2)]] (.agg [vi ((farkas_point_value.fn (x6, x7) (x2.1.getD (Int.toNat (x4 + (1 : Int))) d_farkas_table)).1), vi ((farkas_point_value.fn (x6, x7) (x2.1.getD (Int.toNat (x4 + (1 : Int))) d_farkas_table)).2)])), some (OkC prog 32 [.agg [.d (.sl (.int .i64)) x6, vi x7], .agg [vi ((farkas_point_value.fn (x6, x7) (x2.1.getD (Int.toNat (x4 + (1 : Int))) d_farkas_table)).1), vi ((farkas_point_value.fn (x6, x7) (x2.1.getD (Int.toNat (x4 + (1 : Int))) d_farkas_table)).2)]] (.tup [.agg [.d (.sl (.int .i64)) (((farkas_point_with.fn (x6, x7) (farkas_point_value.fn (x6, x7) (x2.1.getD (Int.toNat (x4 + (1 : Int))) d_farkas_table))).1).1), vi (((farkas_point_with.fn (x6, x7) (farkas_point_value.fn (x6, x7) (x2.1.getD (Int.toNat (x4 + (1 : Int))) d_farkas_table))).1).2)], vi ((farkas_point_with.fn (x6, x7) (farkas_point_value.fn (x6, x7) (x2.1.getD (Int.toNat (x4 + (1 : Int))) d_farkas_table))).2)])), none, none, none, none, none], [12, 13], [([], [.box [.nils], .box [vi (0 : Int)], .box [vi x5], .box [.d (.sl (.int .i64)) x6, vi x7]]), ([12], [.box [.nils], .box [vi (0 : Int)], .box [vi x5], .box [.d (.sl (.int .i64)) (((farkas_point_with.fn (x6, x7) (farkas_point_value.fn (x6, x7) (x2.1.getD (Int.toNat (x4 + (1 : Int))) d_farkas_table))).1).1), vi (((farkas_point_with.fn (x6, x7) (farkas_point_value.fn (x6, x7) (x2.1.getD (Int.toNat (x4 + (1 : Int))) d_farkas_table))).1).2)]]), ([12, 13], [.box [.nils], .box [vi (0 : Int)], .box [vi ((farkas_point_with.fn (x6, x7) (farkas_point_value.fn (x6, x7) (x2.1.getD (Int.toNat (x4 + (1 : Int))) d_farkas_table))).2)], .box [.d (.sl (.int .i64)) (((farkas_point_with.fn (x6, x7) (farkas_point_value.fn (x6, x7) (x2.1.getD (Int.toNat (x4 + (1 : Int))) d_farkas_table))).1).1), vi (((farkas_point_with.fn (x6, x7) (farkas_point_value.fn (x6, x7) (x2.1.getD (Int.toNat (x4 + (1 : Int))) d_farkas_table))).1).2)]])]⟩ ⟨62, [(4, .ref 0 0 0), (5, .ref 1 0 0), (6, .ref 2 0 0), (8, .d (.sl t_farkas_table) x2.1), (11, .ref 3 0 0), (38, vi a2), (39, vi x4)], [.box [.nils], .box [vi (0 : Int)], .box [vi ((farkas_point_with.fn (x6, x7) (farkas_point_value.fn (x6, x7) (x2.1.getD (Int.toNat (x4 + (1 : Int))) d_farkas_table))).2)], .box [.d (.sl (.int .i64)) (((farkas_point_with.fn (x6, x7) (farkas_point_value.fn (x6, x7) (x2.1.getD (Int.toNat (x4 + (1 : Int))) d_farkas_table))).1).1), vi (((farkas_point_with.fn (x6, x7) (farkas_point_value.fn (x6, x7) (x2.1.getD (Int.toNat (x4 + (1 : Int))) d_farkas_table))).1).2)]]⟩ (by kernel_rfl) (AllO.n (AllO.n (AllO.n (AllO.n (AllO.s (o4) (AllO.s (o5) (AllO.n (AllO.s (ok_farkas_point_value (x6, x7) (x2.1.getD (Int.toNat (x4 + (1 : Int))) d_farkas_table) (o6)) (AllO.s (ok_farkas_point_with (x6, x7) (farkas_point_value.fn (x6, x7) (x2.1.getD (Int.toNat (x4 + (1 : Int))) d_farkas_table)) (o7)) (AllO.n (AllO.n (AllO.n (AllO.n (AllO.n (AllO.e))))))))))))))) ?_
          refine then_n (spine_c ?_)
          refine awp_abs (fun (x13 : farkas_fraction) => ⟨62, [(4, .ref 0 0 0), (5, .ref 1 0 0), (6, .ref 2 0 0), (8, .d (.sl t_farkas_table) x2.1), (11, .ref 3 0 0), (38, vi a2), (39, vi x4)], [.box [.nils], .box [vi (0 : Int)], .box [vi ((farkas_point_with.fn (x6, x7) x13).2)], .box [.d (.sl (.int .i64)) (((farkas_point_with.fn (x6, x7) x13).1).1), vi (((farkas_point_with.fn (x6, x7) x13).1).2)]]⟩) (farkas_point_value.fn (x6, x7) (x2.1.getD (Int.toNat (x4 + (1 : Int))) d_farkas_table)) ?_
          intro x13 hx13
          replace h := h x13 hx13
          refine awp_abs (fun (x14 : farkas_point × Int) => ⟨62, [(4, .ref 0 0 0), (5, .ref 1 0 0), (6, .ref 2 0 0), (8, .d (.sl t_farkas_table) x2.1), (11, .ref 3 0 0), (38, vi a2), (39, vi x4)], [.box [.nils], .box [vi (0 : Int)], .box [vi x14.2], .box [.d (.sl (.int .i64)) x14.1.1, vi x14.1.2]]⟩) (farkas_point_with.fn (x6, x7) x13) ?_
          intro x14 hx14
          replace h := h x14 hx14
          refine awp_abs (fun (x15 : Int) => ⟨62, [(4, .ref 0 0 0), (5, .ref 1 0 0), (6, .ref 2 0 0), (8, .d (.sl t_farkas_table) x2.1), (11, .ref 3 0 0), (38, vi a2), (39, vi x4)], [.box [.nils], .box [vi (0 : Int)], .box [vi x15], .box [.d (.sl (.int .i64)) x14.1.1, vi x14.1.2]]⟩) (x14.2) ?_
          intro x15 hx15
          replace h := h x15 hx15
          refine awp_abs (fun (x16 : (List Int)) => ⟨62, [(4, .ref 0 0 0), (5, .ref 1 0 0), (6, .ref 2 0 0), (8, .d (.sl t_farkas_table) x2.1), (11, .ref 3 0 0), (38, vi a2), (39, vi x4)], [.box [.nils], .box [vi (0 : Int)], .box [vi x15], .box [.d (.sl (.int .i64)) x16, vi x14.1.2]]⟩) (x14.1.1) ?_
          intro x16 hx16
          replace h := h x16 hx16
          refine awp_abs (fun (x17 : Int) => ⟨62, [(4, .ref 0 0 0), (5, .ref 1 0 0), (6, .ref 2 0 0), (8, .d (.sl t_farkas_table) x2.1), (11, .ref 3 0 0), (38, vi a2), (39, vi x4)], [.box [.nils], .box [vi (0 : Int)], .box [vi x15], .box [.d (.sl (.int .i64)) x16, vi x17]]⟩) (x14.1.2) ?_
          intro x17 hx17
          replace h := h x17 hx17
          refine awp_spine ?_
          refine awp_rc tab [4, 5, 6, 8, 11, 38, 39, 55] [] [] [] [] ⟨62, [(4, .ref 0 0 0), (5, .ref 1 0 0), (6, .ref 2 0 0), (8, .d (.sl t_farkas_table) x2.1), (11, .ref 3 0 0), (38, vi a2), (39, vi x4), (55, vb (x15 != (0 : Int)))], [.box [.nils], .box [vi (0 : Int)], .box [vi x15], .box [.d (.sl (.int .i64)) x16, vi x17]]⟩ (by kernel_rfl) (trivial) ?_
          refine then_n (spine_c ?_)
          refine awp_cond (b := x15 != (0 : Int)) (by kernel_rfl) (fun hb => ?_) (fun hb => ?_)
          · replace h := h.1 (bne_iff_ne.mp hb)
            refine awp_spine ?_
            refine awp_dr tab mixed [4, 5, 6] [] [] [] ⟨[[], [], [1], [0, 1, 2]], [vi x15, .tup [], .tup [], .tup []], [none, none, none, none], [], [([], [.box [.nils], .box [vi (0 : Int)], .box [vi x15], .box [.d (.sl (.int .i64)) x16, vi x17]])]⟩ ⟨62, [(4, .ref 0 0 0), (5, .ref 1 0 0), (6, .ref 2 0 0)], [.box [.nils], .box [vi (0 : Int)], .box [vi x15], .box [.d (.sl (.int .i64)) x16, vi x17]]⟩ (by kernel_rfl) (AllO.n (AllO.n (AllO.n (AllO.n (AllO.e))))) ?_
            refine then_n (spine_c ?_)
            refine awp_ret (then_r (then_r (then_r (then_r (blk_r (then_r (then_r (then_r (then_r (blk_r (then_r (?_))))))))))))
            refine retD tab hkE rfl hD (.inr rfl) Try.func31 (cg := (spine (subC [0] Bfarkas_Inner_1) [(.cond (.tmp 4) (subC [1, 0] Bfarkas_Inner_1) .skip)])) (by kernel_rfl) call_farkas_Inner_1 (by kernel_rfl) (by kernel_rfl) (s' := ⟨62, [(4, .ref 0 0 0), (5, .ref 1 0 0), (6, .ref 2 0 0)], [.box [.d (.sl (.int .i64)) ([] : List Int)], .box [vi (0 : Int)], .box [vi x15], .dead]⟩) (wk_ghosts hk (l := [.keep [4, 5, 6], .freeze 3, .nilBox 0 [0] (.int .i64)]) (by kernel_rfl)) fun cxg hgd hgi hk => ?_
            show AWp prog cxg _ _ ⟨5, [(0, .ref 2 0 0), (1, .ref 0 0 0), (2, .ref 1 0 0)], [.box [.d (.sl (.int .i64)) ([] : List Int)], .box [vi (0 : Int)], .box [vi x15], .dead]⟩
            replace hk : cxg.E.len = 4 := hk
            refine awp_spine ?_
            refine awp_rc tab [1, 2, 4] [] [] [] [] ⟨5, [(1, .ref 0 0 0), (2, .ref 1 0 0), (4, vb (x15 != (0 : Int)))], [.box [.d (.sl (.int .i64)) ([] : List Int)], .box [vi (0 : Int)], .box [vi x15], .dead]⟩ (by kernel_rfl) (trivial) ?_
            refine then_n (spine_c ?_)
            refine awp_cond (b := x15 != (0 : Int)) (by kernel_rfl) (fun hb => ?_) (fun hb => ?_)
            · replace h := h.1 (bne_iff_ne.mp hb)
              refine awp_rc tab [] [] [] [] [] ⟨5, [], [.box [.nils], .box [vi (0 : Int)], .box [vi x15], .dead]⟩ (by kernel_rfl) (trivial) ?_
              refine then_n (spine_e ?_)
              exact endG (m := 0) (he := .inl rfl) (r := .tup [.d (.sl (.int .i64)) ((([] : List Int), 0, x15).1), vi ((([] : List Int), 0, x15).2.1), vi ((([] : List Int), 0, x15).2.2)]) (objs := []) (hE := hkE) (hk0 := rfl) [.keep [4, 5, 6], .nilBox 0 [0] (.int .i64), .keep [4, 5, 6]] ⟨62, [(4, .ref 0 0 0), (5, .ref 1 0 0), (6, .ref 2 0 0)], [.box [.d (.sl (.int .i64)) ([] : List Int)], .box [vi (0 : Int)], .box [vi x15], .dead]⟩ (by kernel_rfl) (by kernel_rfl) (Nat.le_refl 0) ⟨(([] : List Int), 0, x15), rfl, rfl, h⟩
            · replace h := h.2 (bne_f hb)
              refine awp_skip (then_n (spine_e ?_))
              exact endG (m := 0) (he := .inl rfl) (r := .tup [.d (.sl (.int .i64)) ((([] : List Int), 0, x15).1), vi ((([] : List Int), 0, x15).2.1), vi ((([] : List Int), 0, x15).2.2)]) (objs := []) (hE := hkE) (hk0 := rfl) [.keep [4, 5, 6]] ⟨62, [(4, .ref 0 0 0), (5, .ref 1 0 0), (6, .ref 2 0 0)], [.box [.d (.sl (.int .i64)) ([] : List Int)], .box [vi (0 : Int)], .box [vi x15], .dead]⟩ (by kernel_rfl) (by kernel_rfl) (Nat.le_refl 0) ⟨(([] : List Int), 0, x15), rfl, rfl, h⟩
          · replace h := h.2 (bne_f hb)
            refine awp_skip (then_n (spine_e (then_n (spine_e (then_n (spine_e (blk_n (then_n (spine_c ?_)))))))))
            obtain ⟨o108, h⟩ := h
            refine awp_rc tab [4, 5, 6, 8, 11, 38, 39] [] [] [] [-9223372036854775808 ≤ x4 + (1 : Int) ∧ x4 + (1 : Int) ≤ 9223372036854775807] ⟨62, [(4, .ref 0 0 0), (5, .ref 1 0 0), (6, .ref 2 0 0), (8, .d (.sl t_farkas_table) x2.1), (11, .ref 3 0 0), (38, vi a2), (39, vi (x4 + (1 : Int)))], [.box [.nils], .box [vi (0 : Int)], .box [vi x15], .box [.d (.sl (.int .i64)) x16, vi x17]]⟩ (by kernel_rfl) (AllP.of (o108) trivial) ?_
            refine then_n (spine_e (then_n (spine_e (then_n (spine_e (then_n (?_)))))))
            obtain ⟨m, hm, h⟩ := h
            exact ⟨m, hm, ⟨62, [(4, .ref 0 0 0), (5, .ref 1 0 0), (6, .ref 2 0 0), (8, .d (.sl t_farkas_table) x2.1), (11, .ref 3 0 0), (38, vi a2), (39, vi (x4 + (1 : Int)))], [.box [.nils], .box [vi (0 : Int)], .box [vi x15], .box [.d (.sl (.int .i64)) x16, vi x17]]⟩, wk_ghosts hk (l := [.keep [4, 5, 6, 8, 11, 38, 39], .keep [4, 5, 6, 8, 11, 38, 39], .keep [4, 5, 6, 8, 11, 38, 39]]) (by kernel_rfl), x4 + (1 : Int), x15, x16, x17, h, rfl⟩
        · replace h := h.2 (of_decide_eq_false hb)
          refine awp_exit (then_x (then_x (then_x (blk_h (then_n (spine_c ?_))))))
          refine awp_spine ?_
          refine awp_dr tab mixed [4, 5, 6] [] [] [] ⟨[[], [0], [], [2], [0, 1], [0, 1, 2, 3, 4], [0, 1, 2, 3, 4, 5]], [.ref 3 0 0, .d (.sl (.int .i64)) x6, .ref 3 0 1, vi x7, .tup [], .tup [], .tup []], [none, none, none, none, none, none, none], [4, 5, 6], [([], [.box [.nils], .box [vi (0 : Int)], .box [vi x5], .box [.d (.sl (.int .i64)) x6, vi x7]]), ([4], [.box [.d (.sl (.int .i64)) x6], .box [vi (0 : Int)], .box [vi x5], .box [.d (.sl (.int .i64)) x6, vi x7]]), ([4, 5], [.box [.d (.sl (.int .i64)) x6], .box [vi x7], .box [vi x5], .box [.d (.sl (.int .i64)) x6, vi x7]]), ([4, 5, 6], [.box [.d (.sl (.int .i64)) x6], .box [vi x7], .box [vi (0 : Int)], .box [.d (.sl (.int .i64)) x6, vi x7]])]⟩ ⟨62, [(4, .ref 0 0 0), (5, .ref 1 0 0), (6, .ref 2 0 0)], [.box [.d (.sl (.int .i64)) x6], .box [vi x7], .box [vi (0 : Int)], .box [.d (.sl (.int .i64)) x6, vi x7]]⟩ (by kernel_rfl) (AllO.n (AllO.n (AllO.n (AllO.n (AllO.n (AllO.n (AllO.n (AllO.e)))))))) ?_
          refine then_n (spine_c ?_)
          refine awp_ret (then_r (then_r (?_)))
          refine retD tab hkE rfl hD (.inr rfl) Try.func31 (cg := (spine (subC [0] Bfarkas_Inner_1) [(.cond (.tmp 4) (subC [1, 0] Bfarkas_Inner_1) .skip)])) (by kernel_rfl) call_farkas_Inner_1 (by kernel_rfl) (by kernel_rfl) (s' := ⟨62, [(4, .ref 0 0 0), (5, .ref 1 0 0), (6, .ref 2 0 0)], [.box [.d (.sl (.int .i64)) x6], .box [vi x7], .box [vi (0 : Int)], .dead]⟩) (wk_ghosts hk (l := [.keep [4, 5, 6], .freeze 3]) (by kernel_rfl)) fun cxg hgd hgi hk => ?_
          show AWp prog cxg _ _ ⟨5, [(0, .ref 2 0 0), (1, .ref 0 0 0), (2, .ref 1 0 0)], [.box [.d (.sl (.int .i64)) x6], .box [vi x7], .box [vi (0 : Int)], .dead]⟩
          replace hk : cxg.E.len = 4 := hk
          refine awp_spine ?_
          refine awp_rc tab [1, 2, 4] [] [] [] [] ⟨5, [(1, .ref 0 0 0), (2, .ref 1 0 0), (4, vb ((0 : Int) != (0 : Int)))], [.box [.d (.sl (.int .i64)) x6], .box [vi x7], .box [vi (0 : Int)], .dead]⟩ (by kernel_rfl) (trivial) ?_
          refine then_n (spine_c ?_)
          refine awp_cond (b := (0 : Int) != (0 : Int)) (by kernel_rfl) (fun hb => ?_) (fun hb => ?_)
          · replace h := h.1 (bne_iff_ne.mp hb)
            refine awp_rc tab [] [] [] [] [] ⟨5, [], [.box [.nils], .box [vi (0 : Int)], .box [vi (0 : Int)], .dead]⟩ (by kernel_rfl) (trivial) ?_
            refine then_n (spine_e ?_)
            exact endG (m := 0) (he := .inl rfl) (r := .tup [.d (.sl (.int .i64)) ((([] : List Int), 0, 0).1), vi ((([] : List Int), 0, 0).2.1), vi ((([] : List Int), 0, 0).2.2)]) (objs := []) (hE := hkE) (hk0 := rfl) [.keep [4, 5, 6], .nilBox 0 [0] (.int .i64), .keep [4, 5, 6]] ⟨62, [(4, .ref 0 0 0), (5, .ref 1 0 0), (6, .ref 2 0 0)], [.box [.d (.sl (.int .i64)) ([] : List Int)], .box [vi (0 : Int)], .box [vi (0 : Int)], .dead]⟩ (by kernel_rfl) (by kernel_rfl) (Nat.le_refl 0) ⟨(([] : List Int), 0, 0), rfl, rfl, h⟩
          · replace h := h.2 (bne_f hb)
            refine awp_skip (then_n (spine_e ?_))
            exact endG (m := 0) (he := .inl rfl) (r := .tup [.d (.sl (.int .i64)) ((x6, x7, 0).1), vi ((x6, x7, 0).2.1), vi ((x6, x7, 0).2.2)]) (objs := []) (hE := hkE) (hk0 := rfl) [.keep [4, 5, 6]] ⟨62, [(4, .ref 0 0 0), (5, .ref 1 0 0), (6, .ref 2 0 0)], [.box [.d (.sl (.int .i64)) x6], .box [vi x7], .box [vi (0 : Int)], .dead]⟩ (by kernel_rfl) (by kernel_rfl) (Nat.le_refl 0) ⟨(x6, x7, 0), rfl, rfl, h⟩
theorem ok_farkas_Inner (a1 : (List api_Cond)) (a2 : Int) : OkC prog 13 [.d (.sl t_api_Cond) a1, vi a2] (.tup [.d (.sl (.int .i64)) ((farkas_Inner.fn a1 a2).1), vi ((farkas_Inner.fn a1 a2).2.1), vi ((farkas_Inner.fn a1 a2).2.2)]) :=
  OkC.of call_farkas_Inner ((walk_farkas_Inner a1 a2 _ (farkas_Inner.spec a1 a2)).mono fun r o ⟨x, hr, ho, hx⟩ => ⟨by rw [hr, hx], ho⟩) rfl rfl (fun _ => rfl)

noncomputable abbrev Bfarkas_Prove : Code := bodyOf Try.f11
theorem call_farkas_Prove : CallOk prog 11 := ⟨_, Try.func11, by kernel_rfl, by kernel_rfl⟩
theorem walk_farkas_Prove (a1 : (List api_Cond)) (a2 : Int) (Q : (List Int) × Int → Prop) (h : farkas_Prove.wp a1 a2 Q) : VCalls prog 11 [.d (.sl t_api_Cond) a1, vi a2] [] (fun r o => ∃ x, r = .tup [.d (.sl (.int .i64)) x.1, vi x.2] ∧ o = [] ∧ Q x) := by
  refine vcalls_body tab Try.func11 (c := (spine (subC [0] Bfarkas_Prove) [(spine (subC [1, 0, 0] Bfarkas_Prove) [(spine (subC [1, 0, 1, 0] Bfarkas_Prove) [(.cond (.tmp 15) (spine (subC [1, 0, 1, 1, 0, 0] Bfarkas_Prove) [.ret]) .skip)]), (spine (subC [1, 1, 0] Bfarkas_Prove) [(spine (subC [1, 1, 1, 0, 0] Bfarkas_Prove) [(.cond (.tmp 24) (spine (subC [1, 1, 1, 0, 1, 0, 0] Bfarkas_Prove) [.ret]) .skip), (spine (subC [1, 1, 1, 1, 0] Bfarkas_Prove) [(spine (subC [1, 1, 1, 1, 1, 0, 0] Bfarkas_Prove) [(.cond (.tmp 34) (spine (subC [1, 1, 1, 1, 1, 0, 1, 0, 0] Bfarkas_Prove) [.ret]) .skip), (spine (subC [1, 1, 1, 1, 1, 1, 0] Bfarkas_Prove) [.ret])])])])])])])) (by kernel_rfl) (Nat.le_of_ble_eq_true (by kernel_rfl)) fun cx hd hi hk => ?_
  show AWp prog cx _ _ ⟨36, [(0, .d (.sl t_api_Cond) a1), (1, vi a2)], []⟩
  replace hk : cx.E.len = 0 := hk
  unfold farkas_Prove.wp at h
  refine awp_spine ?_
  refine awp_rc tab [0, 1] [] [] [] [] ⟨36, [(0, .d (.sl t_api_Cond) a1), (1, vi a2)], []⟩ (by kernel_rfl) (trivial) ?_
  refine then_n (spine_c ?_)
  refine awp_spine ?_
  refine awp_rc tab [0, 1, 6] [] [(2, .dat (vi (farkas_asked.fn a1 a2)))] [] [OkC prog 25 [.d (.sl t_api_Cond) a1, vi a2] (vi (farkas_asked.fn a1 a2))] ⟨36, [(0, .d (.sl t_api_Cond) a1), (1, vi a2), (6, vi (farkas_asked.fn a1 a2))], []⟩ (by kernel_rfl) (AllP.of (ok_farkas_asked a1 a2) trivial) ?_
  refine then_n (spine_c ?_)
  refine awp_abs (fun (x1 : Int) => ⟨36, [(0, .d (.sl t_api_Cond) a1), (1, vi a2), (6, vi x1)], []⟩) (farkas_asked.fn a1 a2) ?_
  intro x1 hx1
  replace h := h x1 hx1
  refine awp_spine ?_
  refine awp_rc tab [0, 1, 6, 15] [] [] [] [] ⟨36, [(0, .d (.sl t_api_Cond) a1), (1, vi a2), (6, vi x1), (15, vb (x1 != (0 : Int)))], []⟩ (by kernel_rfl) (trivial) ?_
  refine then_n (spine_c ?_)
  refine awp_cond (b := x1 != (0 : Int)) (by kernel_rfl) (fun hb => ?_) (fun hb => ?_)
  · replace h := h.1 (bne_iff_ne.mp hb)
    refine awp_spine ?_
    refine awp_rc tab [4, 5] [] [] [] [] ⟨36, [(4, .nils), (5, vi x1)], []⟩ (by kernel_rfl) (trivial) ?_
    refine then_n (spine_c ?_)
    refine awp_ret (then_r (then_r (then_r (then_r (?_)))))
    exact ret_r (m := 0) (r := .tup [.d (.sl (.int .i64)) ((([] : List Int), x1).1), vi ((([] : List Int), x1).2)]) (objs := []) hk [.keep [4, 5], .nilAt 4 [] (.int .i64), .keep [4, 5]] ⟨36, [(4, .d (.sl (.int .i64)) ([] : List Int)), (5, vi x1)], []⟩ (by kernel_rfl) (by kernel_rfl) (Nat.le_refl 0) ⟨(([] : List Int), x1), rfl, rfl, h⟩
  · replace h := h.2 (bne_f hb)
    refine awp_skip (then_n (spine_e (then_n (spine_c ?_))))
    refine awp_spine ?_
    obtain ⟨o1, h⟩ := h
    refine awp_rc tab [7, 8] [] [(2, .dat (.tup [.d (.sl t_farkas_table) ((farkas_eliminated.fn a1 a2).1), vi ((farkas_eliminated.fn a1 a2).2)]))] [] [OkC prog 26 [.d (.sl t_api_Cond) a1, vi a2] (.tup [.d (.sl t_farkas_table) ((farkas_eliminated.fn a1 a2).1), vi ((farkas_eliminated.fn a1 a2).2)])] ⟨36, [(7, .d (.sl t_farkas_table) ((farkas_eliminated.fn a1 a2).1)), (8, vi ((farkas_eliminated.fn a1 a2).2))], []⟩ (by kernel_rfl) (AllP.of (ok_farkas_eliminated a1 a2 (o1)) trivial) ?_
    refine then_n (spine_c ?_)
    refine awp_abs (fun (x2 : (List farkas_table) × Int) => ⟨36, [(7, .d (.sl t_farkas_table) x2.1), (8, vi x2.2)], []⟩) (farkas_eliminated.fn a1 a2) ?_
    intro x2 hx2
    replace h := h x2 hx2
    refine awp_spine ?_
    refine awp_rc tab [7, 8, 24] [] [] [] [] ⟨36, [(7, .d (.sl t_farkas_table) x2.1), (8, vi x2.2), (24, vb (x2.2 != (0 : Int)))], []⟩ (by kernel_rfl) (trivial) ?_
    refine then_n (spine_c ?_)
    refine awp_cond (b := x2.2 != (0 : Int)) (by kernel_rfl) (fun hb => ?_) (fun hb => ?_)
    · replace h := h.1 (bne_iff_ne.mp hb)
      refine awp_spine ?_
      refine awp_rc tab [4, 5] [] [] [] [] ⟨36, [(4, .nils), (5, vi x2.2)], []⟩ (by kernel_rfl) (trivial) ?_
      refine then_n (spine_c ?_)
      refine awp_ret (then_r (then_r (then_r (then_r (then_r (?_))))))
      exact ret_r (m := 0) (r := .tup [.d (.sl (.int .i64)) ((([] : List Int), x2.2).1), vi ((([] : List Int), x2.2).2)]) (objs := []) hk [.keep [4, 5], .nilAt 4 [] (.int .i64), .keep [4, 5]] ⟨36, [(4, .d (.sl (.int .i64)) ([] : List Int)), (5, vi x2.2)], []⟩ (by kernel_rfl) (by kernel_rfl) (Nat.le_refl 0) ⟨(([] : List Int), x2.2), rfl, rfl, h⟩
    · replace h := h.2 (bne_f hb)
      refine awp_skip (then_n (spine_c ?_))
      refine awp_spine ?_
      obtain ⟨o2, o3, h⟩ := h
      refine awp_rc tab [9, 10] [] [(3, .dat (.tup [.d (.sl (.int .i64)) ((farkas_table_refuted.fn (x2.1.getD (Int.toNat (0 : Int)) d_farkas_table)).1), vb ((farkas_table_refuted.fn (x2.1.getD (Int.toNat (0 : Int)) d_farkas_table)).2)]))] [] [(0 : Int) ≤ (0 : Int) ∧ (0 : Int) < (x2.1.length : Int), OkC prog 27 [.agg [vi ((x2.1.getD (Int.toNat (0 : Int)) d_farkas_table).1), .d (.sl t_farkas_row) ((x2.1.getD (Int.toNat (0 : Int)) d_farkas_table).2)]] (.tup [.d (.sl (.int .i64)) ((farkas_table_refuted.fn (x2.1.getD (Int.toNat (0 : Int)) d_farkas_table)).1), vb ((farkas_table_refuted.fn (x2.1.getD (Int.toNat (0 : Int)) d_farkas_table)).2)])] ⟨36, [(9, .d (.sl (.int .i64)) ((farkas_table_refuted.fn (x2.1.getD (Int.toNat (0 : Int)) d_farkas_table)).1)), (10, vb ((farkas_table_refuted.fn (x2.1.getD (Int.toNat (0 : Int)) d_farkas_table)).2))], []⟩ (by kernel_rfl) (AllP.of (o2) (AllP.of (ok_farkas_table_refuted (x2.1.getD (Int.toNat (0 : Int)) d_farkas_table) (o3)) trivial)) ?_
      refine then_n (spine_c ?_)
      refine awp_abs (fun (x3 : (List Int) × Bool) => ⟨36, [(9, .d (.sl (.int .i64)) x3.1), (10, vb x3.2)], []⟩) (farkas_table_refuted.fn (x2.1.getD (Int.toNat (0 : Int)) d_farkas_table)) ?_
      intro x3 hx3
      replace h := h x3 hx3
      refine awp_abs (fun (x4 : (List Int)) => ⟨36, [(9, .d (.sl (.int .i64)) x4), (10, vb x3.2)], []⟩) (x3.1) ?_
      intro x4 hx4
      replace h := h x4 hx4
      refine awp_spine ?_
      refine awp_rc tab [9, 34] [] [] [] [] ⟨36, [(9, .d (.sl (.int .i64)) x4), (34, vb (!x3.2))], []⟩ (by kernel_rfl) (trivial) ?_
      refine then_n (spine_c ?_)
      refine awp_cond (b := !x3.2) (by kernel_rfl) (fun hb => ?_) (fun hb => ?_)
      · replace h := h.1 ((nt hb))
        refine awp_spine ?_
        refine awp_rc tab [4, 5] [] [] [] [] ⟨36, [(4, .nils), (5, vi (5 : Int))], []⟩ (by kernel_rfl) (trivial) ?_
        refine then_n (spine_c ?_)
        refine awp_ret (then_r (then_r (then_r (then_r (then_r (then_r (then_r (?_))))))))
        exact ret_r (m := 0) (r := .tup [.d (.sl (.int .i64)) ((([] : List Int), 5).1), vi ((([] : List Int), 5).2)]) (objs := []) hk [.keep [4, 5], .nilAt 4 [] (.int .i64), .keep [4, 5]] ⟨36, [(4, .d (.sl (.int .i64)) ([] : List Int)), (5, vi (5 : Int))], []⟩ (by kernel_rfl) (by kernel_rfl) (Nat.le_refl 0) ⟨(([] : List Int), 5), rfl, rfl, h⟩
      · replace h := h.2 ((nf hb))
        refine awp_skip (then_n (spine_c ?_))
        refine awp_spine ?_
        refine awp_rc tab [4, 5] [] [] [] [] ⟨36, [(4, .d (.sl (.int .i64)) x4), (5, vi (0 : Int))], []⟩ (by kernel_rfl) (trivial) ?_
        refine then_n (spine_c ?_)
        refine awp_ret (then_r (then_r (then_r (then_r (then_r (then_r (then_r (?_))))))))
        exact ret_r (m := 0) (r := .tup [.d (.sl (.int .i64)) ((x4, 0).1), vi ((x4, 0).2)]) (objs := []) hk [.keep [4, 5]] ⟨36, [(4, .d (.sl (.int .i64)) x4), (5, vi (0 : Int))], []⟩ (by kernel_rfl) (by kernel_rfl) (Nat.le_refl 0) ⟨(x4, 0), rfl, rfl, h⟩
theorem ok_farkas_Prove (a1 : (List api_Cond)) (a2 : Int) : OkC prog 11 [.d (.sl t_api_Cond) a1, vi a2] (.tup [.d (.sl (.int .i64)) ((farkas_Prove.fn a1 a2).1), vi ((farkas_Prove.fn a1 a2).2)]) :=
  OkC.of call_farkas_Prove ((walk_farkas_Prove a1 a2 _ (farkas_Prove.spec a1 a2)).mono fun r o ⟨x, hr, ho, hx⟩ => ⟨by rw [hr, hx], ho⟩) rfl rfl (fun _ => rfl)

end Go.Proofs.Ytlncingakpelbaa
