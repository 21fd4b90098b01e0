/- Part of a proof that a law of the program holds for every input: printed by a program of this work. No conditions. -/
import Derived.Test.YtlncingakpelbaaK4
namespace Go.Proofs.Ytlncingakpelbaa
open Go
set_option linter.unusedVariables false
set_option maxHeartbeats 4000000

noncomputable abbrev Bfarkas_Prove : Code := bodyOf Try.f11
theorem call_farkas_Prove : CallOk prog 11 := ⟨_, Try.func11, by kernel_rfl, by kernel_rfl⟩
theorem walk_farkas_Prove (a1 : (List api_Cond)) (a2 : Int) (Q : (List Int) × Int → Prop) (h : farkas_Prove.wp a1 a2 Q) : VCalls prog 11 [.d (.sl t_api_Cond) a1, vi a2] [] (fun r o => ∃ x, r = .tup [.d (.sl (.int .i64)) x.1, vi x.2] ∧ o = [] ∧ Q x) := by
  refine vcalls_body tab Try.func11 (c := (spine (subC [0] Bfarkas_Prove) [(spine (subC [1, 0, 0] Bfarkas_Prove) [(spine (subC [1, 0, 1, 0] Bfarkas_Prove) [(.cond (.tmp 15) (spine (subC [1, 0, 1, 1, 0, 0] Bfarkas_Prove) [.ret]) .skip)]), (spine (subC [1, 1, 0] Bfarkas_Prove) [(spine (subC [1, 1, 1, 0, 0] Bfarkas_Prove) [(.cond (.tmp 24) (spine (subC [1, 1, 1, 0, 1, 0, 0] Bfarkas_Prove) [.ret]) .skip), (spine (subC [1, 1, 1, 1, 0] Bfarkas_Prove) [(spine (subC [1, 1, 1, 1, 1, 0, 0] Bfarkas_Prove) [(.cond (.tmp 34) (spine (subC [1, 1, 1, 1, 1, 0, 1, 0, 0] Bfarkas_Prove) [.ret]) .skip), (spine (subC [1, 1, 1, 1, 1, 1, 0] Bfarkas_Prove) [.ret])])])])])])])) (by kernel_rfl) (Nat.le_of_ble_eq_true (by kernel_rfl)) fun cx hd hi hk => ?_
  show AWp prog cx _ _ ⟨36, [(0, .d (.sl t_api_Cond) a1), (1, vi a2)], []⟩
  replace hk : cx.E.len = 0 := hk
  unfold farkas_Prove.wp at h
  refine awp_spine ?_
  refine awp_rc tab [0, 1] [] [] [] [] ⟨36, [(0, .d (.sl t_api_Cond) a1), (1, vi a2)], []⟩ (by kernel_rfl) (trivial) ?_
  refine then_n (spine_c ?_)
  refine awp_spine ?_
  refine awp_rc tab [0, 1, 6] [] [(2, .dat (vi (farkas_asked.fn a1 a2)))] [] [OkC prog 25 [.d (.sl t_api_Cond) a1, vi a2] (vi (farkas_asked.fn a1 a2))] ⟨36, [(0, .d (.sl t_api_Cond) a1), (1, vi a2), (6, vi (farkas_asked.fn a1 a2))], []⟩ (by kernel_rfl) (AllP.of (ok_farkas_asked a1 a2) trivial) ?_
  refine then_n (spine_c ?_)
  refine awp_abs (fun (x1 : Int) => ⟨36, [(0, .d (.sl t_api_Cond) a1), (1, vi a2), (6, vi x1)], []⟩) (farkas_asked.fn a1 a2) ?_
  intro x1 hx1
  replace h := h x1 hx1
  refine awp_spine ?_
  refine awp_rc tab [0, 1, 6, 15] [] [] [] [] ⟨36, [(0, .d (.sl t_api_Cond) a1), (1, vi a2), (6, vi x1), (15, vb (x1 != (0 : Int)))], []⟩ (by kernel_rfl) (trivial) ?_
  refine then_n (spine_c ?_)
  refine awp_cond (b := x1 != (0 : Int)) (by kernel_rfl) (fun hb => ?_) (fun hb => ?_)
  · replace h := h.1 (bne_iff_ne.mp hb)
    refine awp_spine ?_
    refine awp_rc tab [4, 5] [] [] [] [] ⟨36, [(4, .nils), (5, vi x1)], []⟩ (by kernel_rfl) (trivial) ?_
    refine then_n (spine_c ?_)
    refine awp_ret (then_r (then_r (then_r (then_r (?_)))))
    exact ret_r (m := 0) (r := .tup [.d (.sl (.int .i64)) ((([] : List Int), x1).1), vi ((([] : List Int), x1).2)]) (objs := []) hk [.keep [4, 5], .nilAt 4 [] (.int .i64), .keep [4, 5]] ⟨36, [(4, .d (.sl (.int .i64)) ([] : List Int)), (5, vi x1)], []⟩ (by kernel_rfl) (by kernel_rfl) (Nat.le_refl 0) ⟨(([] : List Int), x1), rfl, rfl, h⟩
  · replace h := h.2 (bne_f hb)
    refine awp_skip (then_n (spine_e (then_n (spine_c ?_))))
    refine awp_spine ?_
    obtain ⟨o1, h⟩ := h
    refine awp_rc tab [7, 8] [] [(2, .dat (.tup [.d (.sl t_farkas_table) ((farkas_eliminated.fn a1 a2).1), vi ((farkas_eliminated.fn a1 a2).2)]))] [] [OkC prog 26 [.d (.sl t_api_Cond) a1, vi a2] (.tup [.d (.sl t_farkas_table) ((farkas_eliminated.fn a1 a2).1), vi ((farkas_eliminated.fn a1 a2).2)])] ⟨36, [(7, .d (.sl t_farkas_table) ((farkas_eliminated.fn a1 a2).1)), (8, vi ((farkas_eliminated.fn a1 a2).2))], []⟩ (by kernel_rfl) (AllP.of (ok_farkas_eliminated a1 a2 (o1)) trivial) ?_
    refine then_n (spine_c ?_)
    refine awp_abs (fun (x2 : (List farkas_table) × Int) => ⟨36, [(7, .d (.sl t_farkas_table) x2.1), (8, vi x2.2)], []⟩) (farkas_eliminated.fn a1 a2) ?_
    intro x2 hx2
    replace h := h x2 hx2
    refine awp_spine ?_
    refine awp_rc tab [7, 8, 24] [] [] [] [] ⟨36, [(7, .d (.sl t_farkas_table) x2.1), (8, vi x2.2), (24, vb (x2.2 != (0 : Int)))], []⟩ (by kernel_rfl) (trivial) ?_
    refine then_n (spine_c ?_)
    refine awp_cond (b := x2.2 != (0 : Int)) (by kernel_rfl) (fun hb => ?_) (fun hb => ?_)
    · replace h := h.1 (bne_iff_ne.mp hb)
      refine awp_spine ?_
      refine awp_rc tab [4, 5] [] [] [] [] ⟨36, [(4, .nils), (5, vi x2.2)], []⟩ (by kernel_rfl) (trivial) ?_
      refine then_n (spine_c ?_)
      refine awp_ret (then_r (then_r (then_r (then_r (then_r (?_))))))
      exact ret_r (m := 0) (r := .tup [.d (.sl (.int .i64)) ((([] : List Int), x2.2).1), vi ((([] : List Int), x2.2).2)]) (objs := []) hk [.keep [4, 5], .nilAt 4 [] (.int .i64), .keep [4, 5]] ⟨36, [(4, .d (.sl (.int .i64)) ([] : List Int)), (5, vi x2.2)], []⟩ (by kernel_rfl) (by kernel_rfl) (Nat.le_refl 0) ⟨(([] : List Int), x2.2), rfl, rfl, h⟩
    · replace h := h.2 (bne_f hb)
      refine awp_skip (then_n (spine_c ?_))
      refine awp_spine ?_
      obtain ⟨o2, o3, h⟩ := h
      refine awp_rc tab [9, 10] [] [(3, .dat (.tup [.d (.sl (.int .i64)) ((farkas_table_refuted.fn (x2.1.getD (Int.toNat (0 : Int)) d_farkas_table)).1), vb ((farkas_table_refuted.fn (x2.1.getD (Int.toNat (0 : Int)) d_farkas_table)).2)]))] [] [(0 : Int) ≤ (0 : Int) ∧ (0 : Int) < (x2.1.length : Int), OkC prog 27 [.agg [vi ((x2.1.getD (Int.toNat (0 : Int)) d_farkas_table).1), .d (.sl t_farkas_row) ((x2.1.getD (Int.toNat (0 : Int)) d_farkas_table).2)]] (.tup [.d (.sl (.int .i64)) ((farkas_table_refuted.fn (x2.1.getD (Int.toNat (0 : Int)) d_farkas_table)).1), vb ((farkas_table_refuted.fn (x2.1.getD (Int.toNat (0 : Int)) d_farkas_table)).2)])] ⟨36, [(9, .d (.sl (.int .i64)) ((farkas_table_refuted.fn (x2.1.getD (Int.toNat (0 : Int)) d_farkas_table)).1)), (10, vb ((farkas_table_refuted.fn (x2.1.getD (Int.toNat (0 : Int)) d_farkas_table)).2))], []⟩ (by kernel_rfl) (AllP.of (o2) (AllP.of (ok_farkas_table_refuted (x2.1.getD (Int.toNat (0 : Int)) d_farkas_table) (o3)) trivial)) ?_
      refine then_n (spine_c ?_)
      refine awp_abs (fun (x3 : (List Int) × Bool) => ⟨36, [(9, .d (.sl (.int .i64)) x3.1), (10, vb x3.2)], []⟩) (farkas_table_refuted.fn (x2.1.getD (Int.toNat (0 : Int)) d_farkas_table)) ?_
      intro x3 hx3
      replace h := h x3 hx3
      refine awp_abs (fun (x4 : (List Int)) => ⟨36, [(9, .d (.sl (.int .i64)) x4), (10, vb x3.2)], []⟩) (x3.1) ?_
      intro x4 hx4
      replace h := h x4 hx4
      refine awp_spine ?_
      refine awp_rc tab [9, 34] [] [] [] [] ⟨36, [(9, .d (.sl (.int .i64)) x4), (34, vb (!x3.2))], []⟩ (by kernel_rfl) (trivial) ?_
      refine then_n (spine_c ?_)
      refine awp_cond (b := !x3.2) (by kernel_rfl) (fun hb => ?_) (fun hb => ?_)
      · replace h := h.1 ((nt hb))
        refine awp_spine ?_
        refine awp_rc tab [4, 5] [] [] [] [] ⟨36, [(4, .nils), (5, vi (5 : Int))], []⟩ (by kernel_rfl) (trivial) ?_
        refine then_n (spine_c ?_)
        refine awp_ret (then_r (then_r (then_r (then_r (then_r (then_r (then_r (?_))))))))
        exact ret_r (m := 0) (r := .tup [.d (.sl (.int .i64)) ((([] : List Int), 5).1), vi ((([] : List Int), 5).2)]) (objs := []) hk [.keep [4, 5], .nilAt 4 [] (.int .i64), .keep [4, 5]] ⟨36, [(4, .d (.sl (.int .i64)) ([] : List Int)), (5, vi (5 : Int))], []⟩ (by kernel_rfl) (by kernel_rfl) (Nat.le_refl 0) ⟨(([] : List Int), 5), rfl, rfl, h⟩
      · replace h := h.2 ((nf hb))
        refine awp_skip (then_n (spine_c ?_))
        refine awp_spine ?_
        refine awp_rc tab [4, 5] [] [] [] [] ⟨36, [(4, .d (.sl (.int .i64)) x4), (5, vi (0 : Int))], []⟩ (by kernel_rfl) (trivial) ?_
        refine then_n (spine_c ?_)
        refine awp_ret (then_r (then_r (then_r (then_r (then_r (then_r (then_r (?_))))))))
        exact ret_r (m := 0) (r := .tup [.d (.sl (.int .i64)) ((x4, 0).1), vi ((x4, 0).2)]) (objs := []) hk [.keep [4, 5]] ⟨36, [(4, .d (.sl (.int .i64)) x4), (5, vi (0 : Int))], []⟩ (by kernel_rfl) (by kernel_rfl) (Nat.le_refl 0) ⟨(x4, 0), rfl, rfl, h⟩
theorem ok_farkas_Prove (a1 : (List api_Cond)) (a2 : Int) : OkC prog 11 [.d (.sl t_api_Cond) a1, vi a2] (.tup [.d (.sl (.int .i64)) ((farkas_Prove.fn a1 a2).1), vi ((farkas_Prove.fn a1 a2).2)]) :=
  OkC.of call_farkas_Prove ((walk_farkas_Prove a1 a2 _ (farkas_Prove.spec a1 a2)).mono fun r o ⟨x, hr, ho, hx⟩ => ⟨by rw [hr, hx], ho⟩) rfl rfl (fun _ => rfl)

noncomputable abbrev Bset_over : Code := bodyOf Try.f71
theorem call_set_over : CallOk prog 71 := ⟨_, Try.func71, by kernel_rfl, by kernel_rfl⟩
theorem walk_set_over (a1 : (List api_Cond)) (a2 : Int) (Q : Bool → Prop) (h : set_over.wp a1 a2 Q) : VCalls prog 71 [.d (.sl t_api_Cond) a1, vi a2] [] (fun r o => ∃ x, r = vb x ∧ o = [] ∧ Q x) := by
  refine vcalls_body tab Try.func71 (c := (spine (subC [0] Bset_over) [(spine (subC [1, 0, 0] Bset_over) [(.block 0 (.loop (spine (subC [1, 0, 1, 0, 0, 0] Bset_over) [(spine (.cond (.tmp 10) .skip (.exit 0)) [(spine (.block 1 (spine (subC [1, 0, 1, 0, 0, 1, 1, 0, 0, 0] Bset_over) [(spine (subC [1, 0, 1, 0, 0, 1, 1, 0, 0, 1, 0] Bset_over) [(.cond (.tmp 23) (spine (subC [1, 0, 1, 0, 0, 1, 1, 0, 0, 1, 1, 0, 0] Bset_over) [.ret]) .skip)])])) [(subC [1, 0, 1, 0, 0, 1, 1, 1] Bset_over)])])]))), (spine (subC [1, 1, 0] Bset_over) [.ret])])])) (by kernel_rfl) (Nat.le_of_ble_eq_true (by kernel_rfl)) fun cx hd hi hk => ?_
  show AWp prog cx _ _ ⟨25, [(0, .d (.sl t_api_Cond) a1), (1, vi a2)], []⟩
  replace hk : cx.E.len = 0 := hk
  unfold set_over.wp at h
  refine awp_spine ?_
  refine awp_rc tab [0, 1] [] [] [] [] ⟨25, [(0, .d (.sl t_api_Cond) a1), (1, vi a2)], []⟩ (by kernel_rfl) (trivial) ?_
  refine then_n (spine_c ?_)
  refine awp_spine ?_
  refine awp_rc tab [1, 7, 8, 9] [] [] [] [] ⟨25, [(1, vi a2), (7, .d (.sl t_api_Cond) a1), (8, vi (a1.length : Int)), (9, vi (0 : Int))], []⟩ (by kernel_rfl) (trivial) ?_
  refine then_n (spine_c ?_)
  refine awp_len 7 [] (T := t_api_Cond) (l := a1) (by kernel_rfl) fun hl => ?_
  replace h := h hl
  refine awp_block ?_
  obtain ⟨I4, ⟨n4a, hz4⟩, hI4⟩ := h
  refine awp_loopN (fun n s => ∃ (x2 : Int), I4 n x2 ∧ s = ⟨25, [(1, vi a2), (7, .d (.sl t_api_Cond) a1), (8, vi (a1.length : Int)), (9, vi x2)], []⟩) (n := n4a) (s0 := ⟨25, [(1, vi a2), (7, .d (.sl t_api_Cond) a1), (8, vi (a1.length : Int)), (9, vi (0 : Int))], []⟩) (wk_ghosts hk (l := [.keep [1, 7, 8, 9], .keep [1, 7, 8, 9], .keep [1, 7, 8, 9], .keep [1, 7, 8, 9]]) (by kernel_rfl)) ⟨0, hz4, rfl⟩ ?_
  rintro n4 s ⟨x2, hx4, rfl⟩
  have h := hI4 n4 x2 hx4
  refine awp_spine ?_
  refine awp_rc tab [1, 7, 8, 9, 10] [] [] [] [] ⟨25, [(1, vi a2), (7, .d (.sl t_api_Cond) a1), (8, vi (a1.length : Int)), (9, vi x2), (10, vb (decide (x2 < (a1.length : Int))))], []⟩ (by kernel_rfl) (trivial) ?_
  refine then_n (spine_c ?_)
  refine awp_spine ?_
  refine awp_cond (b := decide (x2 < (a1.length : Int))) (by kernel_rfl) (fun hb => ?_) (fun hb => ?_)
  · replace h := h.1 (of_decide_eq_true hb)
    refine awp_skip (then_n (spine_c ?_))
    refine awp_spine ?_
    refine awp_block ?_
    refine awp_spine ?_
    obtain ⟨o1, h⟩ := h
    refine awp_rc tab [1, 6, 7, 8, 9] [] [] [] [(0 : Int) ≤ x2 ∧ x2 < (a1.length : Int)] ⟨25, [(1, vi a2), (6, .ref 0 0 0), (7, .d (.sl t_api_Cond) a1), (8, vi (a1.length : Int)), (9, vi x2)], [.box [vi ((a1.getD (Int.toNat x2) d_api_Cond).1), vi ((a1.getD (Int.toNat x2) d_api_Cond).2.1), .d (.sl (.int .i64)) (((a1.getD (Int.toNat x2) d_api_Cond).2.2).1), vi (((a1.getD (Int.toNat x2) d_api_Cond).2.2).2)]]⟩ (by kernel_rfl) (AllP.of (o1) trivial) ?_
    refine then_n (spine_c ?_)
    refine awp_abs (fun (x5 : api_Cond) => ⟨25, [(1, vi a2), (6, .ref 0 0 0), (7, .d (.sl t_api_Cond) a1), (8, vi (a1.length : Int)), (9, vi x2)], [.box [vi x5.1, vi x5.2.1, .d (.sl (.int .i64)) x5.2.2.1, vi x5.2.2.2]]⟩) (a1.getD (Int.toNat x2) d_api_Cond) ?_
    intro x5 hx5
    replace h := h x5 hx5
    refine awp_spine ?_
    refine awp_rc tab [1, 7, 8, 9, 23] [] [(1, .dat (vb (cond_Valid.fn x5)))] [] [OkC prog 53 [.agg [vi x5.1, vi x5.2.1, .d (.sl (.int .i64)) x5.2.2.1, vi x5.2.2.2]] (vb (cond_Valid.fn x5)), (!(!(cond_Valid.fn x5))) = true → (!(!(cond_Valid.fn x5))) = true ∧ True, (!(!(cond_Valid.fn x5))) = true → (!(!(cond_Valid.fn x5))) = true ∧ True, (!(!(cond_Valid.fn x5))) = true → (!(!(cond_Valid.fn x5))) = true ∧ True, (!(!(cond_Valid.fn x5))) = true → (!(!(cond_Valid.fn x5))) = true ∧ ((!(!(cond_Valid.fn x5))) = true ∧ True), (!(cond_Valid.fn x5)) = false → (!(!(cond_Valid.fn x5))) = true] ⟨25, [(1, vi a2), (7, .d (.sl t_api_Cond) a1), (8, vi (a1.length : Int)), (9, vi x2), (23, vb ((!(cond_Valid.fn x5)) || ((x5.2.2.1.length : Int) != a2)))], [.box [vi x5.1, vi x5.2.1, .d (.sl (.int .i64)) x5.2.2.1, vi x5.2.2.2]]⟩ (by kernel_rfl) (AllP.of (ok_cond_Valid x5) (AllP.of (fun hg => ⟨hg, trivial⟩) (AllP.of (fun hg => ⟨hg, trivial⟩) (AllP.of (fun hg => ⟨hg, trivial⟩) (AllP.of (fun hg => ⟨hg, hg, trivial⟩) (AllP.of (fun hc => not_f hc) trivial)))))) ?_
    refine then_n (spine_c ?_)
    refine awp_cond (b := (!(cond_Valid.fn x5)) || ((x5.2.2.1.length : Int) != a2)) (by kernel_rfl) (fun hb => ?_) (fun hb => ?_)
    · replace h := h.1 (hb)
      refine awp_spine ?_
      refine awp_rc tab [4] [] [] [] [] ⟨25, [(4, vb false)], [.box [vi x5.1, vi x5.2.1, .d (.sl (.int .i64)) x5.2.2.1, vi x5.2.2.2]]⟩ (by kernel_rfl) (trivial) ?_
      refine then_n (spine_c ?_)
      refine awp_ret (then_r (then_r (then_r (blk_r (then_r (then_r (then_r (then_r (blk_r (then_r (then_r (?_))))))))))))
      exact ret_r (m := 0) (r := vb false) (objs := []) hk [.keep [4]] ⟨25, [(4, vb false)], [.box [vi x5.1, vi x5.2.1, .d (.sl (.int .i64)) x5.2.2.1, vi x5.2.2.2]]⟩ (by kernel_rfl) (by kernel_rfl) (Nat.le_refl 0) ⟨false, rfl, rfl, h⟩
    · replace h := h.2 (hb)
      refine awp_skip (then_n (spine_e (then_n (spine_e (blk_n (then_n (spine_c ?_)))))))
      obtain ⟨o2, h⟩ := h
      refine awp_rc tab [1, 7, 8, 9] [] [] [] [-9223372036854775808 ≤ x2 + (1 : Int) ∧ x2 + (1 : Int) ≤ 9223372036854775807] ⟨25, [(1, vi a2), (7, .d (.sl t_api_Cond) a1), (8, vi (a1.length : Int)), (9, vi (x2 + (1 : Int)))], [.box [vi x5.1, vi x5.2.1, .d (.sl (.int .i64)) x5.2.2.1, vi x5.2.2.2]]⟩ (by kernel_rfl) (AllP.of (o2) trivial) ?_
      refine then_n (spine_e (then_n (spine_e (then_n (spine_e (then_n (?_)))))))
      obtain ⟨m, hm, h⟩ := h
      exact ⟨m, hm, ⟨25, [(1, vi a2), (7, .d (.sl t_api_Cond) a1), (8, vi (a1.length : Int)), (9, vi (x2 + (1 : Int)))], []⟩, wk_ghosts hk (l := [.keep [1, 7, 8, 9], .keep [1, 7, 8, 9], .cut 0, .keep [1, 7, 8, 9]]) (by kernel_rfl), x2 + (1 : Int), h, rfl⟩
  · replace h := h.2 (of_decide_eq_false hb)
    refine awp_exit (then_x (then_x (then_x (blk_h (then_n (spine_c ?_))))))
    refine awp_spine ?_
    refine awp_rc tab [4] [] [] [] [] ⟨25, [(4, vb true)], []⟩ (by kernel_rfl) (trivial) ?_
    refine then_n (spine_c ?_)
    refine awp_ret (then_r (then_r (then_r (?_))))
    exact ret_r (m := 0) (r := vb true) (objs := []) hk [.keep [4]] ⟨25, [(4, vb true)], []⟩ (by kernel_rfl) (by kernel_rfl) (Nat.le_refl 0) ⟨true, rfl, rfl, h⟩
theorem ok_set_over (a1 : (List api_Cond)) (a2 : Int) : OkC prog 71 [.d (.sl t_api_Cond) a1, vi a2] (vb (set_over.fn a1 a2)) :=
  OkC.of call_set_over ((walk_set_over a1 a2 _ (set_over.spec a1 a2)).mono fun r o ⟨x, hr, ho, hx⟩ => ⟨by rw [hr, hx], ho⟩) rfl rfl (fun _ => rfl)

noncomputable abbrev Bset_Valid : Code := bodyOf Try.f42
theorem call_set_Valid : CallOk prog 42 := ⟨_, Try.func42, by kernel_rfl, by kernel_rfl⟩
theorem walk_set_Valid (a1 : api_Set) (Q : Bool → Prop) (h : set_Valid.wp a1 Q) : VCalls prog 42 [.agg [vi a1.1, .d (.sl (.sl t_api_Cond)) a1.2]] [] (fun r o => ∃ x, r = vb x ∧ o = [] ∧ Q x) := by
  refine vcalls_body tab Try.func42 (c := (spine (subC [0] Bset_Valid) [(spine (subC [1, 0, 0] Bset_Valid) [(.cond (.tmp 18) (spine (subC [1, 0, 1, 0, 0] Bset_Valid) [.ret]) .skip), (spine (subC [1, 1, 0, 0] Bset_Valid) [(.block 0 (.loop (spine (subC [1, 1, 0, 1, 0, 0, 0] Bset_Valid) [(spine (.cond (.tmp 23) .skip (.exit 0)) [(spine (.block 1 (spine (subC [1, 1, 0, 1, 0, 0, 1, 1, 0, 0, 0] Bset_Valid) [(spine (subC [1, 1, 0, 1, 0, 0, 1, 1, 0, 0, 1, 0] Bset_Valid) [(.cond (.tmp 35) (spine (subC [1, 1, 0, 1, 0, 0, 1, 1, 0, 0, 1, 1, 0, 0] Bset_Valid) [.ret]) .skip)])])) [(subC [1, 1, 0, 1, 0, 0, 1, 1, 1] Bset_Valid)])])]))), (spine (subC [1, 1, 1, 0] Bset_Valid) [.ret])])])])) (by kernel_rfl) (Nat.le_of_ble_eq_true (by kernel_rfl)) fun cx hd hi hk => ?_
  show AWp prog cx _ _ ⟨37, [(0, .agg [vi a1.1, .d (.sl (.sl t_api_Cond)) a1.2])], []⟩
  replace hk : cx.E.len = 0 := hk
  unfold set_Valid.wp at h
  refine awp_spine ?_
  refine awp_rc tab [1] [] [] [0] [] ⟨37, [(1, .er [vi a1.1, .d (.sl (.sl t_api_Cond)) a1.2])], []⟩ (by kernel_rfl) (trivial) ?_
  refine then_n (spine_c ?_)
  refine awp_spine ?_
  refine awp_rc tab [1, 18] [] [] [] [(!(decide (a1.1 < (0 : Int)))) = true → (!(decide (a1.1 < (0 : Int)))) = true ∧ True, (!(decide (a1.1 < (0 : Int)))) = true → (!(decide (a1.1 < (0 : Int)))) = true ∧ True, (decide (a1.1 < (0 : Int))) = false → (!(decide (a1.1 < (0 : Int)))) = true, (!((decide (a1.1 < (0 : Int))) || (decide (a1.1 > (12 : Int))))) = true → (!((decide (a1.1 < (0 : Int))) || (decide (a1.1 > (12 : Int))))) = true ∧ True, (!((decide (a1.1 < (0 : Int))) || (decide (a1.1 > (12 : Int))))) = true → (!((decide (a1.1 < (0 : Int))) || (decide (a1.1 > (12 : Int))))) = true ∧ True, (!((decide (a1.1 < (0 : Int))) || (decide (a1.1 > (12 : Int))))) = true → (!((decide (a1.1 < (0 : Int))) || (decide (a1.1 > (12 : Int))))) = true ∧ True, ((decide (a1.1 < (0 : Int))) || (decide (a1.1 > (12 : Int)))) = false → (!((decide (a1.1 < (0 : Int))) || (decide (a1.1 > (12 : Int))))) = true] ⟨37, [(1, .er [vi a1.1, .d (.sl (.sl t_api_Cond)) a1.2]), (18, vb (((decide (a1.1 < (0 : Int))) || (decide (a1.1 > (12 : Int)))) || (decide ((a1.2.length : Int) > (400 : Int)))))], []⟩ (by kernel_rfl) (AllP.of (fun hg => ⟨hg, trivial⟩) (AllP.of (fun hg => ⟨hg, trivial⟩) (AllP.of (fun hc => not_f hc) (AllP.of (fun hg => ⟨hg, trivial⟩) (AllP.of (fun hg => ⟨hg, trivial⟩) (AllP.of (fun hg => ⟨hg, trivial⟩) (AllP.of (fun hc => not_f hc) trivial))))))) ?_
  refine then_n (spine_c ?_)
  refine awp_cond (b := ((decide (a1.1 < (0 : Int))) || (decide (a1.1 > (12 : Int)))) || (decide ((a1.2.length : Int) > (400 : Int)))) (by kernel_rfl) (fun hb => ?_) (fun hb => ?_)
  · replace h := h.1 (hb)
    refine awp_spine ?_
    refine awp_rc tab [2] [] [] [] [] ⟨37, [(2, vb false)], []⟩ (by kernel_rfl) (trivial) ?_
    refine then_n (spine_c ?_)
    refine awp_ret (then_r (then_r (then_r (?_))))
    exact ret_r (m := 0) (r := vb false) (objs := []) hk [.keep [2]] ⟨37, [(2, vb false)], []⟩ (by kernel_rfl) (by kernel_rfl) (Nat.le_refl 0) ⟨false, rfl, rfl, h⟩
  · replace h := h.2 (hb)
    refine awp_skip (then_n (spine_c ?_))
    refine awp_spine ?_
    refine awp_rc tab [1, 20, 21, 22] [] [] [] [] ⟨37, [(1, .er [vi a1.1, .d (.sl (.sl t_api_Cond)) a1.2]), (20, .d (.sl (.sl t_api_Cond)) a1.2), (21, vi (a1.2.length : Int)), (22, vi (0 : Int))], []⟩ (by kernel_rfl) (trivial) ?_
    refine then_n (spine_c ?_)
    refine awp_len 1 [1] (T := (.sl t_api_Cond)) (l := a1.2) (by kernel_rfl) fun hl => ?_
    replace h := h hl
    refine awp_block ?_
    obtain ⟨I4, ⟨n4a, hz4⟩, hI4⟩ := h
    refine awp_loopN (fun n s => ∃ (x2 : Int), I4 n x2 ∧ s = ⟨37, [(1, .er [vi a1.1, .d (.sl (.sl t_api_Cond)) a1.2]), (20, .d (.sl (.sl t_api_Cond)) a1.2), (21, vi (a1.2.length : Int)), (22, vi x2)], []⟩) (n := n4a) (s0 := ⟨37, [(1, .er [vi a1.1, .d (.sl (.sl t_api_Cond)) a1.2]), (20, .d (.sl (.sl t_api_Cond)) a1.2), (21, vi (a1.2.length : Int)), (22, vi (0 : Int))], []⟩) (wk_ghosts hk (l := [.keep [1, 20, 21, 22], .keep [1, 20, 21, 22], .keep [1, 20, 21, 22], .keep [1, 20, 21, 22]]) (by kernel_rfl)) ⟨0, hz4, rfl⟩ ?_
    rintro n4 s ⟨x2, hx4, rfl⟩
    have h := hI4 n4 x2 hx4
    refine awp_spine ?_
    refine awp_rc tab [1, 20, 21, 22, 23] [] [] [] [] ⟨37, [(1, .er [vi a1.1, .d (.sl (.sl t_api_Cond)) a1.2]), (20, .d (.sl (.sl t_api_Cond)) a1.2), (21, vi (a1.2.length : Int)), (22, vi x2), (23, vb (decide (x2 < (a1.2.length : Int))))], []⟩ (by kernel_rfl) (trivial) ?_
    refine then_n (spine_c ?_)
    refine awp_spine ?_
    refine awp_cond (b := decide (x2 < (a1.2.length : Int))) (by kernel_rfl) (fun hb => ?_) (fun hb => ?_)
    · replace h := h.1 (of_decide_eq_true hb)
      refine awp_skip (then_n (spine_c ?_))
      refine awp_spine ?_
      refine awp_block ?_
      refine awp_spine ?_
      obtain ⟨o1, h⟩ := h
      refine awp_rc tab [1, 4, 20, 21, 22] [] [] [] [(0 : Int) ≤ x2 ∧ x2 < (a1.2.length : Int)] ⟨37, [(1, .er [vi a1.1, .d (.sl (.sl t_api_Cond)) a1.2]), (4, .d (.sl t_api_Cond) (a1.2.getD (Int.toNat x2) [])), (20, .d (.sl (.sl t_api_Cond)) a1.2), (21, vi (a1.2.length : Int)), (22, vi x2)], []⟩ (by kernel_rfl) (AllP.of (o1) trivial) ?_
      refine then_n (spine_c ?_)
      refine awp_spine ?_
      refine awp_rc tab [1, 20, 21, 22, 35] [] [(7, .dat (vb (set_over.fn (a1.2.getD (Int.toNat x2) []) a1.1)))] [] [(!(decide (((a1.2.getD (Int.toNat x2) []).length : Int) > (96 : Int)))) = true → (!(decide (((a1.2.getD (Int.toNat x2) []).length : Int) > (96 : Int)))) = true ∧ True, (!(decide (((a1.2.getD (Int.toNat x2) []).length : Int) > (96 : Int)))) = true → (!(decide (((a1.2.getD (Int.toNat x2) []).length : Int) > (96 : Int)))) = true ∧ ((!(decide (((a1.2.getD (Int.toNat x2) []).length : Int) > (96 : Int)))) = true ∧ (OkC prog 71 [.d (.sl t_api_Cond) (a1.2.getD (Int.toNat x2) []), vi a1.1] (vb (set_over.fn (a1.2.getD (Int.toNat x2) []) a1.1)))), (!(decide (((a1.2.getD (Int.toNat x2) []).length : Int) > (96 : Int)))) = true → (!(decide (((a1.2.getD (Int.toNat x2) []).length : Int) > (96 : Int)))) = true ∧ True, (decide (((a1.2.getD (Int.toNat x2) []).length : Int) > (96 : Int))) = false → (!(decide (((a1.2.getD (Int.toNat x2) []).length : Int) > (96 : Int)))) = true] ⟨37, [(1, .er [vi a1.1, .d (.sl (.sl t_api_Cond)) a1.2]), (20, .d (.sl (.sl t_api_Cond)) a1.2), (21, vi (a1.2.length : Int)), (22, vi x2), (35, vb ((decide (((a1.2.getD (Int.toNat x2) []).length : Int) > (96 : Int))) || (!(set_over.fn (a1.2.getD (Int.toNat x2) []) a1.1))))], []⟩ (by kernel_rfl) (AllP.of (fun hg => ⟨hg, trivial⟩) (AllP.of (fun hg => ⟨hg, hg, ok_set_over (a1.2.getD (Int.toNat x2) []) a1.1⟩) (AllP.of (fun hg => ⟨hg, trivial⟩) (AllP.of (fun hc => not_f hc) trivial)))) ?_
      refine then_n (spine_c ?_)
      refine awp_cond (b := (decide (((a1.2.getD (Int.toNat x2) []).length : Int) > (96 : Int))) || (!(set_over.fn (a1.2.getD (Int.toNat x2) []) a1.1))) (by kernel_rfl) (fun hb => ?_) (fun hb => ?_)
      · replace h := h.1 (hb)
        refine awp_spine ?_
        refine awp_rc tab [2] [] [] [] [] ⟨37, [(2, vb false)], []⟩ (by kernel_rfl) (trivial) ?_
        refine then_n (spine_c ?_)
        refine awp_ret (then_r (then_r (then_r (blk_r (then_r (then_r (then_r (then_r (blk_r (then_r (then_r (then_r (?_)))))))))))))
        exact ret_r (m := 0) (r := vb false) (objs := []) hk [.keep [2]] ⟨37, [(2, vb false)], []⟩ (by kernel_rfl) (by kernel_rfl) (Nat.le_refl 0) ⟨false, rfl, rfl, h⟩
      · replace h := h.2 (hb)
        refine awp_skip (then_n (spine_e (then_n (spine_e (blk_n (then_n (spine_c ?_)))))))
        obtain ⟨o2, h⟩ := h
        refine awp_rc tab [1, 20, 21, 22] [] [] [] [-9223372036854775808 ≤ x2 + (1 : Int) ∧ x2 + (1 : Int) ≤ 9223372036854775807] ⟨37, [(1, .er [vi a1.1, .d (.sl (.sl t_api_Cond)) a1.2]), (20, .d (.sl (.sl t_api_Cond)) a1.2), (21, vi (a1.2.length : Int)), (22, vi (x2 + (1 : Int)))], []⟩ (by kernel_rfl) (AllP.of (o2) trivial) ?_
        refine then_n (spine_e (then_n (spine_e (then_n (spine_e (then_n (?_)))))))
        obtain ⟨m, hm, h⟩ := h
        exact ⟨m, hm, ⟨37, [(1, .er [vi a1.1, .d (.sl (.sl t_api_Cond)) a1.2]), (20, .d (.sl (.sl t_api_Cond)) a1.2), (21, vi (a1.2.length : Int)), (22, vi (x2 + (1 : Int)))], []⟩, wk_ghosts hk (l := [.keep [1, 20, 21, 22], .keep [1, 20, 21, 22], .keep [1, 20, 21, 22]]) (by kernel_rfl), x2 + (1 : Int), h, rfl⟩
    · replace h := h.2 (of_decide_eq_false hb)
      refine awp_exit (then_x (then_x (then_x (blk_h (then_n (spine_c ?_))))))
      refine awp_spine ?_
      refine awp_rc tab [2] [] [] [] [] ⟨37, [(2, vb true)], []⟩ (by kernel_rfl) (trivial) ?_
      refine then_n (spine_c ?_)
      refine awp_ret (then_r (then_r (then_r (then_r (?_)))))
      exact ret_r (m := 0) (r := vb true) (objs := []) hk [.keep [2]] ⟨37, [(2, vb true)], []⟩ (by kernel_rfl) (by kernel_rfl) (Nat.le_refl 0) ⟨true, rfl, rfl, h⟩
theorem ok_set_Valid (a1 : api_Set) : OkC prog 42 [.agg [vi a1.1, .d (.sl (.sl t_api_Cond)) a1.2]] (vb (set_Valid.fn a1)) :=
  OkC.of call_set_Valid ((walk_set_Valid a1 _ (set_Valid.spec a1)).mono fun r o ⟨x, hr, ho, hx⟩ => ⟨by rw [hr, hx], ho⟩) rfl rfl (fun _ => rfl)

noncomputable abbrev Bfarkas_Empty : Code := bodyOf Try.f18
theorem call_farkas_Empty : CallOk prog 18 := ⟨_, Try.func18, by kernel_rfl, by kernel_rfl⟩
theorem walk_farkas_Empty (a1 : api_Set) (Q : (List (List Int)) × Int → Prop) (h : farkas_Empty.wp a1 Q) : VCalls prog 18 [.agg [vi a1.1, .d (.sl (.sl t_api_Cond)) a1.2]] [] (fun r o => ∃ x, r = .tup [.d (.sl (.sl (.int .i64))) x.1, vi x.2] ∧ o = [] ∧ Q x) := by
  refine vcalls_body tab Try.func18 (c := (spine (subC [0] Bfarkas_Empty) [(spine (subC [1, 0, 0] Bfarkas_Empty) [(.cond (.tmp 10) (spine (subC [1, 0, 1, 0, 0] Bfarkas_Empty) [.ret]) .skip), (spine (subC [1, 1, 0, 0] Bfarkas_Empty) [(.block 0 (.loop (spine (subC [1, 1, 0, 1, 0, 0, 0] Bfarkas_Empty) [(spine (.cond (.tmp 15) .skip (.exit 0)) [(spine (.block 1 (spine (subC [1, 1, 0, 1, 0, 0, 1, 1, 0, 0, 0] Bfarkas_Empty) [(spine (subC [1, 1, 0, 1, 0, 0, 1, 1, 0, 0, 1, 0] Bfarkas_Empty) [(spine (subC [1, 1, 0, 1, 0, 0, 1, 1, 0, 0, 1, 1, 0, 0] Bfarkas_Empty) [(.cond (.tmp 26) (spine (subC [1, 1, 0, 1, 0, 0, 1, 1, 0, 0, 1, 1, 0, 1, 0, 0] Bfarkas_Empty) [.ret]) .skip), (subC [1, 1, 0, 1, 0, 0, 1, 1, 0, 0, 1, 1, 1] Bfarkas_Empty)])])])) [(subC [1, 1, 0, 1, 0, 0, 1, 1, 1] Bfarkas_Empty)])])]))), (spine (subC [1, 1, 1, 0] Bfarkas_Empty) [.ret])])])])) (by kernel_rfl) (Nat.le_of_ble_eq_true (by kernel_rfl)) fun cx hd hi hk => ?_
  show AWp prog cx _ _ ⟨34, [(0, .agg [vi a1.1, .d (.sl (.sl t_api_Cond)) a1.2])], []⟩
  replace hk : cx.E.len = 0 := hk
  unfold farkas_Empty.wp at h
  refine awp_spine ?_
  refine awp_rc tab [1, 2] [] [] [0] [] ⟨34, [(1, .er [vi a1.1, .d (.sl (.sl t_api_Cond)) a1.2]), (2, .nils)], []⟩ (by kernel_rfl) (trivial) ?_
  refine then_n (spine_c ?_)
  refine awp_spine ?_
  refine awp_rc tab [1, 2, 10] [] [(1, .dat (vb (set_Valid.fn a1)))] [] [OkC prog 42 [.agg [vi a1.1, .d (.sl (.sl t_api_Cond)) a1.2]] (vb (set_Valid.fn a1))] ⟨34, [(1, .er [vi a1.1, .d (.sl (.sl t_api_Cond)) a1.2]), (2, .nils), (10, vb (!(set_Valid.fn a1)))], []⟩ (by kernel_rfl) (AllP.of (ok_set_Valid a1) trivial) ?_
  refine then_n (spine_c ?_)
  refine awp_cond (b := !(set_Valid.fn a1)) (by kernel_rfl) (fun hb => ?_) (fun hb => ?_)
  · replace h := h.1 ((nt hb))
    refine awp_spine ?_
    refine awp_rc tab [2, 3] [] [] [] [] ⟨34, [(2, .nils), (3, vi (1 : Int))], []⟩ (by kernel_rfl) (trivial) ?_
    refine then_n (spine_c ?_)
    refine awp_ret (then_r (then_r (then_r (?_))))
    exact ret_r (m := 0) (r := .tup [.d (.sl (.sl (.int .i64))) ((([] : List (List Int)), 1).1), vi ((([] : List (List Int)), 1).2)]) (objs := []) hk [.keep [2, 3], .nilAt 2 [] (.sl (.int .i64)), .keep [2, 3]] ⟨34, [(2, .d (.sl (.sl (.int .i64))) ([] : List (List Int))), (3, vi (1 : Int))], []⟩ (by kernel_rfl) (by kernel_rfl) (Nat.le_refl 0) ⟨(([] : List (List Int)), 1), rfl, rfl, h⟩
  · replace h := h.2 ((nf hb))
    refine awp_skip (then_n (spine_c ?_))
    refine awp_spine ?_
    refine awp_rc tab [1, 2, 12, 13, 14] [] [] [] [] ⟨34, [(1, .er [vi a1.1, .d (.sl (.sl t_api_Cond)) a1.2]), (2, .nils), (12, .d (.sl (.sl t_api_Cond)) a1.2), (13, vi (a1.2.length : Int)), (14, vi (0 : Int))], []⟩ (by kernel_rfl) (trivial) ?_
    refine then_n (spine_c ?_)
    refine awp_len 1 [1] (T := (.sl t_api_Cond)) (l := a1.2) (by kernel_rfl) fun hl => ?_
    replace h := h hl
    refine awp_block ?_
    obtain ⟨I7, ⟨n7a, hz7⟩, hI7⟩ := h
    refine awp_loopN (fun n s => ∃ (x3 : Int) (x4 : (List (List Int))), I7 n x3 x4 ∧ s = ⟨34, [(1, .er [vi a1.1, .d (.sl (.sl t_api_Cond)) a1.2]), (2, .osl 0 0), (12, .d (.sl (.sl t_api_Cond)) a1.2), (13, vi (a1.2.length : Int)), (14, vi x3)], [.row (.sl (.int .i64)) x4 0]⟩) (n := n7a) (s0 := ⟨34, [(1, .er [vi a1.1, .d (.sl (.sl t_api_Cond)) a1.2]), (2, .osl 0 0), (12, .d (.sl (.sl t_api_Cond)) a1.2), (13, vi (a1.2.length : Int)), (14, vi (0 : Int))], [.row (.sl (.int .i64)) ([] : List (List Int)) 0]⟩) (wk_ghosts hk (l := [.keep [1, 2, 12, 13, 14], .adopt 2 (.sl (.int .i64)), .keep [1, 2, 12, 13, 14], .keep [1, 2, 12, 13, 14], .keep [1, 2, 12, 13, 14]]) (by kernel_rfl)) ⟨0, ([] : List (List Int)), hz7, rfl⟩ ?_
    rintro n7 s ⟨x3, x4, hx7, rfl⟩
    have h := hI7 n7 x3 x4 hx7
    refine awp_spine ?_
    refine awp_rc tab [1, 2, 12, 13, 14, 15] [] [] [] [] ⟨34, [(1, .er [vi a1.1, .d (.sl (.sl t_api_Cond)) a1.2]), (2, .osl 0 0), (12, .d (.sl (.sl t_api_Cond)) a1.2), (13, vi (a1.2.length : Int)), (14, vi x3), (15, vb (decide (x3 < (a1.2.length : Int))))], [.row (.sl (.int .i64)) x4 0]⟩ (by kernel_rfl) (trivial) ?_
    refine then_n (spine_c ?_)
    refine awp_spine ?_
    refine awp_cond (b := decide (x3 < (a1.2.length : Int))) (by kernel_rfl) (fun hb => ?_) (fun hb => ?_)
    · replace h := h.1 (of_decide_eq_true hb)
      refine awp_skip (then_n (spine_c ?_))
      refine awp_spine ?_
      refine awp_block ?_
      refine awp_spine ?_
      obtain ⟨o1, h⟩ := h
      refine awp_rc tab [1, 2, 5, 12, 13, 14] [] [] [] [(0 : Int) ≤ x3 ∧ x3 < (a1.2.length : Int)] ⟨34, [(1, .er [vi a1.1, .d (.sl (.sl t_api_Cond)) a1.2]), (2, .osl 0 0), (5, .d (.sl t_api_Cond) (a1.2.getD (Int.toNat x3) [])), (12, .d (.sl (.sl t_api_Cond)) a1.2), (13, vi (a1.2.length : Int)), (14, vi x3)], [.row (.sl (.int .i64)) x4 0]⟩ (by kernel_rfl) (AllP.of (o1) trivial) ?_
      refine then_n (spine_c ?_)
      refine awp_spine ?_
      refine awp_rc tab [1, 2, 6, 7, 12, 13, 14] [] [(3, .dat (.tup [.d (.sl (.int .i64)) ((farkas_Prove.fn (a1.2.getD (Int.toNat x3) []) a1.1).1), vi ((farkas_Prove.fn (a1.2.getD (Int.toNat x3) []) a1.1).2)]))] [] [OkC prog 11 [.d (.sl t_api_Cond) (a1.2.getD (Int.toNat x3) []), vi a1.1] (.tup [.d (.sl (.int .i64)) ((farkas_Prove.fn (a1.2.getD (Int.toNat x3) []) a1.1).1), vi ((farkas_Prove.fn (a1.2.getD (Int.toNat x3) []) a1.1).2)])] ⟨34, [(1, .er [vi a1.1, .d (.sl (.sl t_api_Cond)) a1.2]), (2, .osl 0 0), (6, .d (.sl (.int .i64)) ((farkas_Prove.fn (a1.2.getD (Int.toNat x3) []) a1.1).1)), (7, vi ((farkas_Prove.fn (a1.2.getD (Int.toNat x3) []) a1.1).2)), (12, .d (.sl (.sl t_api_Cond)) a1.2), (13, vi (a1.2.length : Int)), (14, vi x3)], [.row (.sl (.int .i64)) x4 0]⟩ (by kernel_rfl) (AllP.of (ok_farkas_Prove (a1.2.getD (Int.toNat x3) []) a1.1) trivial) ?_
      refine then_n (spine_c ?_)
      refine awp_abs (fun (x8 : (List Int) × Int) => ⟨34, [(1, .er [vi a1.1, .d (.sl (.sl t_api_Cond)) a1.2]), (2, .osl 0 0), (6, .d (.sl (.int .i64)) x8.1), (7, vi x8.2), (12, .d (.sl (.sl t_api_Cond)) a1.2), (13, vi (a1.2.length : Int)), (14, vi x3)], [.row (.sl (.int .i64)) x4 0]⟩) (farkas_Prove.fn (a1.2.getD (Int.toNat x3) []) a1.1) ?_
      intro x8 hx8
      replace h := h x8 hx8
      refine awp_abs (fun (x9 : (List Int)) => ⟨34, [(1, .er [vi a1.1, .d (.sl (.sl t_api_Cond)) a1.2]), (2, .osl 0 0), (6, .d (.sl (.int .i64)) x9), (7, vi x8.2), (12, .d (.sl (.sl t_api_Cond)) a1.2), (13, vi (a1.2.length : Int)), (14, vi x3)], [.row (.sl (.int .i64)) x4 0]⟩) (x8.1) ?_
      intro x9 hx9
      replace h := h x9 hx9
      refine awp_abs (fun (x10 : Int) => ⟨34, [(1, .er [vi a1.1, .d (.sl (.sl t_api_Cond)) a1.2]), (2, .osl 0 0), (6, .d (.sl (.int .i64)) x9), (7, vi x10), (12, .d (.sl (.sl t_api_Cond)) a1.2), (13, vi (a1.2.length : Int)), (14, vi x3)], [.row (.sl (.int .i64)) x4 0]⟩) (x8.2) ?_
      intro x10 hx10
      replace h := h x10 hx10
      refine awp_spine ?_
      refine awp_rc tab [1, 2, 6, 7, 12, 13, 14, 26] [] [] [] [] ⟨34, [(1, .er [vi a1.1, .d (.sl (.sl t_api_Cond)) a1.2]), (2, .osl 0 0), (6, .d (.sl (.int .i64)) x9), (7, vi x10), (12, .d (.sl (.sl t_api_Cond)) a1.2), (13, vi (a1.2.length : Int)), (14, vi x3), (26, vb (x10 != (0 : Int)))], [.row (.sl (.int .i64)) x4 0]⟩ (by kernel_rfl) (trivial) ?_
      refine then_n (spine_c ?_)
      refine awp_cond (b := x10 != (0 : Int)) (by kernel_rfl) (fun hb => ?_) (fun hb => ?_)
      · replace h := h.1 (bne_iff_ne.mp hb)
        refine awp_spine ?_
        refine awp_rc tab [2, 3] [] [] [] [] ⟨34, [(2, .nils), (3, vi x10)], [.row (.sl (.int .i64)) x4 0]⟩ (by kernel_rfl) (trivial) ?_
        refine then_n (spine_c ?_)
        refine awp_ret (then_r (then_r (then_r (then_r (blk_r (then_r (then_r (then_r (then_r (blk_r (then_r (then_r (then_r (?_))))))))))))))
        exact ret_r (m := 0) (r := .tup [.d (.sl (.sl (.int .i64))) ((([] : List (List Int)), x10).1), vi ((([] : List (List Int)), x10).2)]) (objs := []) hk [.keep [2, 3], .nilAt 2 [] (.sl (.int .i64)), .keep [2, 3]] ⟨34, [(2, .d (.sl (.sl (.int .i64))) ([] : List (List Int))), (3, vi x10)], [.row (.sl (.int .i64)) x4 0]⟩ (by kernel_rfl) (by kernel_rfl) (Nat.le_refl 0) ⟨(([] : List (List Int)), x10), rfl, rfl, h⟩
      · replace h := h.2 (bne_f hb)
        refine awp_skip (then_n (spine_c ?_))
        obtain ⟨o2, h⟩ := h
        refine awp_rc tab [1, 2, 12, 13, 14] [] [] [2] [1 * 1 ≤ 16777216, (x4.length + [x9].length) * 24 ≤ 140737488355328 ∧ x4.length + [x9].length ≤ 9223372036854775807] ⟨34, [(1, .er [vi a1.1, .d (.sl (.sl t_api_Cond)) a1.2]), (2, .osl 0 1), (12, .d (.sl (.sl t_api_Cond)) a1.2), (13, vi (a1.2.length : Int)), (14, vi x3)], [.row (.sl (.int .i64)) (x4 ++ [x9]) 1]⟩ (by kernel_rfl) (AllP.of (by decide) (AllP.of (o2) trivial)) ?_
        refine then_n (spine_e (then_n (spine_e (then_n (spine_e (blk_n (then_n (spine_c ?_))))))))
        obtain ⟨o3, h⟩ := h
        refine awp_rc tab [1, 2, 12, 13, 14] [] [] [] [-9223372036854775808 ≤ x3 + (1 : Int) ∧ x3 + (1 : Int) ≤ 9223372036854775807] ⟨34, [(1, .er [vi a1.1, .d (.sl (.sl t_api_Cond)) a1.2]), (2, .osl 0 1), (12, .d (.sl (.sl t_api_Cond)) a1.2), (13, vi (a1.2.length : Int)), (14, vi (x3 + (1 : Int)))], [.row (.sl (.int .i64)) (x4 ++ [x9]) 1]⟩ (by kernel_rfl) (AllP.of (o3) trivial) ?_
        refine then_n (spine_e (then_n (spine_e (then_n (spine_e (then_n (?_)))))))
        obtain ⟨m, hm, h⟩ := h
        exact ⟨m, hm, ⟨34, [(1, .er [vi a1.1, .d (.sl (.sl t_api_Cond)) a1.2]), (2, .osl 0 0), (12, .d (.sl (.sl t_api_Cond)) a1.2), (13, vi (a1.2.length : Int)), (14, vi (x3 + (1 : Int)))], [.row (.sl (.int .i64)) (x4 ++ [x9]) 0]⟩, wk_ghosts hk (l := [.keep [1, 2, 12, 13, 14], .keep [1, 2, 12, 13, 14], .reset 0, .keep [1, 2, 12, 13, 14]]) (by kernel_rfl), x3 + (1 : Int), x4 ++ [x9], h, rfl⟩
    · replace h := h.2 (of_decide_eq_false hb)
      refine awp_exit (then_x (then_x (then_x (blk_h (then_n (spine_c ?_))))))
      refine awp_spine ?_
      refine awp_rc tab [2, 3] [] [] [] [] ⟨34, [(2, .osl 0 0), (3, vi (0 : Int))], [.row (.sl (.int .i64)) x4 0]⟩ (by kernel_rfl) (trivial) ?_
      refine then_n (spine_c ?_)
      refine awp_ret (then_r (then_r (then_r (then_r (?_)))))
      exact ret_r (m := 0) (r := .tup [.d (.sl (.sl (.int .i64))) ((x4, 0).1), vi ((x4, 0).2)]) (objs := []) hk [.keep [2, 3], .freeze 0] ⟨34, [(2, .d (.sl (.sl (.int .i64))) x4), (3, vi (0 : Int))], [.dead]⟩ (by kernel_rfl) (by kernel_rfl) (Nat.le_refl 0) ⟨(x4, 0), rfl, rfl, h⟩
theorem ok_farkas_Empty (a1 : api_Set) : OkC prog 18 [.agg [vi a1.1, .d (.sl (.sl t_api_Cond)) a1.2]] (.tup [.d (.sl (.sl (.int .i64))) ((farkas_Empty.fn a1).1), vi ((farkas_Empty.fn a1).2)]) :=
  OkC.of call_farkas_Empty ((walk_farkas_Empty a1 _ (farkas_Empty.spec a1)).mono fun r o ⟨x, hr, ho, hx⟩ => ⟨by rw [hr, hx], ho⟩) rfl rfl (fun _ => rfl)

noncomputable abbrev Blaw04_Few : Code := bodyOf Try.f17
theorem call_law04_Few : CallOk prog 17 := ⟨_, Try.func17, by kernel_rfl, by kernel_rfl⟩
theorem walk_law04_Few (a1 : Int) (a2 : Int) (a3 : (List api_Set)) (Q : Bool → Prop) (h : law04_Few.wp a1 a2 a3 Q) : VCalls prog 17 [vi a1, vi a2, .d (.sl t_api_Set) a3] [] (fun r o => ∃ x, r = vb x ∧ o = [] ∧ Q x) := by
  refine vcalls_body tab Try.func17 (c := (spine (subC [0] Blaw04_Few) [(spine (subC [1, 0] Blaw04_Few) [(spine (subC [1, 1, 0, 0] Blaw04_Few) [(.block 0 (.loop (spine (subC [1, 1, 0, 1, 0, 0, 0] Blaw04_Few) [(spine (.cond (.tmp 15) .skip (.exit 0)) [(spine (.block 1 (spine (subC [1, 1, 0, 1, 0, 0, 1, 1, 0, 0, 0] Blaw04_Few) [(spine (subC [1, 1, 0, 1, 0, 0, 1, 1, 0, 0, 1, 0] Blaw04_Few) [(spine (subC [1, 1, 0, 1, 0, 0, 1, 1, 0, 0, 1, 1, 0] Blaw04_Few) [(.block 2 (.loop (spine (subC [1, 1, 0, 1, 0, 0, 1, 1, 0, 0, 1, 1, 1, 0, 0, 0] Blaw04_Few) [(spine (.cond (.tmp 27) .skip (.exit 2)) [(spine (.block 3 (spine (subC [1, 1, 0, 1, 0, 0, 1, 1, 0, 0, 1, 1, 1, 0, 0, 1, 1, 0, 0, 0] Blaw04_Few) [(spine (subC [1, 1, 0, 1, 0, 0, 1, 1, 0, 0, 1, 1, 1, 0, 0, 1, 1, 0, 0, 1, 0] Blaw04_Few) [(.cond (.tmp 33) (spine (subC [1, 1, 0, 1, 0, 0, 1, 1, 0, 0, 1, 1, 1, 0, 0, 1, 1, 0, 0, 1, 1, 0, 0] Blaw04_Few) [.ret]) .skip)])])) [(subC [1, 1, 0, 1, 0, 0, 1, 1, 0, 0, 1, 1, 1, 0, 0, 1, 1, 1] Blaw04_Few)])])])))])])])) [(subC [1, 1, 0, 1, 0, 0, 1, 1, 1] Blaw04_Few)])])]))), (spine (subC [1, 1, 1, 0] Blaw04_Few) [.ret])])])])) (by kernel_rfl) (Nat.le_of_ble_eq_true (by kernel_rfl)) fun cx hd hi hk => ?_
  show AWp prog cx _ _ ⟨39, [(0, vi a1), (1, vi a2), (2, .d (.sl t_api_Set) a3)], []⟩
  replace hk : cx.E.len = 0 := hk
  unfold law04_Few.wp at h
  refine awp_spine ?_
  refine awp_rc tab [0, 1, 2] [] [] [] [] ⟨39, [(0, vi a1), (1, vi a2), (2, .d (.sl t_api_Set) a3)], []⟩ (by kernel_rfl) (trivial) ?_
  refine then_n (spine_c ?_)
  refine awp_spine ?_
  refine awp_rc tab [0, 1, 2, 7] [] [] [] [] ⟨39, [(0, vi a1), (1, vi a2), (2, .d (.sl t_api_Set) a3), (7, vi (0 : Int))], []⟩ (by kernel_rfl) (trivial) ?_
  refine then_n (spine_c ?_)
  refine awp_spine ?_
  refine awp_rc tab [0, 1, 7, 12, 13, 14] [] [] [] [] ⟨39, [(0, vi a1), (1, vi a2), (7, vi (0 : Int)), (12, .d (.sl t_api_Set) a3), (13, vi (a3.length : Int)), (14, vi (0 : Int))], []⟩ (by kernel_rfl) (trivial) ?_
  refine then_n (spine_c ?_)
  refine awp_len 12 [] (T := t_api_Set) (l := a3) (by kernel_rfl) fun hl => ?_
  replace h := h hl
  refine awp_block ?_
  obtain ⟨I7, ⟨n7a, hz7⟩, hI7⟩ := h
  refine awp_loopN (fun n s => ∃ (x3 : Int) (x4 : Int), I7 n x3 x4 ∧ s = ⟨39, [(0, vi a1), (1, vi a2), (7, vi x3), (12, .d (.sl t_api_Set) a3), (13, vi (a3.length : Int)), (14, vi x4)], []⟩) (n := n7a) (s0 := ⟨39, [(0, vi a1), (1, vi a2), (7, vi (0 : Int)), (12, .d (.sl t_api_Set) a3), (13, vi (a3.length : Int)), (14, vi (0 : Int))], []⟩) (wk_ghosts hk (l := [.keep [0, 1, 7, 12, 13, 14], .keep [0, 1, 7, 12, 13, 14], .keep [0, 1, 7, 12, 13, 14], .keep [0, 1, 7, 12, 13, 14]]) (by kernel_rfl)) ⟨0, 0, hz7, rfl⟩ ?_
  rintro n7 s ⟨x3, x4, hx7, rfl⟩
  have h := hI7 n7 x3 x4 hx7
  refine awp_spine ?_
  refine awp_rc tab [0, 1, 7, 12, 13, 14, 15] [] [] [] [] ⟨39, [(0, vi a1), (1, vi a2), (7, vi x3), (12, .d (.sl t_api_Set) a3), (13, vi (a3.length : Int)), (14, vi x4), (15, vb (decide (x4 < (a3.length : Int))))], []⟩ (by kernel_rfl) (trivial) ?_
  refine then_n (spine_c ?_)
  refine awp_spine ?_
  refine awp_cond (b := decide (x4 < (a3.length : Int))) (by kernel_rfl) (fun hb => ?_) (fun hb => ?_)
  · replace h := h.1 (of_decide_eq_true hb)
    refine awp_skip (then_n (spine_c ?_))
    refine awp_spine ?_
    refine awp_block ?_
    refine awp_spine ?_
    obtain ⟨o1, h⟩ := h
    refine awp_rc tab [0, 1, 7, 9, 12, 13, 14] [] [] [] [(0 : Int) ≤ x4 ∧ x4 < (a3.length : Int)] ⟨39, [(0, vi a1), (1, vi a2), (7, vi x3), (9, .ref 0 0 0), (12, .d (.sl t_api_Set) a3), (13, vi (a3.length : Int)), (14, vi x4)], [.box [vi ((a3.getD (Int.toNat x4) d_api_Set).1), .d (.sl (.sl t_api_Cond)) ((a3.getD (Int.toNat x4) d_api_Set).2)]]⟩ (by kernel_rfl) (AllP.of (o1) trivial) ?_
    refine then_n (spine_c ?_)
    refine awp_abs (fun (x8 : api_Set) => ⟨39, [(0, vi a1), (1, vi a2), (7, vi x3), (9, .ref 0 0 0), (12, .d (.sl t_api_Set) a3), (13, vi (a3.length : Int)), (14, vi x4)], [.box [vi x8.1, .d (.sl (.sl t_api_Cond)) x8.2]]⟩) (a3.getD (Int.toNat x4) d_api_Set) ?_
    intro x8 hx8
    replace h := h x8 hx8
    refine awp_spine ?_
    obtain ⟨o2, h⟩ := h
    refine awp_rc tab [0, 1, 7, 9, 12, 13, 14] [] [] [] [-9223372036854775808 ≤ x3 + (x8.2.length : Int) ∧ x3 + (x8.2.length : Int) ≤ 9223372036854775807] ⟨39, [(0, vi a1), (1, vi a2), (7, vi (x3 + (x8.2.length : Int))), (9, .ref 0 0 0), (12, .d (.sl t_api_Set) a3), (13, vi (a3.length : Int)), (14, vi x4)], [.box [vi x8.1, .d (.sl (.sl t_api_Cond)) x8.2]]⟩ (by kernel_rfl) (AllP.of (o2) trivial) ?_
    refine then_n (spine_c ?_)
    refine awp_spine ?_
    refine awp_rc tab [0, 1, 7, 12, 13, 14, 24, 25, 26] [] [] [] [] ⟨39, [(0, vi a1), (1, vi a2), (7, vi (x3 + (x8.2.length : Int))), (12, .d (.sl t_api_Set) a3), (13, vi (a3.length : Int)), (14, vi x4), (24, .d (.sl (.sl t_api_Cond)) x8.2), (25, vi (x8.2.length : Int)), (26, vi (0 : Int))], [.box [vi x8.1, .d (.sl (.sl t_api_Cond)) x8.2]]⟩ (by kernel_rfl) (trivial) ?_
    refine then_n (spine_c ?_)
    refine awp_len 24 [] (T := (.sl t_api_Cond)) (l := x8.2) (by kernel_rfl) fun hl => ?_
    replace h := h hl
    refine awp_block ?_
    obtain ⟨I12, ⟨n12a, hz12⟩, hI12⟩ := h
    refine awp_loopN (fun n s => ∃ (x10 : Int), I12 n x10 ∧ s = ⟨39, [(0, vi a1), (1, vi a2), (7, vi (x3 + (x8.2.length : Int))), (12, .d (.sl t_api_Set) a3), (13, vi (a3.length : Int)), (14, vi x4), (24, .d (.sl (.sl t_api_Cond)) x8.2), (25, vi (x8.2.length : Int)), (26, vi x10)], []⟩) (n := n12a) (s0 := ⟨39, [(0, vi a1), (1, vi a2), (7, vi (x3 + (x8.2.length : Int))), (12, .d (.sl t_api_Set) a3), (13, vi (a3.length : Int)), (14, vi x4), (24, .d (.sl (.sl t_api_Cond)) x8.2), (25, vi (x8.2.length : Int)), (26, vi (0 : Int))], []⟩) (wk_ghosts hk (l := [.keep [0, 1, 7, 12, 13, 14, 24, 25, 26], .keep [0, 1, 7, 12, 13, 14, 24, 25, 26], .keep [0, 1, 7, 12, 13, 14, 24, 25, 26], .cut 0, .keep [0, 1, 7, 12, 13, 14, 24, 25, 26]]) (by kernel_rfl)) ⟨0, hz12, rfl⟩ ?_
    rintro n12 s ⟨x10, hx12, rfl⟩
    have h := hI12 n12 x10 hx12
    refine awp_spine ?_
    refine awp_rc tab [0, 1, 7, 12, 13, 14, 24, 25, 26, 27] [] [] [] [] ⟨39, [(0, vi a1), (1, vi a2), (7, vi (x3 + (x8.2.length : Int))), (12, .d (.sl t_api_Set) a3), (13, vi (a3.length : Int)), (14, vi x4), (24, .d (.sl (.sl t_api_Cond)) x8.2), (25, vi (x8.2.length : Int)), (26, vi x10), (27, vb (decide (x10 < (x8.2.length : Int))))], []⟩ (by kernel_rfl) (trivial) ?_
    refine then_n (spine_c ?_)
    refine awp_spine ?_
    refine awp_cond (b := decide (x10 < (x8.2.length : Int))) (by kernel_rfl) (fun hb => ?_) (fun hb => ?_)
    · replace h := h.1 (of_decide_eq_true hb)
      refine awp_skip (then_n (spine_c ?_))
      refine awp_spine ?_
      refine awp_block ?_
      refine awp_spine ?_
      obtain ⟨o3, h⟩ := h
      refine awp_rc tab [0, 1, 7, 11, 12, 13, 14, 24, 25, 26] [] [] [] [(0 : Int) ≤ x10 ∧ x10 < (x8.2.length : Int)] ⟨39, [(0, vi a1), (1, vi a2), (7, vi (x3 + (x8.2.length : Int))), (11, .d (.sl t_api_Cond) (x8.2.getD (Int.toNat x10) [])), (12, .d (.sl t_api_Set) a3), (13, vi (a3.length : Int)), (14, vi x4), (24, .d (.sl (.sl t_api_Cond)) x8.2), (25, vi (x8.2.length : Int)), (26, vi x10)], []⟩ (by kernel_rfl) (AllP.of (o3) trivial) ?_
      refine then_n (spine_c ?_)
      refine awp_spine ?_
      refine awp_rc tab [0, 1, 7, 12, 13, 14, 24, 25, 26, 33] [] [] [] [] ⟨39, [(0, vi a1), (1, vi a2), (7, vi (x3 + (x8.2.length : Int))), (12, .d (.sl t_api_Set) a3), (13, vi (a3.length : Int)), (14, vi x4), (24, .d (.sl (.sl t_api_Cond)) x8.2), (25, vi (x8.2.length : Int)), (26, vi x10), (33, vb (decide (((x8.2.getD (Int.toNat x10) []).length : Int) > a2)))], []⟩ (by kernel_rfl) (trivial) ?_
      refine then_n (spine_c ?_)
      refine awp_cond (b := decide (((x8.2.getD (Int.toNat x10) []).length : Int) > a2)) (by kernel_rfl) (fun hb => ?_) (fun hb => ?_)
      · replace h := h.1 (of_decide_eq_true hb)
        refine awp_spine ?_
        refine awp_rc tab [6] [] [] [] [] ⟨39, [(6, vb false)], []⟩ (by kernel_rfl) (trivial) ?_
        refine then_n (spine_c ?_)
        refine awp_ret (then_r (then_r (then_r (blk_r (then_r (then_r (then_r (then_r (blk_r (then_r (then_r (then_r (blk_r (then_r (then_r (then_r (then_r (blk_r (then_r (then_r (then_r (?_))))))))))))))))))))))
        exact ret_r (m := 0) (r := vb false) (objs := []) hk [.keep [6]] ⟨39, [(6, vb false)], []⟩ (by kernel_rfl) (by kernel_rfl) (Nat.le_refl 0) ⟨false, rfl, rfl, h⟩
      · replace h := h.2 (of_decide_eq_false hb)
        refine awp_skip (then_n (spine_e (then_n (spine_e (blk_n (then_n (spine_c ?_)))))))
        obtain ⟨o4, h⟩ := h
        refine awp_rc tab [0, 1, 7, 12, 13, 14, 24, 25, 26] [] [] [] [-9223372036854775808 ≤ x10 + (1 : Int) ∧ x10 + (1 : Int) ≤ 9223372036854775807] ⟨39, [(0, vi a1), (1, vi a2), (7, vi (x3 + (x8.2.length : Int))), (12, .d (.sl t_api_Set) a3), (13, vi (a3.length : Int)), (14, vi x4), (24, .d (.sl (.sl t_api_Cond)) x8.2), (25, vi (x8.2.length : Int)), (26, vi (x10 + (1 : Int)))], []⟩ (by kernel_rfl) (AllP.of (o4) trivial) ?_
        refine then_n (spine_e (then_n (spine_e (then_n (spine_e (then_n (?_)))))))
        obtain ⟨m, hm, h⟩ := h
        exact ⟨m, hm, ⟨39, [(0, vi a1), (1, vi a2), (7, vi (x3 + (x8.2.length : Int))), (12, .d (.sl t_api_Set) a3), (13, vi (a3.length : Int)), (14, vi x4), (24, .d (.sl (.sl t_api_Cond)) x8.2), (25, vi (x8.2.length : Int)), (26, vi (x10 + (1 : Int)))], []⟩, wk_ghosts hk (l := [.keep [0, 1, 7, 12, 13, 14, 24, 25, 26], .keep [0, 1, 7, 12, 13, 14, 24, 25, 26], .keep [0, 1, 7, 12, 13, 14, 24, 25, 26]]) (by kernel_rfl), x10 + (1 : Int), h, rfl⟩
    · replace h := h.2 (of_decide_eq_false hb)
      refine awp_exit (then_x (then_x (then_x (blk_h (then_n (spine_e (then_n (spine_e (then_n (spine_e (blk_n (then_n (spine_c ?_)))))))))))))
      obtain ⟨o5, h⟩ := h
      refine awp_rc tab [0, 1, 7, 12, 13, 14] [] [] [] [-9223372036854775808 ≤ x4 + (1 : Int) ∧ x4 + (1 : Int) ≤ 9223372036854775807] ⟨39, [(0, vi a1), (1, vi a2), (7, vi (x3 + (x8.2.length : Int))), (12, .d (.sl t_api_Set) a3), (13, vi (a3.length : Int)), (14, vi (x4 + (1 : Int)))], []⟩ (by kernel_rfl) (AllP.of (o5) trivial) ?_
      refine then_n (spine_e (then_n (spine_e (then_n (spine_e (then_n (?_)))))))
      obtain ⟨m, hm, h⟩ := h
      exact ⟨m, hm, ⟨39, [(0, vi a1), (1, vi a2), (7, vi (x3 + (x8.2.length : Int))), (12, .d (.sl t_api_Set) a3), (13, vi (a3.length : Int)), (14, vi (x4 + (1 : Int)))], []⟩, wk_ghosts hk (l := [.keep [0, 1, 7, 12, 13, 14], .keep [0, 1, 7, 12, 13, 14], .keep [0, 1, 7, 12, 13, 14]]) (by kernel_rfl), x3 + (x8.2.length : Int), x4 + (1 : Int), h, rfl⟩
  · replace h := h.2 (of_decide_eq_false hb)
    refine awp_exit (then_x (then_x (then_x (blk_h (then_n (spine_c ?_))))))
    refine awp_spine ?_
    refine awp_rc tab [6] [] [] [] [] ⟨39, [(6, vb (decide (x3 ≤ a1)))], []⟩ (by kernel_rfl) (trivial) ?_
    refine then_n (spine_c ?_)
    refine awp_ret (then_r (then_r (then_r (then_r (?_)))))
    exact ret_r (m := 0) (r := vb (decide (x3 ≤ a1))) (objs := []) hk [.keep [6]] ⟨39, [(6, vb (decide (x3 ≤ a1)))], []⟩ (by kernel_rfl) (by kernel_rfl) (Nat.le_refl 0) ⟨decide (x3 ≤ a1), rfl, rfl, h⟩
theorem ok_law04_Few (a1 : Int) (a2 : Int) (a3 : (List api_Set)) (h : law04_Few.pre a1 a2 a3) : OkC prog 17 [vi a1, vi a2, .d (.sl t_api_Set) a3] (vb (law04_Few.fn a1 a2 a3)) :=
  OkC.of call_law04_Few ((walk_law04_Few a1 a2 a3 _ (law04_Few.spec a1 a2 a3 h)).mono fun r o ⟨x, hr, ho, hx⟩ => ⟨by rw [hr, hx], ho⟩) rfl rfl (fun _ => rfl)

noncomputable abbrev Bfarkas_size : Code := bodyOf Try.f89
theorem call_farkas_size : CallOk prog 89 := ⟨_, Try.func89, by kernel_rfl, by kernel_rfl⟩
theorem walk_farkas_size (a1 : Int) (Q : Int → Prop) (h : farkas_size.wp a1 Q) : VCalls prog 89 [vi a1] [] (fun r o => ∃ x, r = .d (.int .u64) x ∧ o = [] ∧ Q x) := by
  refine vcalls_body tab Try.func89 (c := (spine (subC [0] Bfarkas_size) [(spine (subC [1, 0, 0] Bfarkas_size) [(.cond (.tmp 4) (spine (subC [1, 0, 1, 0, 0] Bfarkas_size) [.ret]) .skip), (spine (subC [1, 1, 0] Bfarkas_size) [.ret])])])) (by kernel_rfl) (Nat.le_of_ble_eq_true (by kernel_rfl)) fun cx hd hi hk => ?_
  show AWp prog cx _ _ ⟨10, [(0, vi a1)], []⟩
  replace hk : cx.E.len = 0 := hk
  unfold farkas_size.wp at h
  refine awp_spine ?_
  refine awp_rc tab [0] [] [] [] [] ⟨10, [(0, vi a1)], []⟩ (by kernel_rfl) (trivial) ?_
  refine then_n (spine_c ?_)
  refine awp_spine ?_
  refine awp_rc tab [0, 4] [] [] [] [] ⟨10, [(0, vi a1), (4, vb (decide (a1 < (0 : Int))))], []⟩ (by kernel_rfl) (trivial) ?_
  refine then_n (spine_c ?_)
  refine awp_cond (b := decide (a1 < (0 : Int))) (by kernel_rfl) (fun hb => ?_) (fun hb => ?_)
  · replace h := h.1 (of_decide_eq_true hb)
    refine awp_spine ?_
    refine awp_rc tab [2] [1, 2] [] [] [] ⟨10, [(2, .d (.int .u64) (IntKind.wrap .u64 (-(IntKind.wrap .u64 a1))))], []⟩ (by kernel_rfl) (trivial) ?_
    refine then_n (spine_c ?_)
    refine awp_abs (fun (x1 : Int) => ⟨10, [(2, .d (.int .u64) x1)], []⟩) (IntKind.wrap .u64 (-(IntKind.wrap .u64 a1))) ?_
    intro x1 hx1
    replace h := h x1 hx1
    refine awp_ret (then_r (then_r (then_r (?_))))
    exact ret_r (m := 0) (r := .d (.int .u64) x1) (objs := []) hk [.keep [2]] ⟨10, [(2, .d (.int .u64) x1)], []⟩ (by kernel_rfl) (by kernel_rfl) (Nat.le_refl 0) ⟨x1, rfl, rfl, h⟩
  · replace h := h.2 (of_decide_eq_false hb)
    refine awp_skip (then_n (spine_c ?_))
    refine awp_spine ?_
    refine awp_rc tab [2] [1] [] [] [] ⟨10, [(2, .d (.int .u64) (IntKind.wrap .u64 a1))], []⟩ (by kernel_rfl) (trivial) ?_
    refine then_n (spine_c ?_)
    refine awp_ret (then_r (then_r (then_r (?_))))
    exact ret_r (m := 0) (r := .d (.int .u64) (IntKind.wrap .u64 a1)) (objs := []) hk [.keep [2]] ⟨10, [(2, .d (.int .u64) (IntKind.wrap .u64 a1))], []⟩ (by kernel_rfl) (by kernel_rfl) (Nat.le_refl 0) ⟨IntKind.wrap .u64 a1, rfl, rfl, h⟩
theorem ok_farkas_size (a1 : Int) (h : farkas_size.pre a1) : OkC prog 89 [vi a1] (.d (.int .u64) (farkas_size.fn a1)) :=
  OkC.of call_farkas_size ((walk_farkas_size a1 _ (farkas_size.spec a1 h)).mono fun r o ⟨x, hr, ho, hx⟩ => ⟨by rw [hr, hx], ho⟩) rfl rfl (fun _ => rfl)

noncomputable abbrev Bmath_bits_Mul64 : Code := bodyOf Try.f88
theorem call_math_bits_Mul64 : CallOk prog 88 := ⟨_, Try.func88, by kernel_rfl, by kernel_rfl⟩
theorem walk_math_bits_Mul64 (a1 : Int) (a2 : Int) (Q : Int × Int → Prop) (h : math_bits_Mul64.wp a1 a2 Q) : VCalls prog 88 [.d (.int .u64) a1, .d (.int .u64) a2] [] (fun r o => ∃ x, r = .tup [.d (.int .u64) x.1, .d (.int .u64) x.2] ∧ o = [] ∧ Q x) := by
  refine vcalls_body tab Try.func88 (c := (spine (subC [0] Bmath_bits_Mul64) [(spine (subC [1, 0] Bmath_bits_Mul64) [(spine (subC [1, 1, 0] Bmath_bits_Mul64) [(spine (subC [1, 1, 1, 0] Bmath_bits_Mul64) [(spine (subC [1, 1, 1, 1, 0] Bmath_bits_Mul64) [(spine (subC [1, 1, 1, 1, 1, 0] Bmath_bits_Mul64) [(spine (subC [1, 1, 1, 1, 1, 1, 0] Bmath_bits_Mul64) [(spine (subC [1, 1, 1, 1, 1, 1, 1, 0] Bmath_bits_Mul64) [(spine (subC [1, 1, 1, 1, 1, 1, 1, 1, 0] Bmath_bits_Mul64) [(spine (subC [1, 1, 1, 1, 1, 1, 1, 1, 1, 0] Bmath_bits_Mul64) [(spine (subC [1, 1, 1, 1, 1, 1, 1, 1, 1, 1, 0] Bmath_bits_Mul64) [(spine (subC [1, 1, 1, 1, 1, 1, 1, 1, 1, 1, 1, 0] Bmath_bits_Mul64) [.ret])])])])])])])])])])])])) (by kernel_rfl) (Nat.le_of_ble_eq_true (by kernel_rfl)) fun cx hd hi hk => ?_
  show AWp prog cx _ _ ⟨51, [(0, .d (.int .u64) a1), (1, .d (.int .u64) a2)], []⟩
  replace hk : cx.E.len = 0 := hk
  unfold math_bits_Mul64.wp at h
  refine awp_spine ?_
  refine awp_rc tab [0, 1] [] [] [] [] ⟨51, [(0, .d (.int .u64) a1), (1, .d (.int .u64) a2)], []⟩ (by kernel_rfl) (trivial) ?_
  refine then_n (spine_c ?_)
  refine awp_spine ?_
  refine awp_rc tab [0, 1, 6] [1] [] [] [] ⟨51, [(0, .d (.int .u64) a1), (1, .d (.int .u64) a2), (6, .d (.int .u64) (IntKind.wrap .u64 ((BitVec.ofInt 64 a1 &&& BitVec.ofInt 64 (4294967295 : Int)).toNat : Int)))], []⟩ (by kernel_rfl) (trivial) ?_
  refine then_n (spine_c ?_)
  refine awp_abs (fun (x1 : Int) => ⟨51, [(0, .d (.int .u64) a1), (1, .d (.int .u64) a2), (6, .d (.int .u64) x1)], []⟩) (IntKind.wrap .u64 ((BitVec.ofInt 64 a1 &&& BitVec.ofInt 64 (4294967295 : Int)).toNat : Int)) ?_
  intro x1 hx1
  replace h := h x1 hx1
  refine awp_spine ?_
  obtain ⟨o1, h⟩ := h
  refine awp_rc tab [0, 1, 6, 7] [1] [] [] [0 ≤ (32 : Int)] ⟨51, [(0, .d (.int .u64) a1), (1, .d (.int .u64) a2), (6, .d (.int .u64) x1), (7, .d (.int .u64) (Int.fdiv a1 (2 ^ (min (Int.toNat (32 : Int)) 64))))], []⟩ (by kernel_rfl) (AllP.of (o1) trivial) ?_
  refine then_n (spine_c ?_)
  refine awp_abs (fun (x2 : Int) => ⟨51, [(0, .d (.int .u64) a1), (1, .d (.int .u64) a2), (6, .d (.int .u64) x1), (7, .d (.int .u64) x2)], []⟩) (Int.fdiv a1 (2 ^ (min (Int.toNat (32 : Int)) 64))) ?_
  intro x2 hx2
  replace h := h x2 hx2
  refine awp_spine ?_
  refine awp_rc tab [0, 1, 6, 7, 8] [1] [] [] [] ⟨51, [(0, .d (.int .u64) a1), (1, .d (.int .u64) a2), (6, .d (.int .u64) x1), (7, .d (.int .u64) x2), (8, .d (.int .u64) (IntKind.wrap .u64 ((BitVec.ofInt 64 a2 &&& BitVec.ofInt 64 (4294967295 : Int)).toNat : Int)))], []⟩ (by kernel_rfl) (trivial) ?_
  refine then_n (spine_c ?_)
  refine awp_abs (fun (x3 : Int) => ⟨51, [(0, .d (.int .u64) a1), (1, .d (.int .u64) a2), (6, .d (.int .u64) x1), (7, .d (.int .u64) x2), (8, .d (.int .u64) x3)], []⟩) (IntKind.wrap .u64 ((BitVec.ofInt 64 a2 &&& BitVec.ofInt 64 (4294967295 : Int)).toNat : Int)) ?_
  intro x3 hx3
  replace h := h x3 hx3
  refine awp_spine ?_
  obtain ⟨o2, h⟩ := h
  refine awp_rc tab [0, 1, 6, 7, 8, 9] [1] [] [] [0 ≤ (32 : Int)] ⟨51, [(0, .d (.int .u64) a1), (1, .d (.int .u64) a2), (6, .d (.int .u64) x1), (7, .d (.int .u64) x2), (8, .d (.int .u64) x3), (9, .d (.int .u64) (Int.fdiv a2 (2 ^ (min (Int.toNat (32 : Int)) 64))))], []⟩ (by kernel_rfl) (AllP.of (o2) trivial) ?_
  refine then_n (spine_c ?_)
  refine awp_abs (fun (x4 : Int) => ⟨51, [(0, .d (.int .u64) a1), (1, .d (.int .u64) a2), (6, .d (.int .u64) x1), (7, .d (.int .u64) x2), (8, .d (.int .u64) x3), (9, .d (.int .u64) x4)], []⟩) (Int.fdiv a2 (2 ^ (min (Int.toNat (32 : Int)) 64))) ?_
  intro x4 hx4
  replace h := h x4 hx4
  refine awp_spine ?_
  refine awp_rc tab [0, 1, 6, 7, 8, 9, 10] [2] [] [] [] ⟨51, [(0, .d (.int .u64) a1), (1, .d (.int .u64) a2), (6, .d (.int .u64) x1), (7, .d (.int .u64) x2), (8, .d (.int .u64) x3), (9, .d (.int .u64) x4), (10, .d (.int .u64) (IntKind.wrap .u64 (x1 * x3)))], []⟩ (by kernel_rfl) (trivial) ?_
  refine then_n (spine_c ?_)
  refine awp_spine ?_
  obtain ⟨o3, h⟩ := h
  refine awp_rc tab [0, 1, 6, 7, 9, 11] [2, 4, 5] [] [] [0 ≤ (32 : Int)] ⟨51, [(0, .d (.int .u64) a1), (1, .d (.int .u64) a2), (6, .d (.int .u64) x1), (7, .d (.int .u64) x2), (9, .d (.int .u64) x4), (11, .d (.int .u64) (IntKind.wrap .u64 ((IntKind.wrap .u64 (x2 * x3)) + (Int.fdiv (IntKind.wrap .u64 (x1 * x3)) (2 ^ (min (Int.toNat (32 : Int)) 64))))))], []⟩ (by kernel_rfl) (AllP.of (o3) trivial) ?_
  refine then_n (spine_c ?_)
  refine awp_abs (fun (x5 : Int) => ⟨51, [(0, .d (.int .u64) a1), (1, .d (.int .u64) a2), (6, .d (.int .u64) x1), (7, .d (.int .u64) x2), (9, .d (.int .u64) x4), (11, .d (.int .u64) x5)], []⟩) (IntKind.wrap .u64 ((IntKind.wrap .u64 (x2 * x3)) + (Int.fdiv (IntKind.wrap .u64 (x1 * x3)) (2 ^ (min (Int.toNat (32 : Int)) 64))))) ?_
  intro x5 hx5
  replace h := h x5 hx5
  refine awp_spine ?_
  refine awp_rc tab [0, 1, 6, 7, 9, 11, 12] [1] [] [] [] ⟨51, [(0, .d (.int .u64) a1), (1, .d (.int .u64) a2), (6, .d (.int .u64) x1), (7, .d (.int .u64) x2), (9, .d (.int .u64) x4), (11, .d (.int .u64) x5), (12, .d (.int .u64) (IntKind.wrap .u64 ((BitVec.ofInt 64 x5 &&& BitVec.ofInt 64 (4294967295 : Int)).toNat : Int)))], []⟩ (by kernel_rfl) (trivial) ?_
  refine then_n (spine_c ?_)
  refine awp_abs (fun (x6 : Int) => ⟨51, [(0, .d (.int .u64) a1), (1, .d (.int .u64) a2), (6, .d (.int .u64) x1), (7, .d (.int .u64) x2), (9, .d (.int .u64) x4), (11, .d (.int .u64) x5), (12, .d (.int .u64) x6)], []⟩) (IntKind.wrap .u64 ((BitVec.ofInt 64 x5 &&& BitVec.ofInt 64 (4294967295 : Int)).toNat : Int)) ?_
  intro x6 hx6
  replace h := h x6 hx6
  refine awp_spine ?_
  obtain ⟨o4, h⟩ := h
  refine awp_rc tab [0, 1, 6, 7, 9, 12, 13] [1] [] [] [0 ≤ (32 : Int)] ⟨51, [(0, .d (.int .u64) a1), (1, .d (.int .u64) a2), (6, .d (.int .u64) x1), (7, .d (.int .u64) x2), (9, .d (.int .u64) x4), (12, .d (.int .u64) x6), (13, .d (.int .u64) (Int.fdiv x5 (2 ^ (min (Int.toNat (32 : Int)) 64))))], []⟩ (by kernel_rfl) (AllP.of (o4) trivial) ?_
  refine then_n (spine_c ?_)
  refine awp_abs (fun (x7 : Int) => ⟨51, [(0, .d (.int .u64) a1), (1, .d (.int .u64) a2), (6, .d (.int .u64) x1), (7, .d (.int .u64) x2), (9, .d (.int .u64) x4), (12, .d (.int .u64) x6), (13, .d (.int .u64) x7)], []⟩) (Int.fdiv x5 (2 ^ (min (Int.toNat (32 : Int)) 64))) ?_
  intro x7 hx7
  replace h := h x7 hx7
  refine awp_spine ?_
  refine awp_rc tab [0, 1, 7, 9, 12, 13] [3, 4] [] [] [] ⟨51, [(0, .d (.int .u64) a1), (1, .d (.int .u64) a2), (7, .d (.int .u64) x2), (9, .d (.int .u64) x4), (12, .d (.int .u64) (IntKind.wrap .u64 (x6 + (IntKind.wrap .u64 (x1 * x4))))), (13, .d (.int .u64) x7)], []⟩ (by kernel_rfl) (trivial) ?_
  refine then_n (spine_c ?_)
  refine awp_abs (fun (x8 : Int) => ⟨51, [(0, .d (.int .u64) a1), (1, .d (.int .u64) a2), (7, .d (.int .u64) x2), (9, .d (.int .u64) x4), (12, .d (.int .u64) x8), (13, .d (.int .u64) x7)], []⟩) (IntKind.wrap .u64 (x6 + (IntKind.wrap .u64 (x1 * x4)))) ?_
  intro x8 hx8
  replace h := h x8 hx8
  refine awp_spine ?_
  obtain ⟨o5, h⟩ := h
  refine awp_rc tab [0, 1, 4] [2, 4, 6, 7] [] [] [0 ≤ (32 : Int)] ⟨51, [(0, .d (.int .u64) a1), (1, .d (.int .u64) a2), (4, .d (.int .u64) (IntKind.wrap .u64 ((IntKind.wrap .u64 ((IntKind.wrap .u64 (x2 * x4)) + x7)) + (Int.fdiv x8 (2 ^ (min (Int.toNat (32 : Int)) 64))))))], []⟩ (by kernel_rfl) (AllP.of (o5) trivial) ?_
  refine then_n (spine_c ?_)
  refine awp_abs (fun (x9 : Int) => ⟨51, [(0, .d (.int .u64) a1), (1, .d (.int .u64) a2), (4, .d (.int .u64) x9)], []⟩) (IntKind.wrap .u64 ((IntKind.wrap .u64 ((IntKind.wrap .u64 (x2 * x4)) + x7)) + (Int.fdiv x8 (2 ^ (min (Int.toNat (32 : Int)) 64))))) ?_
  intro x9 hx9
  replace h := h x9 hx9
  refine awp_spine ?_
  refine awp_rc tab [4, 5] [2] [] [] [] ⟨51, [(4, .d (.int .u64) x9), (5, .d (.int .u64) (IntKind.wrap .u64 (a1 * a2)))], []⟩ (by kernel_rfl) (trivial) ?_
  refine then_n (spine_c ?_)
  refine awp_ret (then_r (then_r (then_r (then_r (then_r (then_r (then_r (then_r (then_r (then_r (then_r (then_r (?_)))))))))))))
  exact ret_r (m := 0) (r := .tup [.d (.int .u64) ((x9, IntKind.wrap .u64 (a1 * a2)).1), .d (.int .u64) ((x9, IntKind.wrap .u64 (a1 * a2)).2)]) (objs := []) hk [.keep [4, 5]] ⟨51, [(4, .d (.int .u64) x9), (5, .d (.int .u64) (IntKind.wrap .u64 (a1 * a2)))], []⟩ (by kernel_rfl) (by kernel_rfl) (Nat.le_refl 0) ⟨(x9, IntKind.wrap .u64 (a1 * a2)), rfl, rfl, h⟩
theorem ok_math_bits_Mul64 (a1 : Int) (a2 : Int) (h : math_bits_Mul64.pre a1 a2) : OkC prog 88 [.d (.int .u64) a1, .d (.int .u64) a2] (.tup [.d (.int .u64) ((math_bits_Mul64.fn a1 a2).1), .d (.int .u64) ((math_bits_Mul64.fn a1 a2).2)]) :=
  OkC.of call_math_bits_Mul64 ((walk_math_bits_Mul64 a1 a2 _ (math_bits_Mul64.spec a1 a2 h)).mono fun r o ⟨x, hr, ho, hx⟩ => ⟨by rw [hr, hx], ho⟩) rfl rfl (fun _ => rfl)

noncomputable abbrev Bfarkas_fraction_less : Code := bodyOf Try.f61
theorem call_farkas_fraction_less : CallOk prog 61 := ⟨_, Try.func61, by kernel_rfl, by kernel_rfl⟩
theorem walk_farkas_fraction_less (a1 : farkas_fraction) (a2 : farkas_fraction) (Q : Bool → Prop) (h : farkas_fraction_less.wp a1 a2 Q) : VCalls prog 61 [.agg [vi a1.1, vi a1.2], .agg [vi a2.1, vi a2.2]] [] (fun r o => ∃ x, r = vb x ∧ o = [] ∧ Q x) := by
  refine vcalls_body tab Try.func61 (c := (spine (subC [0] Bfarkas_fraction_less) [(spine (subC [1, 0, 0] Bfarkas_fraction_less) [(.cond (.tmp 15) (spine (subC [1, 0, 1, 0, 0] Bfarkas_fraction_less) [.ret]) .skip), (spine (subC [1, 1, 0] Bfarkas_fraction_less) [(spine (subC [1, 1, 1, 0] Bfarkas_fraction_less) [(spine (subC [1, 1, 1, 1, 0, 0] Bfarkas_fraction_less) [(.cond (.tmp 41) (subC [1, 1, 1, 1, 0, 1, 0] Bfarkas_fraction_less) .skip), (spine (subC [1, 1, 1, 1, 1, 0] Bfarkas_fraction_less) [.ret])])])])])])) (by kernel_rfl) (Nat.le_of_ble_eq_true (by kernel_rfl)) fun cx hd hi hk => ?_
  show AWp prog cx _ _ ⟨59, [(0, .agg [vi a1.1, vi a1.2]), (1, .agg [vi a2.1, vi a2.2])], []⟩
  replace hk : cx.E.len = 0 := hk
  unfold farkas_fraction_less.wp at h
  refine awp_spine ?_
  refine awp_rc tab [2, 3] [] [] [0, 1] [] ⟨59, [(2, .er [vi a1.1, vi a1.2]), (3, .er [vi a2.1, vi a2.2])], []⟩ (by kernel_rfl) (trivial) ?_
  refine then_n (spine_c ?_)
  refine awp_spine ?_
  refine awp_rc tab [2, 3, 15] [] [] [] [] ⟨59, [(2, .er [vi a1.1, vi a1.2]), (3, .er [vi a2.1, vi a2.2]), (15, vb ((decide (a1.1 < (0 : Int))) != (decide (a2.1 < (0 : Int)))))], []⟩ (by kernel_rfl) (trivial) ?_
  refine then_n (spine_c ?_)
  refine awp_cond (b := (decide (a1.1 < (0 : Int))) != (decide (a2.1 < (0 : Int)))) (by kernel_rfl) (fun hb => ?_) (fun hb => ?_)
  · replace h := h.1 (bne_iff_ne.mp hb)
    refine awp_spine ?_
    refine awp_rc tab [4] [] [] [] [] ⟨59, [(4, vb (decide (a1.1 < (0 : Int))))], []⟩ (by kernel_rfl) (trivial) ?_
    refine then_n (spine_c ?_)
    refine awp_ret (then_r (then_r (then_r (?_))))
    exact ret_r (m := 0) (r := vb (decide (a1.1 < (0 : Int)))) (objs := []) hk [.keep [4]] ⟨59, [(4, vb (decide (a1.1 < (0 : Int))))], []⟩ (by kernel_rfl) (by kernel_rfl) (Nat.le_refl 0) ⟨decide (a1.1 < (0 : Int)), rfl, rfl, h⟩
  · replace h := h.2 (bne_f hb)
    refine awp_skip (then_n (spine_c ?_))
    refine awp_spine ?_
    obtain ⟨o1, o2, h⟩ := h
    refine awp_dr tab mixed [2, 3, 5, 6] [5] [(2, .dat (.d (.int .u64) (farkas_size.fn a1.1))), (6, .dat (.tup [.d (.int .u64) ((math_bits_Mul64.fn (farkas_size.fn a1.1) (IntKind.wrap .u64 a2.2)).1), .d (.int .u64) ((math_bits_Mul64.fn (farkas_size.fn a1.1) (IntKind.wrap .u64 a2.2)).2)]))] [] ⟨[[], [0], [0, 1], [], [3], [3, 4], [0, 1, 2, 3, 4, 5], [0, 1, 2, 3, 4, 5, 6], [0, 1, 2, 3, 4, 5, 6, 7], [0, 1, 2, 3, 4, 5, 6, 7], [0, 1, 2, 3, 4, 5, 6, 7, 8], [0, 1, 2, 3, 4, 5, 6, 7, 8, 9, 10]], [.er [vi a1.1, vi a1.2], vi a1.1, .d (.int .u64) (farkas_size.fn a1.1), .er [vi a2.2], vi a2.2, .d (.int .u64) (IntKind.wrap .u64 a2.2), .tup [.d (.int .u64) ((math_bits_Mul64.fn (farkas_size.fn a1.1) (IntKind.wrap .u64 a2.2)).1), .d (.int .u64) ((math_bits_Mul64.fn (farkas_size.fn a1.1) (IntKind.wrap .u64 a2.2)).2)], .tup [.d (.int .u64) ((math_bits_Mul64.fn (farkas_size.fn a1.1) (IntKind.wrap .u64 a2.2)).1), .d (.int .u64) ((math_bits_Mul64.fn (farkas_size.fn a1.1) (IntKind.wrap .u64 a2.2)).2)], .d (.int .u64) ((math_bits_Mul64.fn (farkas_size.fn a1.1) (IntKind.wrap .u64 a2.2)).1), .d (.int .u64) ((math_bits_Mul64.fn (farkas_size.fn a1.1) (IntKind.wrap .u64 a2.2)).2), .d (.int .u64) ((math_bits_Mul64.fn (farkas_size.fn a1.1) (IntKind.wrap .u64 a2.2)).1), .d (.int .u64) ((math_bits_Mul64.fn (farkas_size.fn a1.1) (IntKind.wrap .u64 a2.2)).2)], [none, none, some (OkC prog 89 [vi a1.1] (.d (.int .u64) (farkas_size.fn a1.1))), none, none, none, some (OkC prog 88 [.d (.int .u64) (farkas_size.fn a1.1), .d (.int .u64) (IntKind.wrap .u64 a2.2)] (.tup [.d (.int .u64) ((math_bits_Mul64.fn (farkas_size.fn a1.1) (IntKind.wrap .u64 a2.2)).1), .d (.int .u64) ((math_bits_Mul64.fn (farkas_size.fn a1.1) (IntKind.wrap .u64 a2.2)).2)])), none, none, none, none, none], [], [([], [])]⟩ ⟨59, [(2, .er [vi a1.1, vi a1.2]), (3, .er [vi a2.1, vi a2.2]), (5, .d (.int .u64) ((math_bits_Mul64.fn (farkas_size.fn a1.1) (IntKind.wrap .u64 a2.2)).1)), (6, .d (.int .u64) ((math_bits_Mul64.fn (farkas_size.fn a1.1) (IntKind.wrap .u64 a2.2)).2))], []⟩ (by kernel_rfl) (AllO.n (AllO.n (AllO.s (ok_farkas_size a1.1 (o1)) (AllO.n (AllO.n (AllO.n (AllO.s (ok_math_bits_Mul64 (farkas_size.fn a1.1) (IntKind.wrap .u64 a2.2) (o2)) (AllO.n (AllO.n (AllO.n (AllO.n (AllO.n (AllO.e))))))))))))) ?_
    refine then_n (spine_c ?_)
    refine awp_abs (fun (x1 : Int) => ⟨59, [(2, .er [vi a1.1, vi a1.2]), (3, .er [vi a2.1, vi a2.2]), (5, .d (.int .u64) ((math_bits_Mul64.fn x1 (IntKind.wrap .u64 a2.2)).1)), (6, .d (.int .u64) ((math_bits_Mul64.fn x1 (IntKind.wrap .u64 a2.2)).2))], []⟩) (farkas_size.fn a1.1) ?_
    intro x1 hx1
    replace h := h x1 hx1
    refine awp_abs (fun (x2 : Int × Int) => ⟨59, [(2, .er [vi a1.1, vi a1.2]), (3, .er [vi a2.1, vi a2.2]), (5, .d (.int .u64) x2.1), (6, .d (.int .u64) x2.2)], []⟩) (math_bits_Mul64.fn x1 (IntKind.wrap .u64 a2.2)) ?_
    intro x2 hx2
    replace h := h x2 hx2
    refine awp_abs (fun (x3 : Int) => ⟨59, [(2, .er [vi a1.1, vi a1.2]), (3, .er [vi a2.1, vi a2.2]), (5, .d (.int .u64) x3), (6, .d (.int .u64) x2.2)], []⟩) (x2.1) ?_
    intro x3 hx3
    replace h := h x3 hx3
    refine awp_abs (fun (x4 : Int) => ⟨59, [(2, .er [vi a1.1, vi a1.2]), (3, .er [vi a2.1, vi a2.2]), (5, .d (.int .u64) x3), (6, .d (.int .u64) x4)], []⟩) (x2.2) ?_
    intro x4 hx4
    replace h := h x4 hx4
    refine awp_spine ?_
    obtain ⟨o3, o4, h⟩ := h
    refine awp_dr tab mixed [2, 5, 6, 7, 8] [5] [(2, .dat (.d (.int .u64) (farkas_size.fn a2.1))), (6, .dat (.tup [.d (.int .u64) ((math_bits_Mul64.fn (farkas_size.fn a2.1) (IntKind.wrap .u64 a1.2)).1), .d (.int .u64) ((math_bits_Mul64.fn (farkas_size.fn a2.1) (IntKind.wrap .u64 a1.2)).2)]))] [] ⟨[[], [0], [0, 1], [], [3], [3, 4], [0, 1, 2, 3, 4, 5], [0, 1, 2, 3, 4, 5, 6], [0, 1, 2, 3, 4, 5, 6, 7], [0, 1, 2, 3, 4, 5, 6, 7], [0, 1, 2, 3, 4, 5, 6, 7, 8], [0, 1, 2, 3, 4, 5, 6, 7, 8, 9, 10]], [.er [vi a2.1, vi a2.2], vi a2.1, .d (.int .u64) (farkas_size.fn a2.1), .er [vi a1.2], vi a1.2, .d (.int .u64) (IntKind.wrap .u64 a1.2), .tup [.d (.int .u64) ((math_bits_Mul64.fn (farkas_size.fn a2.1) (IntKind.wrap .u64 a1.2)).1), .d (.int .u64) ((math_bits_Mul64.fn (farkas_size.fn a2.1) (IntKind.wrap .u64 a1.2)).2)], .tup [.d (.int .u64) ((math_bits_Mul64.fn (farkas_size.fn a2.1) (IntKind.wrap .u64 a1.2)).1), .d (.int .u64) ((math_bits_Mul64.fn (farkas_size.fn a2.1) (IntKind.wrap .u64 a1.2)).2)], .d (.int .u64) ((math_bits_Mul64.fn (farkas_size.fn a2.1) (IntKind.wrap .u64 a1.2)).1), .d (.int .u64) ((math_bits_Mul64.fn (farkas_size.fn a2.1) (IntKind.wrap .u64 a1.2)).2), .d (.int .u64) ((math_bits_Mul64.fn (farkas_size.fn a2.1) (IntKind.wrap .u64 a1.2)).1), .d (.int .u64) ((math_bits_Mul64.fn (farkas_size.fn a2.1) (IntKind.wrap .u64 a1.2)).2)], [none, none, some (OkC prog 89 [vi a2.1] (.d (.int .u64) (farkas_size.fn a2.1))), none, none, none, some (OkC prog 88 [.d (.int .u64) (farkas_size.fn a2.1), .d (.int .u64) (IntKind.wrap .u64 a1.2)] (.tup [.d (.int .u64) ((math_bits_Mul64.fn (farkas_size.fn a2.1) (IntKind.wrap .u64 a1.2)).1), .d (.int .u64) ((math_bits_Mul64.fn (farkas_size.fn a2.1) (IntKind.wrap .u64 a1.2)).2)])), none, none, none, none, none], [], [([], [])]⟩ ⟨59, [(2, .er [vi a1.1, vi a1.2]), (5, .d (.int .u64) x3), (6, .d (.int .u64) x4), (7, .d (.int .u64) ((math_bits_Mul64.fn (farkas_size.fn a2.1) (IntKind.wrap .u64 a1.2)).1)), (8, .d (.int .u64) ((math_bits_Mul64.fn (farkas_size.fn a2.1) (IntKind.wrap .u64 a1.2)).2))], []⟩ (by kernel_rfl) (AllO.n (AllO.n (AllO.s (ok_farkas_size a2.1 (o3)) (AllO.n (AllO.n (AllO.n (AllO.s (ok_math_bits_Mul64 (farkas_size.fn a2.1) (IntKind.wrap .u64 a1.2) (o4)) (AllO.n (AllO.n (AllO.n (AllO.n (AllO.n (AllO.e))))))))))))) ?_
    refine then_n (spine_c ?_)
    refine awp_abs (fun (x5 : Int) => ⟨59, [(2, .er [vi a1.1, vi a1.2]), (5, .d (.int .u64) x3), (6, .d (.int .u64) x4), (7, .d (.int .u64) ((math_bits_Mul64.fn x5 (IntKind.wrap .u64 a1.2)).1)), (8, .d (.int .u64) ((math_bits_Mul64.fn x5 (IntKind.wrap .u64 a1.2)).2))], []⟩) (farkas_size.fn a2.1) ?_
    intro x5 hx5
    replace h := h x5 hx5
    refine awp_abs (fun (x6 : Int × Int) => ⟨59, [(2, .er [vi a1.1, vi a1.2]), (5, .d (.int .u64) x3), (6, .d (.int .u64) x4), (7, .d (.int .u64) x6.1), (8, .d (.int .u64) x6.2)], []⟩) (math_bits_Mul64.fn x5 (IntKind.wrap .u64 a1.2)) ?_
    intro x6 hx6
    replace h := h x6 hx6
    refine awp_abs (fun (x7 : Int) => ⟨59, [(2, .er [vi a1.1, vi a1.2]), (5, .d (.int .u64) x3), (6, .d (.int .u64) x4), (7, .d (.int .u64) x7), (8, .d (.int .u64) x6.2)], []⟩) (x6.1) ?_
    intro x7 hx7
    replace h := h x7 hx7
    refine awp_abs (fun (x8 : Int) => ⟨59, [(2, .er [vi a1.1, vi a1.2]), (5, .d (.int .u64) x3), (6, .d (.int .u64) x4), (7, .d (.int .u64) x7), (8, .d (.int .u64) x8)], []⟩) (x6.2) ?_
    intro x8 hx8
    replace h := h x8 hx8
    refine awp_spine ?_
    refine awp_rc tab [5, 6, 7, 8, 41] [] [] [] [] ⟨59, [(5, .d (.int .u64) x3), (6, .d (.int .u64) x4), (7, .d (.int .u64) x7), (8, .d (.int .u64) x8), (41, vb (decide (a1.1 < (0 : Int))))], []⟩ (by kernel_rfl) (trivial) ?_
    refine then_n (spine_c ?_)
    obtain ⟨R13, hA13, hB13⟩ := h
    refine awp_meet (fun s' => ∃ (x9 : Int) (x10 : Int) (x11 : Int) (x12 : Int), R13 x9 x10 x11 x12 ∧ Wk cx s' ⟨59, [(5, .d (.int .u64) x9), (6, .d (.int .u64) x10), (7, .d (.int .u64) x11), (8, .d (.int .u64) x12)], []⟩) ?_ ?_
    · have h := hA13
      refine awp_cond (b := decide (a1.1 < (0 : Int))) (by kernel_rfl) (fun hb => ?_) (fun hb => ?_)
      · replace h := h.1 (of_decide_eq_true hb)
        refine awp_rc tab [5, 6, 7, 8] [] [] [] [] ⟨59, [(5, .d (.int .u64) x7), (6, .d (.int .u64) x8), (7, .d (.int .u64) x3), (8, .d (.int .u64) x4)], []⟩ (by kernel_rfl) (trivial) ?_
        refine then_n (?_)
        exact ⟨x7, x8, x3, x4, h, wk_ghosts hk (l := [.keep [5, 6, 7, 8], .keep [5, 6, 7, 8], .keep [5, 6, 7, 8]]) (by kernel_rfl)⟩
      · replace h := h.2 (of_decide_eq_false hb)
        refine awp_skip (then_n (?_))
        exact ⟨x3, x4, x7, x8, h, wk_ghosts hk (l := [.keep [5, 6, 7, 8], .keep [5, 6, 7, 8], .keep [5, 6, 7, 8]]) (by kernel_rfl)⟩
    · rintro s' ⟨x9, x10, x11, x12, hx13, hw13⟩
      have h := hB13 x9 x10 x11 x12 hx13
      refine spine_c (awp_wk hw13 ?_)
      refine awp_spine ?_
      refine awp_rc tab [4] [2, 6, 10] [] [] [(!(decide (x9 < x11))) = true → (!(decide (x9 < x11))) = true ∧ ((!(decide (x9 < x11))) = true ∧ True), (!(decide (x9 < x11))) = true → (!(decide (x9 < x11))) = true ∧ True, ((!(decide (x9 < x11))) && (x9 == x11)) = true → ((!(decide (x9 < x11))) && (x9 == x11)) = true ∧ (((!(decide (x9 < x11))) && (x9 == x11)) = true ∧ True), (!(decide (x9 < x11))) = true → (!(decide (x9 < x11))) = true ∧ ((x9 == x11) = true → ((!(decide (x9 < x11))) && (x9 == x11)) = true), (decide (x9 < x11)) = false → (!(decide (x9 < x11))) = true] ⟨59, [(4, vb ((decide (x9 < x11)) || ((x9 == x11) && (decide (x10 < x12)))))], []⟩ (by kernel_rfl) (AllP.of (fun hg => ⟨hg, hg, trivial⟩) (AllP.of (fun hg => ⟨hg, trivial⟩) (AllP.of (fun hg => ⟨hg, hg, trivial⟩) (AllP.of (fun hg => ⟨hg, fun hc => and_t hg hc⟩) (AllP.of (fun hc => not_f hc) trivial))))) ?_
      refine then_n (spine_c ?_)
      refine awp_ret (then_r (then_r (then_r (then_r (then_r (then_r (?_)))))))
      exact ret_r (m := 0) (r := vb ((decide (x9 < x11)) || ((x9 == x11) && (decide (x10 < x12))))) (objs := []) hk [.keep [4]] ⟨59, [(4, vb ((decide (x9 < x11)) || ((x9 == x11) && (decide (x10 < x12)))))], []⟩ (by kernel_rfl) (by kernel_rfl) (Nat.le_refl 0) ⟨(decide (x9 < x11)) || ((x9 == x11) && (decide (x10 < x12))), rfl, rfl, h⟩
theorem ok_farkas_fraction_less (a1 : farkas_fraction) (a2 : farkas_fraction) (h : farkas_fraction_less.pre a1 a2) : OkC prog 61 [.agg [vi a1.1, vi a1.2], .agg [vi a2.1, vi a2.2]] (vb (farkas_fraction_less.fn a1 a2)) :=
  OkC.of call_farkas_fraction_less ((walk_farkas_fraction_less a1 a2 _ (farkas_fraction_less.spec a1 a2 h)).mono fun r o ⟨x, hr, ho, hx⟩ => ⟨by rw [hr, hx], ho⟩) rfl rfl (fun _ => rfl)

end Go.Proofs.Ytlncingakpelbaa
