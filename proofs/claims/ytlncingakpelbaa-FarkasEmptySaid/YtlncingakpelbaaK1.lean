/- Part of a proof that a law of the program holds for every input: printed by a program of this work. No conditions. -/
import Derived.Test.YtlncingakpelbaaK0
namespace Go.Proofs.Ytlncingakpelbaa
open Go
set_option linter.unusedVariables false
set_option maxHeartbeats 4000000

noncomputable abbrev Bnum_Fits : Code := bodyOf Try.f91
theorem call_num_Fits : CallOk prog 91 := ⟨_, Try.func91, by kernel_rfl, by kernel_rfl⟩
theorem walk_num_Fits (a1 : Int) (Q : Bool → Prop) (h : num_Fits.wp a1 Q) : VCalls prog 91 [vi a1] [] (fun r o => ∃ x, r = vb x ∧ o = [] ∧ Q x) := by
  refine vcalls_body tab Try.func91 (c := (spine (subC [0] Bnum_Fits) [(spine (subC [1, 0] Bnum_Fits) [.ret])])) (by kernel_rfl) (Nat.le_of_ble_eq_true (by kernel_rfl)) fun cx hd hi hk => ?_
  show AWp prog cx _ _ ⟨9, [(0, vi a1)], []⟩
  replace hk : cx.E.len = 0 := hk
  unfold num_Fits.wp at h
  refine awp_spine ?_
  refine awp_rc tab [0] [] [] [] [] ⟨9, [(0, vi a1)], []⟩ (by kernel_rfl) (trivial) ?_
  refine then_n (spine_c ?_)
  refine awp_spine ?_
  refine awp_rc tab [2] [] [] [] [(decide (a1 ≥ (-1048576))) = true → (decide (a1 ≥ (-1048576))) = true ∧ True, (decide (a1 ≥ (-1048576))) = true → (decide (a1 ≥ (-1048576))) = true] ⟨9, [(2, vb ((decide (a1 ≥ (-1048576))) && (decide (a1 ≤ (1048576 : Int)))))], []⟩ (by kernel_rfl) (AllP.of (fun hg => ⟨hg, trivial⟩) (AllP.of (fun hc => hc) trivial)) ?_
  refine then_n (spine_c ?_)
  refine awp_ret (then_r (then_r (?_)))
  exact ret_r (m := 0) (r := vb ((decide (a1 ≥ (-1048576))) && (decide (a1 ≤ (1048576 : Int))))) (objs := []) hk [.keep [2]] ⟨9, [(2, vb ((decide (a1 ≥ (-1048576))) && (decide (a1 ≤ (1048576 : Int)))))], []⟩ (by kernel_rfl) (by kernel_rfl) (Nat.le_refl 0) ⟨(decide (a1 ≥ (-1048576))) && (decide (a1 ≤ (1048576 : Int))), rfl, rfl, h⟩
theorem ok_num_Fits (a1 : Int) : OkC prog 91 [vi a1] (vb (num_Fits.fn a1)) :=
  OkC.of call_num_Fits ((walk_num_Fits a1 _ (num_Fits.spec a1)).mono fun r o ⟨x, hr, ho, hx⟩ => ⟨by rw [hr, hx], ho⟩) rfl rfl (fun _ => rfl)

noncomputable abbrev Blin_Valid : Code := bodyOf Try.f77
theorem call_lin_Valid : CallOk prog 77 := ⟨_, Try.func77, by kernel_rfl, by kernel_rfl⟩
theorem walk_lin_Valid (a1 : api_Lin) (Q : Bool → Prop) (h : lin_Valid.wp a1 Q) : VCalls prog 77 [.agg [.d (.sl (.int .i64)) a1.1, vi a1.2]] [] (fun r o => ∃ x, r = vb x ∧ o = [] ∧ Q x) := by
  refine vcalls_body tab Try.func77 (c := (spine (subC [0] Blin_Valid) [(spine (subC [1, 0, 0] Blin_Valid) [(.block 0 (.loop (spine (subC [1, 0, 1, 0, 0, 0] Blin_Valid) [(spine (.cond (.tmp 9) .skip (.exit 0)) [(spine (.block 1 (spine (subC [1, 0, 1, 0, 0, 1, 1, 0, 0, 0] Blin_Valid) [(spine (subC [1, 0, 1, 0, 0, 1, 1, 0, 0, 1, 0] Blin_Valid) [(.cond (.tmp 14) (spine (subC [1, 0, 1, 0, 0, 1, 1, 0, 0, 1, 1, 0, 0] Blin_Valid) [.ret]) .skip)])])) [(subC [1, 0, 1, 0, 0, 1, 1, 1] Blin_Valid)])])]))), (spine (subC [1, 1, 0] Blin_Valid) [.ret])])])) (by kernel_rfl) (Nat.le_of_ble_eq_true (by kernel_rfl)) fun cx hd hi hk => ?_
  show AWp prog cx _ _ ⟨25, [(0, .agg [.d (.sl (.int .i64)) a1.1, vi a1.2])], []⟩
  replace hk : cx.E.len = 0 := hk
  unfold lin_Valid.wp at h
  refine awp_spine ?_
  refine awp_rc tab [1] [] [] [0] [] ⟨25, [(1, .er [.d (.sl (.int .i64)) a1.1, vi a1.2])], []⟩ (by kernel_rfl) (trivial) ?_
  refine then_n (spine_c ?_)
  refine awp_spine ?_
  refine awp_rc tab [1, 6, 7, 8] [] [] [] [] ⟨25, [(1, .er [.d (.sl (.int .i64)) a1.1, vi a1.2]), (6, .d (.sl (.int .i64)) a1.1), (7, vi (a1.1.length : Int)), (8, vi (0 : Int))], []⟩ (by kernel_rfl) (trivial) ?_
  refine then_n (spine_c ?_)
  refine awp_len 1 [0] (T := (.int .i64)) (l := a1.1) (by kernel_rfl) fun hl => ?_
  replace h := h hl
  refine awp_block ?_
  obtain ⟨I4, ⟨n4a, hz4⟩, hI4⟩ := h
  refine awp_loopN (fun n s => ∃ (x2 : Int), I4 n x2 ∧ s = ⟨25, [(1, .er [.d (.sl (.int .i64)) a1.1, vi a1.2]), (6, .d (.sl (.int .i64)) a1.1), (7, vi (a1.1.length : Int)), (8, vi x2)], []⟩) (n := n4a) (s0 := ⟨25, [(1, .er [.d (.sl (.int .i64)) a1.1, vi a1.2]), (6, .d (.sl (.int .i64)) a1.1), (7, vi (a1.1.length : Int)), (8, vi (0 : Int))], []⟩) (wk_ghosts hk (l := [.keep [1, 6, 7, 8], .keep [1, 6, 7, 8], .keep [1, 6, 7, 8], .keep [1, 6, 7, 8]]) (by kernel_rfl)) ⟨0, hz4, rfl⟩ ?_
  rintro n4 s ⟨x2, hx4, rfl⟩
  have h := hI4 n4 x2 hx4
  refine awp_spine ?_
  refine awp_rc tab [1, 6, 7, 8, 9] [] [] [] [] ⟨25, [(1, .er [.d (.sl (.int .i64)) a1.1, vi a1.2]), (6, .d (.sl (.int .i64)) a1.1), (7, vi (a1.1.length : Int)), (8, vi x2), (9, vb (decide (x2 < (a1.1.length : Int))))], []⟩ (by kernel_rfl) (trivial) ?_
  refine then_n (spine_c ?_)
  refine awp_spine ?_
  refine awp_cond (b := decide (x2 < (a1.1.length : Int))) (by kernel_rfl) (fun hb => ?_) (fun hb => ?_)
  · replace h := h.1 (of_decide_eq_true hb)
    refine awp_skip (then_n (spine_c ?_))
    refine awp_spine ?_
    refine awp_block ?_
    refine awp_spine ?_
    obtain ⟨o1, h⟩ := h
    refine awp_rc tab [1, 4, 6, 7, 8] [] [] [] [(0 : Int) ≤ x2 ∧ x2 < (a1.1.length : Int)] ⟨25, [(1, .er [.d (.sl (.int .i64)) a1.1, vi a1.2]), (4, vi (gI a1.1 x2)), (6, .d (.sl (.int .i64)) a1.1), (7, vi (a1.1.length : Int)), (8, vi x2)], []⟩ (by kernel_rfl) (AllP.of (o1) trivial) ?_
    refine then_n (spine_c ?_)
    refine awp_spine ?_
    refine awp_rc tab [1, 6, 7, 8, 14] [] [(1, .dat (vb (num_Fits.fn (gI a1.1 x2))))] [] [OkC prog 91 [vi (gI a1.1 x2)] (vb (num_Fits.fn (gI a1.1 x2)))] ⟨25, [(1, .er [.d (.sl (.int .i64)) a1.1, vi a1.2]), (6, .d (.sl (.int .i64)) a1.1), (7, vi (a1.1.length : Int)), (8, vi x2), (14, vb (!(num_Fits.fn (gI a1.1 x2))))], []⟩ (by kernel_rfl) (AllP.of (ok_num_Fits (gI a1.1 x2)) trivial) ?_
    refine then_n (spine_c ?_)
    refine awp_cond (b := !(num_Fits.fn (gI a1.1 x2))) (by kernel_rfl) (fun hb => ?_) (fun hb => ?_)
    · replace h := h.1 ((nt hb))
      refine awp_spine ?_
      refine awp_rc tab [2] [] [] [] [] ⟨25, [(2, vb false)], []⟩ (by kernel_rfl) (trivial) ?_
      refine then_n (spine_c ?_)
      refine awp_ret (then_r (then_r (then_r (blk_r (then_r (then_r (then_r (then_r (blk_r (then_r (then_r (?_))))))))))))
      exact ret_r (m := 0) (r := vb false) (objs := []) hk [.keep [2]] ⟨25, [(2, vb false)], []⟩ (by kernel_rfl) (by kernel_rfl) (Nat.le_refl 0) ⟨false, rfl, rfl, h⟩
    · replace h := h.2 ((nf hb))
      refine awp_skip (then_n (spine_e (then_n (spine_e (blk_n (then_n (spine_c ?_)))))))
      obtain ⟨o2, h⟩ := h
      refine awp_rc tab [1, 6, 7, 8] [] [] [] [-9223372036854775808 ≤ x2 + (1 : Int) ∧ x2 + (1 : Int) ≤ 9223372036854775807] ⟨25, [(1, .er [.d (.sl (.int .i64)) a1.1, vi a1.2]), (6, .d (.sl (.int .i64)) a1.1), (7, vi (a1.1.length : Int)), (8, vi (x2 + (1 : Int)))], []⟩ (by kernel_rfl) (AllP.of (o2) trivial) ?_
      refine then_n (spine_e (then_n (spine_e (then_n (spine_e (then_n (?_)))))))
      obtain ⟨m, hm, h⟩ := h
      exact ⟨m, hm, ⟨25, [(1, .er [.d (.sl (.int .i64)) a1.1, vi a1.2]), (6, .d (.sl (.int .i64)) a1.1), (7, vi (a1.1.length : Int)), (8, vi (x2 + (1 : Int)))], []⟩, wk_ghosts hk (l := [.keep [1, 6, 7, 8], .keep [1, 6, 7, 8], .keep [1, 6, 7, 8]]) (by kernel_rfl), x2 + (1 : Int), h, rfl⟩
  · replace h := h.2 (of_decide_eq_false hb)
    refine awp_exit (then_x (then_x (then_x (blk_h (then_n (spine_c ?_))))))
    refine awp_spine ?_
    refine awp_rc tab [2] [] [(7, .dat (vb (num_Fits.fn a1.2)))] [] [(decide ((a1.1.length : Int) ≤ (12 : Int))) = true → (decide ((a1.1.length : Int) ≤ (12 : Int))) = true ∧ True, (decide ((a1.1.length : Int) ≤ (12 : Int))) = true → (decide ((a1.1.length : Int) ≤ (12 : Int))) = true ∧ (OkC prog 91 [vi a1.2] (vb (num_Fits.fn a1.2))), (decide ((a1.1.length : Int) ≤ (12 : Int))) = true → (decide ((a1.1.length : Int) ≤ (12 : Int))) = true] ⟨25, [(2, vb ((decide ((a1.1.length : Int) ≤ (12 : Int))) && (num_Fits.fn a1.2)))], []⟩ (by kernel_rfl) (AllP.of (fun hg => ⟨hg, trivial⟩) (AllP.of (fun hg => ⟨hg, ok_num_Fits a1.2⟩) (AllP.of (fun hc => hc) trivial))) ?_
    refine then_n (spine_c ?_)
    refine awp_ret (then_r (then_r (then_r (?_))))
    exact ret_r (m := 0) (r := vb ((decide ((a1.1.length : Int) ≤ (12 : Int))) && (num_Fits.fn a1.2))) (objs := []) hk [.keep [2]] ⟨25, [(2, vb ((decide ((a1.1.length : Int) ≤ (12 : Int))) && (num_Fits.fn a1.2)))], []⟩ (by kernel_rfl) (by kernel_rfl) (Nat.le_refl 0) ⟨(decide ((a1.1.length : Int) ≤ (12 : Int))) && (num_Fits.fn a1.2), rfl, rfl, h⟩
theorem ok_lin_Valid (a1 : api_Lin) : OkC prog 77 [.agg [.d (.sl (.int .i64)) a1.1, vi a1.2]] (vb (lin_Valid.fn a1)) :=
  OkC.of call_lin_Valid ((walk_lin_Valid a1 _ (lin_Valid.spec a1)).mono fun r o ⟨x, hr, ho, hx⟩ => ⟨by rw [hr, hx], ho⟩) rfl rfl (fun _ => rfl)

noncomputable abbrev Bcond_Valid : Code := bodyOf Try.f53
theorem call_cond_Valid : CallOk prog 53 := ⟨_, Try.func53, by kernel_rfl, by kernel_rfl⟩
theorem walk_cond_Valid (a1 : api_Cond) (Q : Bool → Prop) (h : cond_Valid.wp a1 Q) : VCalls prog 53 [.agg [vi a1.1, vi a1.2.1, .d (.sl (.int .i64)) a1.2.2.1, vi a1.2.2.2]] [] (fun r o => ∃ x, r = vb x ∧ o = [] ∧ Q x) := by
  refine vcalls_body tab Try.func53 (c := (spine (subC [0] Bcond_Valid) [(spine (subC [1, 0, 0] Bcond_Valid) [(.block 0 (spine (subC [1, 0, 1, 0, 0, 0] Bcond_Valid) [(.cond (.tmp 5) .skip (subC [1, 0, 1, 0, 0, 1, 1] Bcond_Valid)), (.cond (.tmp 5) (spine (subC [1, 0, 1, 0, 1, 0, 0] Bcond_Valid) [.ret]) (spine (subC [1, 0, 1, 0, 1, 1, 0] Bcond_Valid) [(.cond (.tmp 16) (spine (subC [1, 0, 1, 0, 1, 1, 1, 0, 0] Bcond_Valid) [.ret]) .skip)]))])), (spine (subC [1, 1, 0] Bcond_Valid) [.ret])])])) (by kernel_rfl) (Nat.le_of_ble_eq_true (by kernel_rfl)) fun cx hd hi hk => ?_
  show AWp prog cx _ _ ⟨31, [(0, .agg [vi a1.1, vi a1.2.1, .d (.sl (.int .i64)) a1.2.2.1, vi a1.2.2.2])], []⟩
  replace hk : cx.E.len = 0 := hk
  unfold cond_Valid.wp at h
  refine awp_spine ?_
  refine awp_rc tab [1] [] [] [0] [] ⟨31, [(1, .er [vi a1.1, vi a1.2.1, .d (.sl (.int .i64)) a1.2.2.1, vi a1.2.2.2])], []⟩ (by kernel_rfl) (trivial) ?_
  refine then_n (spine_c ?_)
  refine awp_spine ?_
  refine awp_rc tab [1, 4] [] [] [] [] ⟨31, [(1, .er [vi a1.1, vi a1.2.1, .d (.sl (.int .i64)) a1.2.2.1, vi a1.2.2.2]), (4, vi a1.1)], []⟩ (by kernel_rfl) (trivial) ?_
  refine then_n (spine_c ?_)
  refine awp_block ?_
  refine awp_spine ?_
  refine awp_rc tab [1, 4, 5] [] [] [] [] ⟨31, [(1, .er [vi a1.1, vi a1.2.1, .d (.sl (.int .i64)) a1.2.2.1, vi a1.2.2.2]), (4, vi a1.1), (5, vb (a1.1 == (0 : Int)))], []⟩ (by kernel_rfl) (trivial) ?_
  refine then_n (spine_c ?_)
  obtain ⟨R2, hA2, hB2⟩ := h
  refine awp_meet (fun s' => ∃ (x1 : Bool), R2 x1 ∧ Wk cx s' ⟨31, [(1, .er [vi a1.1, vi a1.2.1, .d (.sl (.int .i64)) a1.2.2.1, vi a1.2.2.2]), (4, vi a1.1), (5, vb x1)], []⟩) ?_ ?_
  · have h := hA2
    refine awp_cond (b := a1.1 == (0 : Int)) (by kernel_rfl) (fun hb => ?_) (fun hb => ?_)
    · replace h := h.1 (eq_of_beq hb)
      refine awp_skip (then_n (?_))
      exact ⟨a1.1 == (0 : Int), h, wk_ghosts hk (l := [.keep [1, 4, 5], .keep [1, 4, 5], .keep [1, 4, 5]]) (by kernel_rfl)⟩
    · replace h := h.2 (ne_of_beq_false hb)
      refine awp_rc tab [1, 4, 5] [] [] [] [] ⟨31, [(1, .er [vi a1.1, vi a1.2.1, .d (.sl (.int .i64)) a1.2.2.1, vi a1.2.2.2]), (4, vi a1.1), (5, vb (a1.1 == (1 : Int)))], []⟩ (by kernel_rfl) (trivial) ?_
      refine then_n (?_)
      exact ⟨a1.1 == (1 : Int), h, wk_ghosts hk (l := [.keep [1, 4, 5], .keep [1, 4, 5], .keep [1, 4, 5]]) (by kernel_rfl)⟩
  · rintro s' ⟨x1, hx2, hw2⟩
    have h := hB2 x1 hx2
    refine spine_c (awp_wk hw2 ?_)
    refine awp_cond (b := x1) (by kernel_rfl) (fun hb => ?_) (fun hb => ?_)
    · replace h := h.1 (hb)
      refine awp_spine ?_
      refine awp_rc tab [2] [] [(6, .dat (vb (lin_Valid.fn a1.2.2)))] [] [(a1.2.1 == (0 : Int)) = true → (a1.2.1 == (0 : Int)) = true ∧ True, (a1.2.1 == (0 : Int)) = true → (a1.2.1 == (0 : Int)) = true ∧ (OkC prog 77 [.agg [.d (.sl (.int .i64)) a1.2.2.1, vi a1.2.2.2]] (vb (lin_Valid.fn a1.2.2))), (a1.2.1 == (0 : Int)) = true → (a1.2.1 == (0 : Int)) = true] ⟨31, [(2, vb ((a1.2.1 == (0 : Int)) && (lin_Valid.fn a1.2.2)))], []⟩ (by kernel_rfl) (AllP.of (fun hg => ⟨hg, trivial⟩) (AllP.of (fun hg => ⟨hg, ok_lin_Valid a1.2.2⟩) (AllP.of (fun hc => hc) trivial))) ?_
      refine then_n (spine_c ?_)
      refine awp_ret (then_r (then_r (blk_r (then_r (then_r (?_))))))
      exact ret_r (m := 0) (r := vb ((a1.2.1 == (0 : Int)) && (lin_Valid.fn a1.2.2))) (objs := []) hk [.keep [2]] ⟨31, [(2, vb ((a1.2.1 == (0 : Int)) && (lin_Valid.fn a1.2.2)))], []⟩ (by kernel_rfl) (by kernel_rfl) (Nat.le_refl 0) ⟨(a1.2.1 == (0 : Int)) && (lin_Valid.fn a1.2.2), rfl, rfl, h⟩
    · replace h := h.2 (hb)
      refine awp_spine ?_
      refine awp_rc tab [1, 16] [] [] [] [] ⟨31, [(1, .er [vi a1.1, vi a1.2.1, .d (.sl (.int .i64)) a1.2.2.1, vi a1.2.2.2]), (16, vb (a1.1 == (2 : Int)))], []⟩ (by kernel_rfl) (trivial) ?_
      refine then_n (spine_c ?_)
      refine awp_cond (b := a1.1 == (2 : Int)) (by kernel_rfl) (fun hb => ?_) (fun hb => ?_)
      · replace h := h.1 (eq_of_beq hb)
        refine awp_spine ?_
        refine awp_rc tab [2] [] [(11, .dat (vb (lin_Valid.fn a1.2.2)))] [] [(decide (a1.2.1 ≥ (1 : Int))) = true → (decide (a1.2.1 ≥ (1 : Int))) = true ∧ True, (decide (a1.2.1 ≥ (1 : Int))) = true → (decide (a1.2.1 ≥ (1 : Int))) = true ∧ True, (decide (a1.2.1 ≥ (1 : Int))) = true → (decide (a1.2.1 ≥ (1 : Int))) = true, ((decide (a1.2.1 ≥ (1 : Int))) && (decide (a1.2.1 ≤ (512 : Int)))) = true → ((decide (a1.2.1 ≥ (1 : Int))) && (decide (a1.2.1 ≤ (512 : Int)))) = true ∧ True, ((decide (a1.2.1 ≥ (1 : Int))) && (decide (a1.2.1 ≤ (512 : Int)))) = true → ((decide (a1.2.1 ≥ (1 : Int))) && (decide (a1.2.1 ≤ (512 : Int)))) = true ∧ (OkC prog 77 [.agg [.d (.sl (.int .i64)) a1.2.2.1, vi a1.2.2.2]] (vb (lin_Valid.fn a1.2.2))), ((decide (a1.2.1 ≥ (1 : Int))) && (decide (a1.2.1 ≤ (512 : Int)))) = true → ((decide (a1.2.1 ≥ (1 : Int))) && (decide (a1.2.1 ≤ (512 : Int)))) = true] ⟨31, [(2, vb (((decide (a1.2.1 ≥ (1 : Int))) && (decide (a1.2.1 ≤ (512 : Int)))) && (lin_Valid.fn a1.2.2)))], []⟩ (by kernel_rfl) (AllP.of (fun hg => ⟨hg, trivial⟩) (AllP.of (fun hg => ⟨hg, trivial⟩) (AllP.of (fun hc => hc) (AllP.of (fun hg => ⟨hg, trivial⟩) (AllP.of (fun hg => ⟨hg, ok_lin_Valid a1.2.2⟩) (AllP.of (fun hc => hc) trivial)))))) ?_
        refine then_n (spine_c ?_)
        refine awp_ret (then_r (then_r (then_r (blk_r (then_r (then_r (?_)))))))
        exact ret_r (m := 0) (r := vb (((decide (a1.2.1 ≥ (1 : Int))) && (decide (a1.2.1 ≤ (512 : Int)))) && (lin_Valid.fn a1.2.2))) (objs := []) hk [.keep [2]] ⟨31, [(2, vb (((decide (a1.2.1 ≥ (1 : Int))) && (decide (a1.2.1 ≤ (512 : Int)))) && (lin_Valid.fn a1.2.2)))], []⟩ (by kernel_rfl) (by kernel_rfl) (Nat.le_refl 0) ⟨((decide (a1.2.1 ≥ (1 : Int))) && (decide (a1.2.1 ≤ (512 : Int)))) && (lin_Valid.fn a1.2.2), rfl, rfl, h⟩
      · replace h := h.2 (ne_of_beq_false hb)
        refine awp_skip (then_n (spine_e (then_n (spine_e (blk_n (then_n (spine_c ?_)))))))
        refine awp_spine ?_
        refine awp_rc tab [2] [] [] [] [] ⟨31, [(2, vb false)], []⟩ (by kernel_rfl) (trivial) ?_
        refine then_n (spine_c ?_)
        refine awp_ret (then_r (then_r (then_r (?_))))
        exact ret_r (m := 0) (r := vb false) (objs := []) hk [.keep [2]] ⟨31, [(2, vb false)], []⟩ (by kernel_rfl) (by kernel_rfl) (Nat.le_refl 0) ⟨false, rfl, rfl, h⟩
theorem ok_cond_Valid (a1 : api_Cond) : OkC prog 53 [.agg [vi a1.1, vi a1.2.1, .d (.sl (.int .i64)) a1.2.2.1, vi a1.2.2.2]] (vb (cond_Valid.fn a1)) :=
  OkC.of call_cond_Valid ((walk_cond_Valid a1 _ (cond_Valid.spec a1)).mono fun r o ⟨x, hr, ho, hx⟩ => ⟨by rw [hr, hx], ho⟩) rfl rfl (fun _ => rfl)

noncomputable abbrev Bfarkas_asked_1 : Code := bodyOf Try.f52
theorem call_farkas_asked_1 : CallOk prog 52 := ⟨_, Try.func52, by kernel_rfl, by kernel_rfl⟩
theorem walk_farkas_asked_1 (a1 : api_Cond) (Q : Bool → Prop) (h : farkas_asked_1.wp a1 Q) : VCalls prog 52 [.agg [vi a1.1, vi a1.2.1, .d (.sl (.int .i64)) a1.2.2.1, vi a1.2.2.2]] [] (fun r o => ∃ x, r = vb x ∧ o = [] ∧ Q x) := by
  refine vcalls_body tab Try.func52 (c := (spine (subC [0] Bfarkas_asked_1) [(spine (subC [1, 0] Bfarkas_asked_1) [.ret])])) (by kernel_rfl) (Nat.le_of_ble_eq_true (by kernel_rfl)) fun cx hd hi hk => ?_
  show AWp prog cx _ _ ⟨6, [(0, .agg [vi a1.1, vi a1.2.1, .d (.sl (.int .i64)) a1.2.2.1, vi a1.2.2.2])], []⟩
  replace hk : cx.E.len = 0 := hk
  unfold farkas_asked_1.wp at h
  refine awp_spine ?_
  refine awp_rc tab [1] [] [] [0] [] ⟨6, [(1, .er [vi a1.1, vi a1.2.1, .d (.sl (.int .i64)) a1.2.2.1, vi a1.2.2.2])], []⟩ (by kernel_rfl) (trivial) ?_
  refine then_n (spine_c ?_)
  refine awp_spine ?_
  refine awp_rc tab [2] [] [(1, .dat (vb (cond_Valid.fn a1)))] [] [OkC prog 53 [.agg [vi a1.1, vi a1.2.1, .d (.sl (.int .i64)) a1.2.2.1, vi a1.2.2.2]] (vb (cond_Valid.fn a1))] ⟨6, [(2, vb (!(cond_Valid.fn a1)))], []⟩ (by kernel_rfl) (AllP.of (ok_cond_Valid a1) trivial) ?_
  refine then_n (spine_c ?_)
  refine awp_ret (then_r (then_r (?_)))
  exact ret_r (m := 0) (r := vb (!(cond_Valid.fn a1))) (objs := []) hk [.keep [2]] ⟨6, [(2, vb (!(cond_Valid.fn a1)))], []⟩ (by kernel_rfl) (by kernel_rfl) (Nat.le_refl 0) ⟨!(cond_Valid.fn a1), rfl, rfl, h⟩
theorem ok_farkas_asked_1 (a1 : api_Cond) : OkC prog 52 [.agg [vi a1.1, vi a1.2.1, .d (.sl (.int .i64)) a1.2.2.1, vi a1.2.2.2]] (vb (farkas_asked_1.fn a1)) :=
  OkC.of call_farkas_asked_1 ((walk_farkas_asked_1 a1 _ (farkas_asked_1.spec a1)).mono fun r o ⟨x, hr, ho, hx⟩ => ⟨by rw [hr, hx], ho⟩) rfl rfl (fun _ => rfl)

noncomputable abbrev Bslices_IndexFunc_Sapi_Cond_api_Cond__farkas_asked_1 : Code := bodyOf Try.f76
theorem call_slices_IndexFunc_Sapi_Cond_api_Cond__farkas_asked_1 : CallOk prog 76 := ⟨_, Try.func76, by kernel_rfl, by kernel_rfl⟩
theorem walk_slices_IndexFunc_Sapi_Cond_api_Cond__farkas_asked_1 (a1 : (List api_Cond)) (Q : Int → Prop) (h : slices_IndexFunc_Sapi_Cond_api_Cond__farkas_asked_1.wp a1 Q) : VCalls prog 76 [.d (.sl t_api_Cond) a1, .fn (.func 52) [] []] [] (fun r o => ∃ x, r = vi x ∧ o = [] ∧ Q x) := by
  refine vcalls_body tab Try.func76 (c := (spine (subC [0] Bslices_IndexFunc_Sapi_Cond_api_Cond__farkas_asked_1) [(spine (subC [1, 0, 0] Bslices_IndexFunc_Sapi_Cond_api_Cond__farkas_asked_1) [(.block 0 (.loop (spine (subC [1, 0, 1, 0, 0, 0] Bslices_IndexFunc_Sapi_Cond_api_Cond__farkas_asked_1) [(spine (.cond (.tmp 9) .skip (.exit 0)) [(spine (.block 1 (spine (subC [1, 0, 1, 0, 0, 1, 1, 0, 0, 0] Bslices_IndexFunc_Sapi_Cond_api_Cond__farkas_asked_1) [(spine (subC [1, 0, 1, 0, 0, 1, 1, 0, 0, 1, 0] Bslices_IndexFunc_Sapi_Cond_api_Cond__farkas_asked_1) [(.cond (.tmp 16) (spine (subC [1, 0, 1, 0, 0, 1, 1, 0, 0, 1, 1, 0, 0] Bslices_IndexFunc_Sapi_Cond_api_Cond__farkas_asked_1) [.ret]) .skip)])])) [(subC [1, 0, 1, 0, 0, 1, 1, 1] Bslices_IndexFunc_Sapi_Cond_api_Cond__farkas_asked_1)])])]))), (spine (subC [1, 1, 0] Bslices_IndexFunc_Sapi_Cond_api_Cond__farkas_asked_1) [.ret])])])) (by kernel_rfl) (Nat.le_of_ble_eq_true (by kernel_rfl)) fun cx hd hi hk => ?_
  show AWp prog cx _ _ ⟨19, [(0, .d (.sl t_api_Cond) a1), (1, .fn (.func 52) [] [])], []⟩
  replace hk : cx.E.len = 0 := hk
  unfold slices_IndexFunc_Sapi_Cond_api_Cond__farkas_asked_1.wp at h
  refine awp_spine ?_
  refine awp_rc tab [0, 1] [] [] [] [] ⟨19, [(0, .d (.sl t_api_Cond) a1), (1, .fn (.func 52) [] [])], []⟩ (by kernel_rfl) (trivial) ?_
  refine then_n (spine_c ?_)
  refine awp_spine ?_
  refine awp_rc tab [0, 1, 7, 8] [] [] [] [] ⟨19, [(0, .d (.sl t_api_Cond) a1), (1, .fn (.func 52) [] []), (7, vi (a1.length : Int)), (8, vi (0 : Int))], []⟩ (by kernel_rfl) (trivial) ?_
  refine then_n (spine_c ?_)
  refine awp_len 0 [] (T := t_api_Cond) (l := a1) (by kernel_rfl) fun hl => ?_
  replace h := h hl
  refine awp_block ?_
  obtain ⟨I4, ⟨n4a, hz4⟩, hI4⟩ := h
  refine awp_loopN (fun n s => ∃ (x2 : Int), I4 n x2 ∧ s = ⟨19, [(0, .d (.sl t_api_Cond) a1), (1, .fn (.func 52) [] []), (7, vi (a1.length : Int)), (8, vi x2)], []⟩) (n := n4a) (s0 := ⟨19, [(0, .d (.sl t_api_Cond) a1), (1, .fn (.func 52) [] []), (7, vi (a1.length : Int)), (8, vi (0 : Int))], []⟩) (wk_ghosts hk (l := [.keep [0, 1, 7, 8], .keep [0, 1, 7, 8], .keep [0, 1, 7, 8], .keep [0, 1, 7, 8]]) (by kernel_rfl)) ⟨0, hz4, rfl⟩ ?_
  rintro n4 s ⟨x2, hx4, rfl⟩
  have h := hI4 n4 x2 hx4
  refine awp_spine ?_
  refine awp_rc tab [0, 1, 7, 8, 9] [] [] [] [] ⟨19, [(0, .d (.sl t_api_Cond) a1), (1, .fn (.func 52) [] []), (7, vi (a1.length : Int)), (8, vi x2), (9, vb (decide (x2 < (a1.length : Int))))], []⟩ (by kernel_rfl) (trivial) ?_
  refine then_n (spine_c ?_)
  refine awp_spine ?_
  refine awp_cond (b := decide (x2 < (a1.length : Int))) (by kernel_rfl) (fun hb => ?_) (fun hb => ?_)
  · replace h := h.1 (of_decide_eq_true hb)
    refine awp_skip (then_n (spine_c ?_))
    refine awp_spine ?_
    refine awp_block ?_
    refine awp_spine ?_
    refine awp_rc tab [0, 1, 5, 7, 8] [] [] [] [] ⟨19, [(0, .d (.sl t_api_Cond) a1), (1, .fn (.func 52) [] []), (5, vi x2), (7, vi (a1.length : Int)), (8, vi x2)], []⟩ (by kernel_rfl) (trivial) ?_
    refine then_n (spine_c ?_)
    refine awp_spine ?_
    obtain ⟨o1, h⟩ := h
    refine awp_rc tab [0, 1, 5, 7, 8, 16] [] [(5, .dat (vb (farkas_asked_1.fn (a1.getD (Int.toNat x2) d_api_Cond))))] [] [(0 : Int) ≤ x2 ∧ x2 < (a1.length : Int), OkC prog 52 [.agg [vi ((a1.getD (Int.toNat x2) d_api_Cond).1), vi ((a1.getD (Int.toNat x2) d_api_Cond).2.1), .d (.sl (.int .i64)) (((a1.getD (Int.toNat x2) d_api_Cond).2.2).1), vi (((a1.getD (Int.toNat x2) d_api_Cond).2.2).2)]] (vb (farkas_asked_1.fn (a1.getD (Int.toNat x2) d_api_Cond)))] ⟨19, [(0, .d (.sl t_api_Cond) a1), (1, .fn (.func 52) [] []), (5, vi x2), (7, vi (a1.length : Int)), (8, vi x2), (16, vb (farkas_asked_1.fn (a1.getD (Int.toNat x2) d_api_Cond)))], []⟩ (by kernel_rfl) (AllP.of (o1) (AllP.of (ok_farkas_asked_1 (a1.getD (Int.toNat x2) d_api_Cond)) trivial)) ?_
    refine then_n (spine_c ?_)
    refine awp_cond (b := farkas_asked_1.fn (a1.getD (Int.toNat x2) d_api_Cond)) (by kernel_rfl) (fun hb => ?_) (fun hb => ?_)
    · replace h := h.1 (hb)
      refine awp_spine ?_
      refine awp_rc tab [4] [] [] [] [] ⟨19, [(4, vi x2)], []⟩ (by kernel_rfl) (trivial) ?_
      refine then_n (spine_c ?_)
      refine awp_ret (then_r (then_r (then_r (blk_r (then_r (then_r (then_r (then_r (blk_r (then_r (then_r (?_))))))))))))
      exact ret_r (m := 0) (r := vi x2) (objs := []) hk [.keep [4]] ⟨19, [(4, vi x2)], []⟩ (by kernel_rfl) (by kernel_rfl) (Nat.le_refl 0) ⟨x2, rfl, rfl, h⟩
    · replace h := h.2 (hb)
      refine awp_skip (then_n (spine_e (then_n (spine_e (blk_n (then_n (spine_c ?_)))))))
      obtain ⟨o2, h⟩ := h
      refine awp_rc tab [0, 1, 7, 8] [] [] [] [-9223372036854775808 ≤ x2 + (1 : Int) ∧ x2 + (1 : Int) ≤ 9223372036854775807] ⟨19, [(0, .d (.sl t_api_Cond) a1), (1, .fn (.func 52) [] []), (7, vi (a1.length : Int)), (8, vi (x2 + (1 : Int)))], []⟩ (by kernel_rfl) (AllP.of (o2) trivial) ?_
      refine then_n (spine_e (then_n (spine_e (then_n (spine_e (then_n (?_)))))))
      obtain ⟨m, hm, h⟩ := h
      exact ⟨m, hm, ⟨19, [(0, .d (.sl t_api_Cond) a1), (1, .fn (.func 52) [] []), (7, vi (a1.length : Int)), (8, vi (x2 + (1 : Int)))], []⟩, wk_ghosts hk (l := [.keep [0, 1, 7, 8], .keep [0, 1, 7, 8], .keep [0, 1, 7, 8]]) (by kernel_rfl), x2 + (1 : Int), h, rfl⟩
  · replace h := h.2 (of_decide_eq_false hb)
    refine awp_exit (then_x (then_x (then_x (blk_h (then_n (spine_c ?_))))))
    refine awp_spine ?_
    refine awp_rc tab [4] [] [] [] [] ⟨19, [(4, vi (-1))], []⟩ (by kernel_rfl) (trivial) ?_
    refine then_n (spine_c ?_)
    refine awp_ret (then_r (then_r (then_r (?_))))
    exact ret_r (m := 0) (r := vi (-1)) (objs := []) hk [.keep [4]] ⟨19, [(4, vi (-1))], []⟩ (by kernel_rfl) (by kernel_rfl) (Nat.le_refl 0) ⟨(-1), rfl, rfl, h⟩
theorem ok_slices_IndexFunc_Sapi_Cond_api_Cond__farkas_asked_1 (a1 : (List api_Cond)) : OkC prog 76 [.d (.sl t_api_Cond) a1, .fn (.func 52) [] []] (vi (slices_IndexFunc_Sapi_Cond_api_Cond__farkas_asked_1.fn a1)) :=
  OkC.of call_slices_IndexFunc_Sapi_Cond_api_Cond__farkas_asked_1 ((walk_slices_IndexFunc_Sapi_Cond_api_Cond__farkas_asked_1 a1 _ (slices_IndexFunc_Sapi_Cond_api_Cond__farkas_asked_1.spec a1)).mono fun r o ⟨x, hr, ho, hx⟩ => ⟨by rw [hr, hx], ho⟩) rfl rfl (fun _ => rfl)

noncomputable abbrev Bslices_ContainsFunc_Sapi_Cond_api_Cond__farkas_asked_1 : Code := bodyOf Try.f51
theorem call_slices_ContainsFunc_Sapi_Cond_api_Cond__farkas_asked_1 : CallOk prog 51 := ⟨_, Try.func51, by kernel_rfl, by kernel_rfl⟩
theorem walk_slices_ContainsFunc_Sapi_Cond_api_Cond__farkas_asked_1 (a1 : (List api_Cond)) (Q : Bool → Prop) (h : slices_ContainsFunc_Sapi_Cond_api_Cond__farkas_asked_1.wp a1 Q) : VCalls prog 51 [.d (.sl t_api_Cond) a1, .fn (.func 52) [] []] [] (fun r o => ∃ x, r = vb x ∧ o = [] ∧ Q x) := by
  refine vcalls_body tab Try.func51 (c := (spine (subC [0] Bslices_ContainsFunc_Sapi_Cond_api_Cond__farkas_asked_1) [(spine (subC [1, 0] Bslices_ContainsFunc_Sapi_Cond_api_Cond__farkas_asked_1) [.ret])])) (by kernel_rfl) (Nat.le_of_ble_eq_true (by kernel_rfl)) fun cx hd hi hk => ?_
  show AWp prog cx _ _ ⟨9, [(0, .d (.sl t_api_Cond) a1), (1, .fn (.func 52) [] [])], []⟩
  replace hk : cx.E.len = 0 := hk
  unfold slices_ContainsFunc_Sapi_Cond_api_Cond__farkas_asked_1.wp at h
  refine awp_spine ?_
  refine awp_rc tab [0, 1] [] [] [] [] ⟨9, [(0, .d (.sl t_api_Cond) a1), (1, .fn (.func 52) [] [])], []⟩ (by kernel_rfl) (trivial) ?_
  refine then_n (spine_c ?_)
  refine awp_spine ?_
  refine awp_rc tab [4] [] [(2, .dat (vi (slices_IndexFunc_Sapi_Cond_api_Cond__farkas_asked_1.fn a1)))] [] [OkC prog 76 [.d (.sl t_api_Cond) a1, .fn (.func 52) [] []] (vi (slices_IndexFunc_Sapi_Cond_api_Cond__farkas_asked_1.fn a1))] ⟨9, [(4, vb (decide ((slices_IndexFunc_Sapi_Cond_api_Cond__farkas_asked_1.fn a1) ≥ (0 : Int))))], []⟩ (by kernel_rfl) (AllP.of (ok_slices_IndexFunc_Sapi_Cond_api_Cond__farkas_asked_1 a1) trivial) ?_
  refine then_n (spine_c ?_)
  refine awp_abs (fun (x1 : Int) => ⟨9, [(4, vb (decide (x1 ≥ (0 : Int))))], []⟩) (slices_IndexFunc_Sapi_Cond_api_Cond__farkas_asked_1.fn a1) ?_
  intro x1 hx1
  replace h := h x1 hx1
  refine awp_ret (then_r (then_r (?_)))
  exact ret_r (m := 0) (r := vb (decide (x1 ≥ (0 : Int)))) (objs := []) hk [.keep [4]] ⟨9, [(4, vb (decide (x1 ≥ (0 : Int))))], []⟩ (by kernel_rfl) (by kernel_rfl) (Nat.le_refl 0) ⟨decide (x1 ≥ (0 : Int)), rfl, rfl, h⟩
theorem ok_slices_ContainsFunc_Sapi_Cond_api_Cond__farkas_asked_1 (a1 : (List api_Cond)) : OkC prog 51 [.d (.sl t_api_Cond) a1, .fn (.func 52) [] []] (vb (slices_ContainsFunc_Sapi_Cond_api_Cond__farkas_asked_1.fn a1)) :=
  OkC.of call_slices_ContainsFunc_Sapi_Cond_api_Cond__farkas_asked_1 ((walk_slices_ContainsFunc_Sapi_Cond_api_Cond__farkas_asked_1 a1 _ (slices_ContainsFunc_Sapi_Cond_api_Cond__farkas_asked_1.spec a1)).mono fun r o ⟨x, hr, ho, hx⟩ => ⟨by rw [hr, hx], ho⟩) rfl rfl (fun _ => rfl)

noncomputable abbrev Bfarkas_asked_2 : Code := bodyOf Try.f54
theorem call_farkas_asked_2 : CallOk prog 54 := ⟨_, Try.func54, by kernel_rfl, by kernel_rfl⟩
theorem walk_farkas_asked_2 (a1 : api_Cond) (a2 : Int) (Q : Bool → Prop) (h : farkas_asked_2.wp a1 a2 Q) : VCalls prog 54 [.agg [vi a1.1, vi a1.2.1, .d (.sl (.int .i64)) a1.2.2.1, vi a1.2.2.2], .er [vi a2]] [] (fun r o => ∃ x, r = vb x ∧ o = [] ∧ Q x) := by
  refine vcalls_body tab Try.func54 (c := (spine (subC [0] Bfarkas_asked_2) [(spine (subC [1, 0] Bfarkas_asked_2) [.ret])])) (by kernel_rfl) (Nat.le_of_ble_eq_true (by kernel_rfl)) fun cx hd hi hk => ?_
  show AWp prog cx _ _ ⟨10, [(0, .agg [vi a1.1, vi a1.2.1, .d (.sl (.int .i64)) a1.2.2.1, vi a1.2.2.2]), (1, .er [vi a2])], []⟩
  replace hk : cx.E.len = 0 := hk
  unfold farkas_asked_2.wp at h
  refine awp_spine ?_
  refine awp_rc tab [1, 2] [] [] [0] [] ⟨10, [(1, .er [vi a2]), (2, .er [vi a1.1, vi a1.2.1, .d (.sl (.int .i64)) a1.2.2.1, vi a1.2.2.2])], []⟩ (by kernel_rfl) (trivial) ?_
  refine then_n (spine_c ?_)
  refine awp_spine ?_
  refine awp_rc tab [3] [] [] [] [] ⟨10, [(3, vb ((a1.2.2.1.length : Int) != a2))], []⟩ (by kernel_rfl) (trivial) ?_
  refine then_n (spine_c ?_)
  refine awp_ret (then_r (then_r (?_)))
  exact ret_r (m := 0) (r := vb ((a1.2.2.1.length : Int) != a2)) (objs := []) hk [.keep [3]] ⟨10, [(3, vb ((a1.2.2.1.length : Int) != a2))], []⟩ (by kernel_rfl) (by kernel_rfl) (Nat.le_refl 0) ⟨(a1.2.2.1.length : Int) != a2, rfl, rfl, h⟩
theorem ok_farkas_asked_2 (a1 : api_Cond) (a2 : Int) : OkC prog 54 [.agg [vi a1.1, vi a1.2.1, .d (.sl (.int .i64)) a1.2.2.1, vi a1.2.2.2], .er [vi a2]] (vb (farkas_asked_2.fn a1 a2)) :=
  OkC.of call_farkas_asked_2 ((walk_farkas_asked_2 a1 a2 _ (farkas_asked_2.spec a1 a2)).mono fun r o ⟨x, hr, ho, hx⟩ => ⟨by rw [hr, hx], ho⟩) rfl rfl (fun _ => rfl)

noncomputable abbrev Bslices_IndexFunc_Sapi_Cond_api_Cond__farkas_asked_2 : Code := bodyOf Try.f76
theorem call_slices_IndexFunc_Sapi_Cond_api_Cond__farkas_asked_2 : CallOk prog 76 := ⟨_, Try.func76, by kernel_rfl, by kernel_rfl⟩
theorem walk_slices_IndexFunc_Sapi_Cond_api_Cond__farkas_asked_2 (a1 : (List api_Cond)) (a2 : Int) (Q : Int → Prop) (h : slices_IndexFunc_Sapi_Cond_api_Cond__farkas_asked_2.wp a1 a2 Q) : VCalls prog 76 [.d (.sl t_api_Cond) a1, .fn (.func 54) [] [.er [vi a2]]] [] (fun r o => ∃ x, r = vi x ∧ o = [] ∧ Q x) := by
  refine vcalls_body tab Try.func76 (c := (spine (subC [0] Bslices_IndexFunc_Sapi_Cond_api_Cond__farkas_asked_2) [(spine (subC [1, 0, 0] Bslices_IndexFunc_Sapi_Cond_api_Cond__farkas_asked_2) [(.block 0 (.loop (spine (subC [1, 0, 1, 0, 0, 0] Bslices_IndexFunc_Sapi_Cond_api_Cond__farkas_asked_2) [(spine (.cond (.tmp 9) .skip (.exit 0)) [(spine (.block 1 (spine (subC [1, 0, 1, 0, 0, 1, 1, 0, 0, 0] Bslices_IndexFunc_Sapi_Cond_api_Cond__farkas_asked_2) [(spine (subC [1, 0, 1, 0, 0, 1, 1, 0, 0, 1, 0] Bslices_IndexFunc_Sapi_Cond_api_Cond__farkas_asked_2) [(.cond (.tmp 16) (spine (subC [1, 0, 1, 0, 0, 1, 1, 0, 0, 1, 1, 0, 0] Bslices_IndexFunc_Sapi_Cond_api_Cond__farkas_asked_2) [.ret]) .skip)])])) [(subC [1, 0, 1, 0, 0, 1, 1, 1] Bslices_IndexFunc_Sapi_Cond_api_Cond__farkas_asked_2)])])]))), (spine (subC [1, 1, 0] Bslices_IndexFunc_Sapi_Cond_api_Cond__farkas_asked_2) [.ret])])])) (by kernel_rfl) (Nat.le_of_ble_eq_true (by kernel_rfl)) fun cx hd hi hk => ?_
  show AWp prog cx _ _ ⟨19, [(0, .d (.sl t_api_Cond) a1), (1, .fn (.func 54) [] [.er [vi a2]])], []⟩
  replace hk : cx.E.len = 0 := hk
  unfold slices_IndexFunc_Sapi_Cond_api_Cond__farkas_asked_2.wp at h
  refine awp_spine ?_
  refine awp_rc tab [0, 1] [] [] [] [] ⟨19, [(0, .d (.sl t_api_Cond) a1), (1, .fn (.func 54) [] [.er [vi a2]])], []⟩ (by kernel_rfl) (trivial) ?_
  refine then_n (spine_c ?_)
  refine awp_spine ?_
  refine awp_rc tab [0, 1, 7, 8] [] [] [] [] ⟨19, [(0, .d (.sl t_api_Cond) a1), (1, .fn (.func 54) [] [.er [vi a2]]), (7, vi (a1.length : Int)), (8, vi (0 : Int))], []⟩ (by kernel_rfl) (trivial) ?_
  refine then_n (spine_c ?_)
  refine awp_len 0 [] (T := t_api_Cond) (l := a1) (by kernel_rfl) fun hl => ?_
  replace h := h hl
  refine awp_block ?_
  obtain ⟨I4, ⟨n4a, hz4⟩, hI4⟩ := h
  refine awp_loopN (fun n s => ∃ (x2 : Int), I4 n x2 ∧ s = ⟨19, [(0, .d (.sl t_api_Cond) a1), (1, .fn (.func 54) [] [.er [vi a2]]), (7, vi (a1.length : Int)), (8, vi x2)], []⟩) (n := n4a) (s0 := ⟨19, [(0, .d (.sl t_api_Cond) a1), (1, .fn (.func 54) [] [.er [vi a2]]), (7, vi (a1.length : Int)), (8, vi (0 : Int))], []⟩) (wk_ghosts hk (l := [.keep [0, 1, 7, 8], .keep [0, 1, 7, 8], .keep [0, 1, 7, 8], .keep [0, 1, 7, 8]]) (by kernel_rfl)) ⟨0, hz4, rfl⟩ ?_
  rintro n4 s ⟨x2, hx4, rfl⟩
  have h := hI4 n4 x2 hx4
  refine awp_spine ?_
  refine awp_rc tab [0, 1, 7, 8, 9] [] [] [] [] ⟨19, [(0, .d (.sl t_api_Cond) a1), (1, .fn (.func 54) [] [.er [vi a2]]), (7, vi (a1.length : Int)), (8, vi x2), (9, vb (decide (x2 < (a1.length : Int))))], []⟩ (by kernel_rfl) (trivial) ?_
  refine then_n (spine_c ?_)
  refine awp_spine ?_
  refine awp_cond (b := decide (x2 < (a1.length : Int))) (by kernel_rfl) (fun hb => ?_) (fun hb => ?_)
  · replace h := h.1 (of_decide_eq_true hb)
    refine awp_skip (then_n (spine_c ?_))
    refine awp_spine ?_
    refine awp_block ?_
    refine awp_spine ?_
    refine awp_rc tab [0, 1, 5, 7, 8] [] [] [] [] ⟨19, [(0, .d (.sl t_api_Cond) a1), (1, .fn (.func 54) [] [.er [vi a2]]), (5, vi x2), (7, vi (a1.length : Int)), (8, vi x2)], []⟩ (by kernel_rfl) (trivial) ?_
    refine then_n (spine_c ?_)
    refine awp_spine ?_
    obtain ⟨o1, h⟩ := h
    refine awp_rc tab [0, 1, 5, 7, 8, 16] [] [(5, .dat (vb (farkas_asked_2.fn (a1.getD (Int.toNat x2) d_api_Cond) a2)))] [] [(0 : Int) ≤ x2 ∧ x2 < (a1.length : Int), OkC prog 54 [.agg [vi ((a1.getD (Int.toNat x2) d_api_Cond).1), vi ((a1.getD (Int.toNat x2) d_api_Cond).2.1), .d (.sl (.int .i64)) (((a1.getD (Int.toNat x2) d_api_Cond).2.2).1), vi (((a1.getD (Int.toNat x2) d_api_Cond).2.2).2)], .er [vi a2]] (vb (farkas_asked_2.fn (a1.getD (Int.toNat x2) d_api_Cond) a2))] ⟨19, [(0, .d (.sl t_api_Cond) a1), (1, .fn (.func 54) [] [.er [vi a2]]), (5, vi x2), (7, vi (a1.length : Int)), (8, vi x2), (16, vb (farkas_asked_2.fn (a1.getD (Int.toNat x2) d_api_Cond) a2))], []⟩ (by kernel_rfl) (AllP.of (o1) (AllP.of (ok_farkas_asked_2 (a1.getD (Int.toNat x2) d_api_Cond) a2) trivial)) ?_
    refine then_n (spine_c ?_)
    refine awp_cond (b := farkas_asked_2.fn (a1.getD (Int.toNat x2) d_api_Cond) a2) (by kernel_rfl) (fun hb => ?_) (fun hb => ?_)
    · replace h := h.1 (hb)
      refine awp_spine ?_
      refine awp_rc tab [4] [] [] [] [] ⟨19, [(4, vi x2)], []⟩ (by kernel_rfl) (trivial) ?_
      refine then_n (spine_c ?_)
      refine awp_ret (then_r (then_r (then_r (blk_r (then_r (then_r (then_r (then_r (blk_r (then_r (then_r (?_))))))))))))
      exact ret_r (m := 0) (r := vi x2) (objs := []) hk [.keep [4]] ⟨19, [(4, vi x2)], []⟩ (by kernel_rfl) (by kernel_rfl) (Nat.le_refl 0) ⟨x2, rfl, rfl, h⟩
    · replace h := h.2 (hb)
      refine awp_skip (then_n (spine_e (then_n (spine_e (blk_n (then_n (spine_c ?_)))))))
      obtain ⟨o2, h⟩ := h
      refine awp_rc tab [0, 1, 7, 8] [] [] [] [-9223372036854775808 ≤ x2 + (1 : Int) ∧ x2 + (1 : Int) ≤ 9223372036854775807] ⟨19, [(0, .d (.sl t_api_Cond) a1), (1, .fn (.func 54) [] [.er [vi a2]]), (7, vi (a1.length : Int)), (8, vi (x2 + (1 : Int)))], []⟩ (by kernel_rfl) (AllP.of (o2) trivial) ?_
      refine then_n (spine_e (then_n (spine_e (then_n (spine_e (then_n (?_)))))))
      obtain ⟨m, hm, h⟩ := h
      exact ⟨m, hm, ⟨19, [(0, .d (.sl t_api_Cond) a1), (1, .fn (.func 54) [] [.er [vi a2]]), (7, vi (a1.length : Int)), (8, vi (x2 + (1 : Int)))], []⟩, wk_ghosts hk (l := [.keep [0, 1, 7, 8], .keep [0, 1, 7, 8], .keep [0, 1, 7, 8]]) (by kernel_rfl), x2 + (1 : Int), h, rfl⟩
  · replace h := h.2 (of_decide_eq_false hb)
    refine awp_exit (then_x (then_x (then_x (blk_h (then_n (spine_c ?_))))))
    refine awp_spine ?_
    refine awp_rc tab [4] [] [] [] [] ⟨19, [(4, vi (-1))], []⟩ (by kernel_rfl) (trivial) ?_
    refine then_n (spine_c ?_)
    refine awp_ret (then_r (then_r (then_r (?_))))
    exact ret_r (m := 0) (r := vi (-1)) (objs := []) hk [.keep [4]] ⟨19, [(4, vi (-1))], []⟩ (by kernel_rfl) (by kernel_rfl) (Nat.le_refl 0) ⟨(-1), rfl, rfl, h⟩
theorem ok_slices_IndexFunc_Sapi_Cond_api_Cond__farkas_asked_2 (a1 : (List api_Cond)) (a2 : Int) : OkC prog 76 [.d (.sl t_api_Cond) a1, .fn (.func 54) [] [.er [vi a2]]] (vi (slices_IndexFunc_Sapi_Cond_api_Cond__farkas_asked_2.fn a1 a2)) :=
  OkC.of call_slices_IndexFunc_Sapi_Cond_api_Cond__farkas_asked_2 ((walk_slices_IndexFunc_Sapi_Cond_api_Cond__farkas_asked_2 a1 a2 _ (slices_IndexFunc_Sapi_Cond_api_Cond__farkas_asked_2.spec a1 a2)).mono fun r o ⟨x, hr, ho, hx⟩ => ⟨by rw [hr, hx], ho⟩) rfl rfl (fun _ => rfl)

end Go.Proofs.Ytlncingakpelbaa
