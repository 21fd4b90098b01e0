/- Part of a proof that a law of the program holds for every input: printed by a program of this work. No conditions. -/
import Derived.Test.YtlncingakpelbaaK6
namespace Go.Proofs.Ytlncingakpelbaa
open Go
set_option linter.unusedVariables false
set_option maxHeartbeats 4000000

noncomputable abbrev Bref01_Fits : Code := bodyOf Try.f70
theorem call_ref01_Fits : CallOk prog 70 := ⟨_, Try.func70, by kernel_rfl, by kernel_rfl⟩
theorem walk_ref01_Fits (a1 : Int) (Q : Bool → Prop) (h : ref01_Fits.wp a1 Q) : VCalls prog 70 [vi a1] [] (fun r o => ∃ x, r = vb x ∧ o = [] ∧ Q x) := by
  refine vcalls_body tab Try.func70 (c := (spine (subC [0] Bref01_Fits) [(spine (subC [1, 0] Bref01_Fits) [.ret])])) (by kernel_rfl) (Nat.le_of_ble_eq_true (by kernel_rfl)) fun cx hd hi hk => ?_
  show AWp prog cx _ _ ⟨9, [(0, vi a1)], []⟩
  replace hk : cx.E.len = 0 := hk
  unfold ref01_Fits.wp at h
  refine awp_spine ?_
  refine awp_rc tab [0] [] [] [] [] ⟨9, [(0, vi a1)], []⟩ (by kernel_rfl) (trivial) ?_
  refine then_n (spine_c ?_)
  refine awp_spine ?_
  refine awp_rc tab [2] [] [] [] [(decide (a1 ≥ (-1048576))) = true → (decide (a1 ≥ (-1048576))) = true ∧ True, (decide (a1 ≥ (-1048576))) = true → (decide (a1 ≥ (-1048576))) = true] ⟨9, [(2, vb ((decide (a1 ≥ (-1048576))) && (decide (a1 ≤ (1048576 : Int)))))], []⟩ (by kernel_rfl) (AllP.of (fun hg => ⟨hg, trivial⟩) (AllP.of (fun hc => hc) trivial)) ?_
  refine then_n (spine_c ?_)
  refine awp_ret (then_r (then_r (?_)))
  exact ret_r (m := 0) (r := vb ((decide (a1 ≥ (-1048576))) && (decide (a1 ≤ (1048576 : Int))))) (objs := []) hk [.keep [2]] ⟨9, [(2, vb ((decide (a1 ≥ (-1048576))) && (decide (a1 ≤ (1048576 : Int)))))], []⟩ (by kernel_rfl) (by kernel_rfl) (Nat.le_refl 0) ⟨(decide (a1 ≥ (-1048576))) && (decide (a1 ≤ (1048576 : Int))), rfl, rfl, h⟩
theorem ok_ref01_Fits (a1 : Int) : OkC prog 70 [vi a1] (vb (ref01_Fits.fn a1)) :=
  OkC.of call_ref01_Fits ((walk_ref01_Fits a1 _ (ref01_Fits.spec a1)).mono fun r o ⟨x, hr, ho, hx⟩ => ⟨by rw [hr, hx], ho⟩) rfl rfl (fun _ => rfl)

noncomputable abbrev Bref02_Valid : Code := bodyOf Try.f41
theorem call_ref02_Valid : CallOk prog 41 := ⟨_, Try.func41, by kernel_rfl, by kernel_rfl⟩
theorem walk_ref02_Valid (a1 : api_Lin) (Q : Bool → Prop) (h : ref02_Valid.wp a1 Q) : VCalls prog 41 [.agg [.d (.sl (.int .i64)) a1.1, vi a1.2]] [] (fun r o => ∃ x, r = vb x ∧ o = [] ∧ Q x) := by
  refine vcalls_body tab Try.func41 (c := (spine (subC [0] Bref02_Valid) [(spine (subC [1, 0, 0] Bref02_Valid) [(.block 0 (.loop (spine (subC [1, 0, 1, 0, 0, 0] Bref02_Valid) [(spine (.cond (.tmp 9) .skip (.exit 0)) [(spine (.block 1 (spine (subC [1, 0, 1, 0, 0, 1, 1, 0, 0, 0] Bref02_Valid) [(spine (subC [1, 0, 1, 0, 0, 1, 1, 0, 0, 1, 0] Bref02_Valid) [(.cond (.tmp 14) (spine (subC [1, 0, 1, 0, 0, 1, 1, 0, 0, 1, 1, 0, 0] Bref02_Valid) [.ret]) .skip)])])) [(subC [1, 0, 1, 0, 0, 1, 1, 1] Bref02_Valid)])])]))), (spine (subC [1, 1, 0] Bref02_Valid) [.ret])])])) (by kernel_rfl) (Nat.le_of_ble_eq_true (by kernel_rfl)) fun cx hd hi hk => ?_
  show AWp prog cx _ _ ⟨25, [(0, .agg [.d (.sl (.int .i64)) a1.1, vi a1.2])], []⟩
  replace hk : cx.E.len = 0 := hk
  unfold ref02_Valid.wp at h
  refine awp_spine ?_
  refine awp_rc tab [1] [] [] [0] [] ⟨25, [(1, .er [.d (.sl (.int .i64)) a1.1, vi a1.2])], []⟩ (by kernel_rfl) (trivial) ?_
  refine then_n (spine_c ?_)
  refine awp_spine ?_
  refine awp_rc tab [1, 6, 7, 8] [] [] [] [] ⟨25, [(1, .er [.d (.sl (.int .i64)) a1.1, vi a1.2]), (6, .d (.sl (.int .i64)) a1.1), (7, vi (a1.1.length : Int)), (8, vi (0 : Int))], []⟩ (by kernel_rfl) (trivial) ?_
  refine then_n (spine_c ?_)
  refine awp_len 1 [0] (T := (.int .i64)) (l := a1.1) (by kernel_rfl) fun hl => ?_
  replace h := h hl
  refine awp_block ?_
  obtain ⟨I4, ⟨n4a, hz4⟩, hI4⟩ := h
  refine awp_loopN (fun n s => ∃ (x2 : Int), I4 n x2 ∧ s = ⟨25, [(1, .er [.d (.sl (.int .i64)) a1.1, vi a1.2]), (6, .d (.sl (.int .i64)) a1.1), (7, vi (a1.1.length : Int)), (8, vi x2)], []⟩) (n := n4a) (s0 := ⟨25, [(1, .er [.d (.sl (.int .i64)) a1.1, vi a1.2]), (6, .d (.sl (.int .i64)) a1.1), (7, vi (a1.1.length : Int)), (8, vi (0 : Int))], []⟩) (wk_ghosts hk (l := [.keep [1, 6, 7, 8], .keep [1, 6, 7, 8], .keep [1, 6, 7, 8], .keep [1, 6, 7, 8]]) (by kernel_rfl)) ⟨0, hz4, rfl⟩ ?_
  rintro n4 s ⟨x2, hx4, rfl⟩
  have h := hI4 n4 x2 hx4
  refine awp_spine ?_
  refine awp_rc tab [1, 6, 7, 8, 9] [] [] [] [] ⟨25, [(1, .er [.d (.sl (.int .i64)) a1.1, vi a1.2]), (6, .d (.sl (.int .i64)) a1.1), (7, vi (a1.1.length : Int)), (8, vi x2), (9, vb (decide (x2 < (a1.1.length : Int))))], []⟩ (by kernel_rfl) (trivial) ?_
  refine then_n (spine_c ?_)
  refine awp_spine ?_
  refine awp_cond (b := decide (x2 < (a1.1.length : Int))) (by kernel_rfl) (fun hb => ?_) (fun hb => ?_)
  · replace h := h.1 (of_decide_eq_true hb)
    refine awp_skip (then_n (spine_c ?_))
    refine awp_spine ?_
    refine awp_block ?_
    refine awp_spine ?_
    obtain ⟨o1, h⟩ := h
    refine awp_rc tab [1, 4, 6, 7, 8] [] [] [] [(0 : Int) ≤ x2 ∧ x2 < (a1.1.length : Int)] ⟨25, [(1, .er [.d (.sl (.int .i64)) a1.1, vi a1.2]), (4, vi (gI a1.1 x2)), (6, .d (.sl (.int .i64)) a1.1), (7, vi (a1.1.length : Int)), (8, vi x2)], []⟩ (by kernel_rfl) (AllP.of (o1) trivial) ?_
    refine then_n (spine_c ?_)
    refine awp_spine ?_
    refine awp_rc tab [1, 6, 7, 8, 14] [] [(1, .dat (vb (ref01_Fits.fn (gI a1.1 x2))))] [] [OkC prog 70 [vi (gI a1.1 x2)] (vb (ref01_Fits.fn (gI a1.1 x2)))] ⟨25, [(1, .er [.d (.sl (.int .i64)) a1.1, vi a1.2]), (6, .d (.sl (.int .i64)) a1.1), (7, vi (a1.1.length : Int)), (8, vi x2), (14, vb (!(ref01_Fits.fn (gI a1.1 x2))))], []⟩ (by kernel_rfl) (AllP.of (ok_ref01_Fits (gI a1.1 x2)) trivial) ?_
    refine then_n (spine_c ?_)
    refine awp_cond (b := !(ref01_Fits.fn (gI a1.1 x2))) (by kernel_rfl) (fun hb => ?_) (fun hb => ?_)
    · replace h := h.1 ((nt hb))
      refine awp_spine ?_
      refine awp_rc tab [2] [] [] [] [] ⟨25, [(2, vb false)], []⟩ (by kernel_rfl) (trivial) ?_
      refine then_n (spine_c ?_)
      refine awp_ret (then_r (then_r (then_r (blk_r (then_r (then_r (then_r (then_r (blk_r (then_r (then_r (?_))))))))))))
      exact ret_r (m := 0) (r := vb false) (objs := []) hk [.keep [2]] ⟨25, [(2, vb false)], []⟩ (by kernel_rfl) (by kernel_rfl) (Nat.le_refl 0) ⟨false, rfl, rfl, h⟩
    · replace h := h.2 ((nf hb))
      refine awp_skip (then_n (spine_e (then_n (spine_e (blk_n (then_n (spine_c ?_)))))))
      obtain ⟨o2, h⟩ := h
      refine awp_rc tab [1, 6, 7, 8] [] [] [] [-9223372036854775808 ≤ x2 + (1 : Int) ∧ x2 + (1 : Int) ≤ 9223372036854775807] ⟨25, [(1, .er [.d (.sl (.int .i64)) a1.1, vi a1.2]), (6, .d (.sl (.int .i64)) a1.1), (7, vi (a1.1.length : Int)), (8, vi (x2 + (1 : Int)))], []⟩ (by kernel_rfl) (AllP.of (o2) trivial) ?_
      refine then_n (spine_e (then_n (spine_e (then_n (spine_e (then_n (?_)))))))
      obtain ⟨m, hm, h⟩ := h
      exact ⟨m, hm, ⟨25, [(1, .er [.d (.sl (.int .i64)) a1.1, vi a1.2]), (6, .d (.sl (.int .i64)) a1.1), (7, vi (a1.1.length : Int)), (8, vi (x2 + (1 : Int)))], []⟩, wk_ghosts hk (l := [.keep [1, 6, 7, 8], .keep [1, 6, 7, 8], .keep [1, 6, 7, 8]]) (by kernel_rfl), x2 + (1 : Int), h, rfl⟩
  · replace h := h.2 (of_decide_eq_false hb)
    refine awp_exit (then_x (then_x (then_x (blk_h (then_n (spine_c ?_))))))
    refine awp_spine ?_
    refine awp_rc tab [2] [] [(7, .dat (vb (ref01_Fits.fn a1.2)))] [] [(decide ((a1.1.length : Int) ≤ (12 : Int))) = true → (decide ((a1.1.length : Int) ≤ (12 : Int))) = true ∧ True, (decide ((a1.1.length : Int) ≤ (12 : Int))) = true → (decide ((a1.1.length : Int) ≤ (12 : Int))) = true ∧ (OkC prog 70 [vi a1.2] (vb (ref01_Fits.fn a1.2))), (decide ((a1.1.length : Int) ≤ (12 : Int))) = true → (decide ((a1.1.length : Int) ≤ (12 : Int))) = true] ⟨25, [(2, vb ((decide ((a1.1.length : Int) ≤ (12 : Int))) && (ref01_Fits.fn a1.2)))], []⟩ (by kernel_rfl) (AllP.of (fun hg => ⟨hg, trivial⟩) (AllP.of (fun hg => ⟨hg, ok_ref01_Fits a1.2⟩) (AllP.of (fun hc => hc) trivial))) ?_
    refine then_n (spine_c ?_)
    refine awp_ret (then_r (then_r (then_r (?_))))
    exact ret_r (m := 0) (r := vb ((decide ((a1.1.length : Int) ≤ (12 : Int))) && (ref01_Fits.fn a1.2))) (objs := []) hk [.keep [2]] ⟨25, [(2, vb ((decide ((a1.1.length : Int) ≤ (12 : Int))) && (ref01_Fits.fn a1.2)))], []⟩ (by kernel_rfl) (by kernel_rfl) (Nat.le_refl 0) ⟨(decide ((a1.1.length : Int) ≤ (12 : Int))) && (ref01_Fits.fn a1.2), rfl, rfl, h⟩
theorem ok_ref02_Valid (a1 : api_Lin) : OkC prog 41 [.agg [.d (.sl (.int .i64)) a1.1, vi a1.2]] (vb (ref02_Valid.fn a1)) :=
  OkC.of call_ref02_Valid ((walk_ref02_Valid a1 _ (ref02_Valid.spec a1)).mono fun r o ⟨x, hr, ho, hx⟩ => ⟨by rw [hr, hx], ho⟩) rfl rfl (fun _ => rfl)

noncomputable abbrev Bref03_Valid : Code := bodyOf Try.f16
theorem call_ref03_Valid : CallOk prog 16 := ⟨_, Try.func16, by kernel_rfl, by kernel_rfl⟩
theorem walk_ref03_Valid (a1 : api_Cond) (Q : Bool → Prop) (h : ref03_Valid.wp a1 Q) : VCalls prog 16 [.agg [vi a1.1, vi a1.2.1, .d (.sl (.int .i64)) a1.2.2.1, vi a1.2.2.2]] [] (fun r o => ∃ x, r = vb x ∧ o = [] ∧ Q x) := by
  refine vcalls_body tab Try.func16 (c := (spine (subC [0] Bref03_Valid) [(spine (subC [1, 0, 0] Bref03_Valid) [(.cond (.tmp 6) (spine (subC [1, 0, 1, 0, 0] Bref03_Valid) [.ret]) .skip), (spine (subC [1, 1, 0, 0] Bref03_Valid) [(.cond (.tmp 9) (spine (subC [1, 1, 0, 1, 0, 0] Bref03_Valid) [.ret]) .skip), (spine (subC [1, 1, 1, 0] Bref03_Valid) [.ret])])])])) (by kernel_rfl) (Nat.le_of_ble_eq_true (by kernel_rfl)) fun cx hd hi hk => ?_
  show AWp prog cx _ _ ⟨31, [(0, .agg [vi a1.1, vi a1.2.1, .d (.sl (.int .i64)) a1.2.2.1, vi a1.2.2.2])], []⟩
  replace hk : cx.E.len = 0 := hk
  unfold ref03_Valid.wp at h
  refine awp_spine ?_
  refine awp_rc tab [1] [] [] [0] [] ⟨31, [(1, .er [vi a1.1, vi a1.2.1, .d (.sl (.int .i64)) a1.2.2.1, vi a1.2.2.2])], []⟩ (by kernel_rfl) (trivial) ?_
  refine then_n (spine_c ?_)
  refine awp_spine ?_
  refine awp_rc tab [1, 6] [] [(2, .dat (vb (ref02_Valid.fn a1.2.2)))] [] [OkC prog 41 [.agg [.d (.sl (.int .i64)) a1.2.2.1, vi a1.2.2.2]] (vb (ref02_Valid.fn a1.2.2))] ⟨31, [(1, .er [vi a1.1, vi a1.2.1, .d (.sl (.int .i64)) a1.2.2.1, vi a1.2.2.2]), (6, vb (!(ref02_Valid.fn a1.2.2)))], []⟩ (by kernel_rfl) (AllP.of (ok_ref02_Valid a1.2.2) trivial) ?_
  refine then_n (spine_c ?_)
  refine awp_cond (b := !(ref02_Valid.fn a1.2.2)) (by kernel_rfl) (fun hb => ?_) (fun hb => ?_)
  · replace h := h.1 ((nt hb))
    refine awp_spine ?_
    refine awp_rc tab [2] [] [] [] [] ⟨31, [(2, vb false)], []⟩ (by kernel_rfl) (trivial) ?_
    refine then_n (spine_c ?_)
    refine awp_ret (then_r (then_r (then_r (?_))))
    exact ret_r (m := 0) (r := vb false) (objs := []) hk [.keep [2]] ⟨31, [(2, vb false)], []⟩ (by kernel_rfl) (by kernel_rfl) (Nat.le_refl 0) ⟨false, rfl, rfl, h⟩
  · replace h := h.2 ((nf hb))
    refine awp_skip (then_n (spine_c ?_))
    refine awp_spine ?_
    refine awp_rc tab [1, 9] [] [] [] [] ⟨31, [(1, .er [vi a1.1, vi a1.2.1, .d (.sl (.int .i64)) a1.2.2.1, vi a1.2.2.2]), (9, vb (a1.1 == (2 : Int)))], []⟩ (by kernel_rfl) (trivial) ?_
    refine then_n (spine_c ?_)
    refine awp_cond (b := a1.1 == (2 : Int)) (by kernel_rfl) (fun hb => ?_) (fun hb => ?_)
    · replace h := h.1 (eq_of_beq hb)
      refine awp_spine ?_
      refine awp_rc tab [2] [] [] [] [(decide (a1.2.1 ≥ (1 : Int))) = true → (decide (a1.2.1 ≥ (1 : Int))) = true ∧ True, (decide (a1.2.1 ≥ (1 : Int))) = true → (decide (a1.2.1 ≥ (1 : Int))) = true ∧ True, (decide (a1.2.1 ≥ (1 : Int))) = true → (decide (a1.2.1 ≥ (1 : Int))) = true] ⟨31, [(2, vb ((decide (a1.2.1 ≥ (1 : Int))) && (decide (a1.2.1 ≤ (512 : Int)))))], []⟩ (by kernel_rfl) (AllP.of (fun hg => ⟨hg, trivial⟩) (AllP.of (fun hg => ⟨hg, trivial⟩) (AllP.of (fun hc => hc) trivial))) ?_
      refine then_n (spine_c ?_)
      refine awp_ret (then_r (then_r (then_r (then_r (?_)))))
      exact ret_r (m := 0) (r := vb ((decide (a1.2.1 ≥ (1 : Int))) && (decide (a1.2.1 ≤ (512 : Int))))) (objs := []) hk [.keep [2]] ⟨31, [(2, vb ((decide (a1.2.1 ≥ (1 : Int))) && (decide (a1.2.1 ≤ (512 : Int)))))], []⟩ (by kernel_rfl) (by kernel_rfl) (Nat.le_refl 0) ⟨(decide (a1.2.1 ≥ (1 : Int))) && (decide (a1.2.1 ≤ (512 : Int))), rfl, rfl, h⟩
    · replace h := h.2 (ne_of_beq_false hb)
      refine awp_skip (then_n (spine_c ?_))
      refine awp_spine ?_
      refine awp_rc tab [2] [] [] [] [(!(a1.1 == (0 : Int))) = true → (!(a1.1 == (0 : Int))) = true ∧ True, (!(a1.1 == (0 : Int))) = true → (!(a1.1 == (0 : Int))) = true ∧ True, (a1.1 == (0 : Int)) = false → (!(a1.1 == (0 : Int))) = true, ((a1.1 == (0 : Int)) || (a1.1 == (1 : Int))) = true → ((a1.1 == (0 : Int)) || (a1.1 == (1 : Int))) = true ∧ True, ((a1.1 == (0 : Int)) || (a1.1 == (1 : Int))) = true → ((a1.1 == (0 : Int)) || (a1.1 == (1 : Int))) = true ∧ True, ((a1.1 == (0 : Int)) || (a1.1 == (1 : Int))) = true → ((a1.1 == (0 : Int)) || (a1.1 == (1 : Int))) = true] ⟨31, [(2, vb (((a1.1 == (0 : Int)) || (a1.1 == (1 : Int))) && (a1.2.1 == (0 : Int))))], []⟩ (by kernel_rfl) (AllP.of (fun hg => ⟨hg, trivial⟩) (AllP.of (fun hg => ⟨hg, trivial⟩) (AllP.of (fun hc => not_f hc) (AllP.of (fun hg => ⟨hg, trivial⟩) (AllP.of (fun hg => ⟨hg, trivial⟩) (AllP.of (fun hc => hc) trivial)))))) ?_
      refine then_n (spine_c ?_)
      refine awp_ret (then_r (then_r (then_r (then_r (?_)))))
      exact ret_r (m := 0) (r := vb (((a1.1 == (0 : Int)) || (a1.1 == (1 : Int))) && (a1.2.1 == (0 : Int)))) (objs := []) hk [.keep [2]] ⟨31, [(2, vb (((a1.1 == (0 : Int)) || (a1.1 == (1 : Int))) && (a1.2.1 == (0 : Int))))], []⟩ (by kernel_rfl) (by kernel_rfl) (Nat.le_refl 0) ⟨((a1.1 == (0 : Int)) || (a1.1 == (1 : Int))) && (a1.2.1 == (0 : Int)), rfl, rfl, h⟩
theorem ok_ref03_Valid (a1 : api_Cond) : OkC prog 16 [.agg [vi a1.1, vi a1.2.1, .d (.sl (.int .i64)) a1.2.2.1, vi a1.2.2.2]] (vb (ref03_Valid.fn a1)) :=
  OkC.of call_ref03_Valid ((walk_ref03_Valid a1 _ (ref03_Valid.spec a1)).mono fun r o ⟨x, hr, ho, hx⟩ => ⟨by rw [hr, hx], ho⟩) rfl rfl (fun _ => rfl)

noncomputable abbrev Bref04_Valid : Code := bodyOf Try.f43
theorem call_ref04_Valid : CallOk prog 43 := ⟨_, Try.func43, by kernel_rfl, by kernel_rfl⟩
theorem walk_ref04_Valid (a1 : api_Set) (Q : Bool → Prop) (h : ref04_Valid.wp a1 Q) : VCalls prog 43 [.agg [vi a1.1, .d (.sl (.sl t_api_Cond)) a1.2]] [] (fun r o => ∃ x, r = vb x ∧ o = [] ∧ Q x) := by
  refine vcalls_body tab Try.func43 (c := (spine (subC [0] Bref04_Valid) [(spine (subC [1, 0, 0] Bref04_Valid) [(.cond (.tmp 20) (spine (subC [1, 0, 1, 0, 0] Bref04_Valid) [.ret]) .skip), (spine (subC [1, 1, 0, 0] Bref04_Valid) [(.block 0 (.loop (spine (subC [1, 1, 0, 1, 0, 0, 0] Bref04_Valid) [(spine (.cond (.tmp 25) .skip (.exit 0)) [(spine (.block 1 (spine (subC [1, 1, 0, 1, 0, 0, 1, 1, 0, 0, 0] Bref04_Valid) [(spine (subC [1, 1, 0, 1, 0, 0, 1, 1, 0, 0, 1, 0, 0] Bref04_Valid) [(.cond (.tmp 30) (spine (subC [1, 1, 0, 1, 0, 0, 1, 1, 0, 0, 1, 0, 1, 0, 0] Bref04_Valid) [.ret]) .skip), (spine (subC [1, 1, 0, 1, 0, 0, 1, 1, 0, 0, 1, 1, 0] Bref04_Valid) [(.block 2 (.loop (spine (subC [1, 1, 0, 1, 0, 0, 1, 1, 0, 0, 1, 1, 1, 0, 0, 0] Bref04_Valid) [(spine (.cond (.tmp 34) .skip (.exit 2)) [(spine (.block 3 (spine (subC [1, 1, 0, 1, 0, 0, 1, 1, 0, 0, 1, 1, 1, 0, 0, 1, 1, 0, 0, 0] Bref04_Valid) [(spine (subC [1, 1, 0, 1, 0, 0, 1, 1, 0, 0, 1, 1, 1, 0, 0, 1, 1, 0, 0, 1, 0] Bref04_Valid) [(.cond (.tmp 48) (spine (subC [1, 1, 0, 1, 0, 0, 1, 1, 0, 0, 1, 1, 1, 0, 0, 1, 1, 0, 0, 1, 1, 0, 0] Bref04_Valid) [.ret]) .skip)])])) [(subC [1, 1, 0, 1, 0, 0, 1, 1, 0, 0, 1, 1, 1, 0, 0, 1, 1, 1] Bref04_Valid)])])])))])])])) [(subC [1, 1, 0, 1, 0, 0, 1, 1, 1] Bref04_Valid)])])]))), (spine (subC [1, 1, 1, 0] Bref04_Valid) [.ret])])])])) (by kernel_rfl) (Nat.le_of_ble_eq_true (by kernel_rfl)) fun cx hd hi hk => ?_
  show AWp prog cx _ _ ⟨51, [(0, .agg [vi a1.1, .d (.sl (.sl t_api_Cond)) a1.2])], []⟩
  replace hk : cx.E.len = 0 := hk
  unfold ref04_Valid.wp at h
  refine awp_spine ?_
  refine awp_rc tab [1] [] [] [0] [] ⟨51, [(1, .er [vi a1.1, .d (.sl (.sl t_api_Cond)) a1.2])], []⟩ (by kernel_rfl) (trivial) ?_
  refine then_n (spine_c ?_)
  refine awp_spine ?_
  refine awp_rc tab [1, 20] [] [] [] [(!(decide (a1.1 < (0 : Int)))) = true → (!(decide (a1.1 < (0 : Int)))) = true ∧ True, (!(decide (a1.1 < (0 : Int)))) = true → (!(decide (a1.1 < (0 : Int)))) = true ∧ True, (decide (a1.1 < (0 : Int))) = false → (!(decide (a1.1 < (0 : Int)))) = true, (!((decide (a1.1 < (0 : Int))) || (decide (a1.1 > (12 : Int))))) = true → (!((decide (a1.1 < (0 : Int))) || (decide (a1.1 > (12 : Int))))) = true ∧ True, (!((decide (a1.1 < (0 : Int))) || (decide (a1.1 > (12 : Int))))) = true → (!((decide (a1.1 < (0 : Int))) || (decide (a1.1 > (12 : Int))))) = true ∧ True, (!((decide (a1.1 < (0 : Int))) || (decide (a1.1 > (12 : Int))))) = true → (!((decide (a1.1 < (0 : Int))) || (decide (a1.1 > (12 : Int))))) = true ∧ True, ((decide (a1.1 < (0 : Int))) || (decide (a1.1 > (12 : Int)))) = false → (!((decide (a1.1 < (0 : Int))) || (decide (a1.1 > (12 : Int))))) = true] ⟨51, [(1, .er [vi a1.1, .d (.sl (.sl t_api_Cond)) a1.2]), (20, vb (((decide (a1.1 < (0 : Int))) || (decide (a1.1 > (12 : Int)))) || (decide ((a1.2.length : Int) > (400 : Int)))))], []⟩ (by kernel_rfl) (AllP.of (fun hg => ⟨hg, trivial⟩) (AllP.of (fun hg => ⟨hg, trivial⟩) (AllP.of (fun hc => not_f hc) (AllP.of (fun hg => ⟨hg, trivial⟩) (AllP.of (fun hg => ⟨hg, trivial⟩) (AllP.of (fun hg => ⟨hg, trivial⟩) (AllP.of (fun hc => not_f hc) trivial))))))) ?_
  refine then_n (spine_c ?_)
  refine awp_cond (b := ((decide (a1.1 < (0 : Int))) || (decide (a1.1 > (12 : Int)))) || (decide ((a1.2.length : Int) > (400 : Int)))) (by kernel_rfl) (fun hb => ?_) (fun hb => ?_)
  · replace h := h.1 (hb)
    refine awp_spine ?_
    refine awp_rc tab [2] [] [] [] [] ⟨51, [(2, vb false)], []⟩ (by kernel_rfl) (trivial) ?_
    refine then_n (spine_c ?_)
    refine awp_ret (then_r (then_r (then_r (?_))))
    exact ret_r (m := 0) (r := vb false) (objs := []) hk [.keep [2]] ⟨51, [(2, vb false)], []⟩ (by kernel_rfl) (by kernel_rfl) (Nat.le_refl 0) ⟨false, rfl, rfl, h⟩
  · replace h := h.2 (hb)
    refine awp_skip (then_n (spine_c ?_))
    refine awp_spine ?_
    refine awp_rc tab [1, 22, 23, 24] [] [] [] [] ⟨51, [(1, .er [vi a1.1, .d (.sl (.sl t_api_Cond)) a1.2]), (22, .d (.sl (.sl t_api_Cond)) a1.2), (23, vi (a1.2.length : Int)), (24, vi (0 : Int))], []⟩ (by kernel_rfl) (trivial) ?_
    refine then_n (spine_c ?_)
    refine awp_len 1 [1] (T := (.sl t_api_Cond)) (l := a1.2) (by kernel_rfl) fun hl => ?_
    replace h := h hl
    refine awp_block ?_
    obtain ⟨I4, ⟨n4a, hz4⟩, hI4⟩ := h
    refine awp_loopN (fun n s => ∃ (x2 : Int), I4 n x2 ∧ s = ⟨51, [(1, .er [vi a1.1, .d (.sl (.sl t_api_Cond)) a1.2]), (22, .d (.sl (.sl t_api_Cond)) a1.2), (23, vi (a1.2.length : Int)), (24, vi x2)], []⟩) (n := n4a) (s0 := ⟨51, [(1, .er [vi a1.1, .d (.sl (.sl t_api_Cond)) a1.2]), (22, .d (.sl (.sl t_api_Cond)) a1.2), (23, vi (a1.2.length : Int)), (24, vi (0 : Int))], []⟩) (wk_ghosts hk (l := [.keep [1, 22, 23, 24], .keep [1, 22, 23, 24], .keep [1, 22, 23, 24], .keep [1, 22, 23, 24]]) (by kernel_rfl)) ⟨0, hz4, rfl⟩ ?_
    rintro n4 s ⟨x2, hx4, rfl⟩
    have h := hI4 n4 x2 hx4
    refine awp_spine ?_
    refine awp_rc tab [1, 22, 23, 24, 25] [] [] [] [] ⟨51, [(1, .er [vi a1.1, .d (.sl (.sl t_api_Cond)) a1.2]), (22, .d (.sl (.sl t_api_Cond)) a1.2), (23, vi (a1.2.length : Int)), (24, vi x2), (25, vb (decide (x2 < (a1.2.length : Int))))], []⟩ (by kernel_rfl) (trivial) ?_
    refine then_n (spine_c ?_)
    refine awp_spine ?_
    refine awp_cond (b := decide (x2 < (a1.2.length : Int))) (by kernel_rfl) (fun hb => ?_) (fun hb => ?_)
    · replace h := h.1 (of_decide_eq_true hb)
      refine awp_skip (then_n (spine_c ?_))
      refine awp_spine ?_
      refine awp_block ?_
      refine awp_spine ?_
      obtain ⟨o1, h⟩ := h
      refine awp_rc tab [1, 4, 22, 23, 24] [] [] [] [(0 : Int) ≤ x2 ∧ x2 < (a1.2.length : Int)] ⟨51, [(1, .er [vi a1.1, .d (.sl (.sl t_api_Cond)) a1.2]), (4, .d (.sl t_api_Cond) (a1.2.getD (Int.toNat x2) [])), (22, .d (.sl (.sl t_api_Cond)) a1.2), (23, vi (a1.2.length : Int)), (24, vi x2)], []⟩ (by kernel_rfl) (AllP.of (o1) trivial) ?_
      refine then_n (spine_c ?_)
      refine awp_spine ?_
      refine awp_rc tab [1, 4, 22, 23, 24, 30] [] [] [] [] ⟨51, [(1, .er [vi a1.1, .d (.sl (.sl t_api_Cond)) a1.2]), (4, .d (.sl t_api_Cond) (a1.2.getD (Int.toNat x2) [])), (22, .d (.sl (.sl t_api_Cond)) a1.2), (23, vi (a1.2.length : Int)), (24, vi x2), (30, vb (decide (((a1.2.getD (Int.toNat x2) []).length : Int) > (96 : Int))))], []⟩ (by kernel_rfl) (trivial) ?_
      refine then_n (spine_c ?_)
      refine awp_len 4 [] (T := t_api_Cond) (l := (a1.2.getD (Int.toNat x2) [])) (by kernel_rfl) fun hl => ?_
      replace h := h hl
      refine awp_cond (b := decide (((a1.2.getD (Int.toNat x2) []).length : Int) > (96 : Int))) (by kernel_rfl) (fun hb => ?_) (fun hb => ?_)
      · replace h := h.1 (of_decide_eq_true hb)
        refine awp_spine ?_
        refine awp_rc tab [2] [] [] [] [] ⟨51, [(2, vb false)], []⟩ (by kernel_rfl) (trivial) ?_
        refine then_n (spine_c ?_)
        refine awp_ret (then_r (then_r (then_r (blk_r (then_r (then_r (then_r (then_r (blk_r (then_r (then_r (then_r (?_)))))))))))))
        exact ret_r (m := 0) (r := vb false) (objs := []) hk [.keep [2]] ⟨51, [(2, vb false)], []⟩ (by kernel_rfl) (by kernel_rfl) (Nat.le_refl 0) ⟨false, rfl, rfl, h⟩
      · replace h := h.2 (of_decide_eq_false hb)
        refine awp_skip (then_n (spine_c ?_))
        refine awp_spine ?_
        refine awp_rc tab [1, 22, 23, 24, 31, 32, 33] [] [] [] [] ⟨51, [(1, .er [vi a1.1, .d (.sl (.sl t_api_Cond)) a1.2]), (22, .d (.sl (.sl t_api_Cond)) a1.2), (23, vi (a1.2.length : Int)), (24, vi x2), (31, .d (.sl t_api_Cond) (a1.2.getD (Int.toNat x2) [])), (32, vi ((a1.2.getD (Int.toNat x2) []).length : Int)), (33, vi (0 : Int))], []⟩ (by kernel_rfl) (trivial) ?_
        refine then_n (spine_c ?_)
        refine awp_abs (fun (x5 : Int) => ⟨51, [(1, .er [vi a1.1, .d (.sl (.sl t_api_Cond)) a1.2]), (22, .d (.sl (.sl t_api_Cond)) a1.2), (23, vi (a1.2.length : Int)), (24, vi x2), (31, .d (.sl t_api_Cond) (a1.2.getD (Int.toNat x2) [])), (32, vi x5), (33, vi (0 : Int))], []⟩) (((a1.2.getD (Int.toNat x2) []).length : Int)) ?_
        intro x5 hx5
        replace h := h x5 hx5
        refine awp_len 31 [] (T := t_api_Cond) (l := (a1.2.getD (Int.toNat x2) [])) (by kernel_rfl) fun hl => ?_
        replace h := h hl
        refine awp_block ?_
        obtain ⟨I9, ⟨n9a, hz9⟩, hI9⟩ := h
        refine awp_loopN (fun n s => ∃ (x7 : Int), I9 n x7 ∧ s = ⟨51, [(1, .er [vi a1.1, .d (.sl (.sl t_api_Cond)) a1.2]), (22, .d (.sl (.sl t_api_Cond)) a1.2), (23, vi (a1.2.length : Int)), (24, vi x2), (31, .d (.sl t_api_Cond) (a1.2.getD (Int.toNat x2) [])), (32, vi x5), (33, vi x7)], []⟩) (n := n9a) (s0 := ⟨51, [(1, .er [vi a1.1, .d (.sl (.sl t_api_Cond)) a1.2]), (22, .d (.sl (.sl t_api_Cond)) a1.2), (23, vi (a1.2.length : Int)), (24, vi x2), (31, .d (.sl t_api_Cond) (a1.2.getD (Int.toNat x2) [])), (32, vi x5), (33, vi (0 : Int))], []⟩) (wk_ghosts hk (l := [.keep [1, 22, 23, 24, 31, 32, 33], .keep [1, 22, 23, 24, 31, 32, 33], .keep [1, 22, 23, 24, 31, 32, 33], .keep [1, 22, 23, 24, 31, 32, 33]]) (by kernel_rfl)) ⟨0, hz9, rfl⟩ ?_
        rintro n9 s ⟨x7, hx9, rfl⟩
        have h := hI9 n9 x7 hx9
        refine awp_spine ?_
        refine awp_rc tab [1, 22, 23, 24, 31, 32, 33, 34] [] [] [] [] ⟨51, [(1, .er [vi a1.1, .d (.sl (.sl t_api_Cond)) a1.2]), (22, .d (.sl (.sl t_api_Cond)) a1.2), (23, vi (a1.2.length : Int)), (24, vi x2), (31, .d (.sl t_api_Cond) (a1.2.getD (Int.toNat x2) [])), (32, vi x5), (33, vi x7), (34, vb (decide (x7 < x5)))], []⟩ (by kernel_rfl) (trivial) ?_
        refine then_n (spine_c ?_)
        refine awp_spine ?_
        refine awp_cond (b := decide (x7 < x5)) (by kernel_rfl) (fun hb => ?_) (fun hb => ?_)
        · replace h := h.1 (of_decide_eq_true hb)
          refine awp_skip (then_n (spine_c ?_))
          refine awp_spine ?_
          refine awp_block ?_
          refine awp_spine ?_
          obtain ⟨o2, h⟩ := h
          refine awp_rc tab [1, 6, 22, 23, 24, 31, 32, 33] [] [] [] [(0 : Int) ≤ x7 ∧ x7 < ((a1.2.getD (Int.toNat x2) []).length : Int)] ⟨51, [(1, .er [vi a1.1, .d (.sl (.sl t_api_Cond)) a1.2]), (6, .ref 0 0 0), (22, .d (.sl (.sl t_api_Cond)) a1.2), (23, vi (a1.2.length : Int)), (24, vi x2), (31, .d (.sl t_api_Cond) (a1.2.getD (Int.toNat x2) [])), (32, vi x5), (33, vi x7)], [.box [vi (((a1.2.getD (Int.toNat x2) []).getD (Int.toNat x7) d_api_Cond).1), vi (((a1.2.getD (Int.toNat x2) []).getD (Int.toNat x7) d_api_Cond).2.1), .d (.sl (.int .i64)) ((((a1.2.getD (Int.toNat x2) []).getD (Int.toNat x7) d_api_Cond).2.2).1), vi ((((a1.2.getD (Int.toNat x2) []).getD (Int.toNat x7) d_api_Cond).2.2).2)]]⟩ (by kernel_rfl) (AllP.of (o2) trivial) ?_
          refine then_n (spine_c ?_)
          refine awp_abs (fun (x10 : api_Cond) => ⟨51, [(1, .er [vi a1.1, .d (.sl (.sl t_api_Cond)) a1.2]), (6, .ref 0 0 0), (22, .d (.sl (.sl t_api_Cond)) a1.2), (23, vi (a1.2.length : Int)), (24, vi x2), (31, .d (.sl t_api_Cond) (a1.2.getD (Int.toNat x2) [])), (32, vi x5), (33, vi x7)], [.box [vi x10.1, vi x10.2.1, .d (.sl (.int .i64)) x10.2.2.1, vi x10.2.2.2]]⟩) ((a1.2.getD (Int.toNat x2) []).getD (Int.toNat x7) d_api_Cond) ?_
          intro x10 hx10
          replace h := h x10 hx10
          refine awp_spine ?_
          refine awp_rc tab [1, 22, 23, 24, 31, 32, 33, 48] [] [(1, .dat (vb (ref03_Valid.fn x10)))] [] [OkC prog 16 [.agg [vi x10.1, vi x10.2.1, .d (.sl (.int .i64)) x10.2.2.1, vi x10.2.2.2]] (vb (ref03_Valid.fn x10)), (!(!(ref03_Valid.fn x10))) = true → (!(!(ref03_Valid.fn x10))) = true ∧ True, (!(!(ref03_Valid.fn x10))) = true → (!(!(ref03_Valid.fn x10))) = true ∧ True, (!(!(ref03_Valid.fn x10))) = true → (!(!(ref03_Valid.fn x10))) = true ∧ True, (!(!(ref03_Valid.fn x10))) = true → (!(!(ref03_Valid.fn x10))) = true ∧ True, (!(!(ref03_Valid.fn x10))) = true → (!(!(ref03_Valid.fn x10))) = true ∧ ((!(!(ref03_Valid.fn x10))) = true ∧ True), (!(ref03_Valid.fn x10)) = false → (!(!(ref03_Valid.fn x10))) = true] ⟨51, [(1, .er [vi a1.1, .d (.sl (.sl t_api_Cond)) a1.2]), (22, .d (.sl (.sl t_api_Cond)) a1.2), (23, vi (a1.2.length : Int)), (24, vi x2), (31, .d (.sl t_api_Cond) (a1.2.getD (Int.toNat x2) [])), (32, vi x5), (33, vi x7), (48, vb ((!(ref03_Valid.fn x10)) || ((x10.2.2.1.length : Int) != a1.1)))], [.box [vi x10.1, vi x10.2.1, .d (.sl (.int .i64)) x10.2.2.1, vi x10.2.2.2]]⟩ (by kernel_rfl) (AllP.of (ok_ref03_Valid x10) (AllP.of (fun hg => ⟨hg, trivial⟩) (AllP.of (fun hg => ⟨hg, trivial⟩) (AllP.of (fun hg => ⟨hg, trivial⟩) (AllP.of (fun hg => ⟨hg, trivial⟩) (AllP.of (fun hg => ⟨hg, hg, trivial⟩) (AllP.of (fun hc => not_f hc) trivial))))))) ?_
          refine then_n (spine_c ?_)
          refine awp_cond (b := (!(ref03_Valid.fn x10)) || ((x10.2.2.1.length : Int) != a1.1)) (by kernel_rfl) (fun hb => ?_) (fun hb => ?_)
          · replace h := h.1 (hb)
            refine awp_spine ?_
            refine awp_rc tab [2] [] [] [] [] ⟨51, [(2, vb false)], [.box [vi x10.1, vi x10.2.1, .d (.sl (.int .i64)) x10.2.2.1, vi x10.2.2.2]]⟩ (by kernel_rfl) (trivial) ?_
            refine then_n (spine_c ?_)
            refine awp_ret (then_r (then_r (then_r (blk_r (then_r (then_r (then_r (then_r (blk_r (then_r (then_r (then_r (blk_r (then_r (then_r (then_r (then_r (blk_r (then_r (then_r (then_r (?_))))))))))))))))))))))
            exact ret_r (m := 0) (r := vb false) (objs := []) hk [.keep [2]] ⟨51, [(2, vb false)], [.box [vi x10.1, vi x10.2.1, .d (.sl (.int .i64)) x10.2.2.1, vi x10.2.2.2]]⟩ (by kernel_rfl) (by kernel_rfl) (Nat.le_refl 0) ⟨false, rfl, rfl, h⟩
          · replace h := h.2 (hb)
            refine awp_skip (then_n (spine_e (then_n (spine_e (blk_n (then_n (spine_c ?_)))))))
            obtain ⟨o3, h⟩ := h
            refine awp_rc tab [1, 22, 23, 24, 31, 32, 33] [] [] [] [-9223372036854775808 ≤ x7 + (1 : Int) ∧ x7 + (1 : Int) ≤ 9223372036854775807] ⟨51, [(1, .er [vi a1.1, .d (.sl (.sl t_api_Cond)) a1.2]), (22, .d (.sl (.sl t_api_Cond)) a1.2), (23, vi (a1.2.length : Int)), (24, vi x2), (31, .d (.sl t_api_Cond) (a1.2.getD (Int.toNat x2) [])), (32, vi x5), (33, vi (x7 + (1 : Int)))], [.box [vi x10.1, vi x10.2.1, .d (.sl (.int .i64)) x10.2.2.1, vi x10.2.2.2]]⟩ (by kernel_rfl) (AllP.of (o3) trivial) ?_
            refine then_n (spine_e (then_n (spine_e (then_n (spine_e (then_n (?_)))))))
            obtain ⟨m, hm, h⟩ := h
            exact ⟨m, hm, ⟨51, [(1, .er [vi a1.1, .d (.sl (.sl t_api_Cond)) a1.2]), (22, .d (.sl (.sl t_api_Cond)) a1.2), (23, vi (a1.2.length : Int)), (24, vi x2), (31, .d (.sl t_api_Cond) (a1.2.getD (Int.toNat x2) [])), (32, vi x5), (33, vi (x7 + (1 : Int)))], []⟩, wk_ghosts hk (l := [.keep [1, 22, 23, 24, 31, 32, 33], .keep [1, 22, 23, 24, 31, 32, 33], .cut 0, .keep [1, 22, 23, 24, 31, 32, 33]]) (by kernel_rfl), x7 + (1 : Int), h, rfl⟩
        · replace h := h.2 (of_decide_eq_false hb)
          refine awp_exit (then_x (then_x (then_x (blk_h (then_n (spine_e (then_n (spine_e (then_n (spine_e (blk_n (then_n (spine_c ?_)))))))))))))
          obtain ⟨o4, h⟩ := h
          refine awp_rc tab [1, 22, 23, 24] [] [] [] [-9223372036854775808 ≤ x2 + (1 : Int) ∧ x2 + (1 : Int) ≤ 9223372036854775807] ⟨51, [(1, .er [vi a1.1, .d (.sl (.sl t_api_Cond)) a1.2]), (22, .d (.sl (.sl t_api_Cond)) a1.2), (23, vi (a1.2.length : Int)), (24, vi (x2 + (1 : Int)))], []⟩ (by kernel_rfl) (AllP.of (o4) trivial) ?_
          refine then_n (spine_e (then_n (spine_e (then_n (spine_e (then_n (?_)))))))
          obtain ⟨m, hm, h⟩ := h
          exact ⟨m, hm, ⟨51, [(1, .er [vi a1.1, .d (.sl (.sl t_api_Cond)) a1.2]), (22, .d (.sl (.sl t_api_Cond)) a1.2), (23, vi (a1.2.length : Int)), (24, vi (x2 + (1 : Int)))], []⟩, wk_ghosts hk (l := [.keep [1, 22, 23, 24], .keep [1, 22, 23, 24], .keep [1, 22, 23, 24]]) (by kernel_rfl), x2 + (1 : Int), h, rfl⟩
    · replace h := h.2 (of_decide_eq_false hb)
      refine awp_exit (then_x (then_x (then_x (blk_h (then_n (spine_c ?_))))))
      refine awp_spine ?_
      refine awp_rc tab [2] [] [] [] [] ⟨51, [(2, vb true)], []⟩ (by kernel_rfl) (trivial) ?_
      refine then_n (spine_c ?_)
      refine awp_ret (then_r (then_r (then_r (then_r (?_)))))
      exact ret_r (m := 0) (r := vb true) (objs := []) hk [.keep [2]] ⟨51, [(2, vb true)], []⟩ (by kernel_rfl) (by kernel_rfl) (Nat.le_refl 0) ⟨true, rfl, rfl, h⟩
theorem ok_ref04_Valid (a1 : api_Set) : OkC prog 43 [.agg [vi a1.1, .d (.sl (.sl t_api_Cond)) a1.2]] (vb (ref04_Valid.fn a1)) :=
  OkC.of call_ref04_Valid ((walk_ref04_Valid a1 _ (ref04_Valid.spec a1)).mono fun r o ⟨x, hr, ho, hx⟩ => ⟨by rw [hr, hx], ho⟩) rfl rfl (fun _ => rfl)

noncomputable abbrev Bref09_asked : Code := bodyOf Try.f28
theorem call_ref09_asked : CallOk prog 28 := ⟨_, Try.func28, by kernel_rfl, by kernel_rfl⟩
theorem walk_ref09_asked (a1 : (List api_Cond)) (a2 : Int) (Q : Int → Prop) (h : ref09_asked.wp a1 a2 Q) : VCalls prog 28 [.d (.sl t_api_Cond) a1, vi a2] [] (fun r o => ∃ x, r = vi x ∧ o = [] ∧ Q x) := by
  refine vcalls_body tab Try.func28 (c := (spine (subC [0] Bref09_asked) [(spine (subC [1, 0, 0] Bref09_asked) [(.cond (.tmp 13) (spine (subC [1, 0, 1, 0, 0] Bref09_asked) [.ret]) .skip), (spine (subC [1, 1, 0, 0] Bref09_asked) [(.cond (.tmp 16) (spine (subC [1, 1, 0, 1, 0, 0] Bref09_asked) [.ret]) .skip), (spine (subC [1, 1, 1, 0] Bref09_asked) [(spine (subC [1, 1, 1, 1, 0, 0] Bref09_asked) [(.block 0 (.loop (spine (subC [1, 1, 1, 1, 0, 1, 0, 0, 0] Bref09_asked) [(spine (.cond (.tmp 20) .skip (.exit 0)) [(spine (.block 1 (spine (subC [1, 1, 1, 1, 0, 1, 0, 0, 1, 1, 0, 0, 0] Bref09_asked) [(spine (subC [1, 1, 1, 1, 0, 1, 0, 0, 1, 1, 0, 0, 1, 0, 0] Bref09_asked) [(.cond (.tmp 25) (spine (subC [1, 1, 1, 1, 0, 1, 0, 0, 1, 1, 0, 0, 1, 0, 1, 0, 0] Bref09_asked) [.ret]) .skip), (spine (subC [1, 1, 1, 1, 0, 1, 0, 0, 1, 1, 0, 0, 1, 1, 0] Bref09_asked) [(.cond (.tmp 31) (subC [1, 1, 1, 1, 0, 1, 0, 0, 1, 1, 0, 0, 1, 1, 1, 0] Bref09_asked) .skip)])])])) [(subC [1, 1, 1, 1, 0, 1, 0, 0, 1, 1, 1] Bref09_asked)])])]))), (spine (subC [1, 1, 1, 1, 1, 0] Bref09_asked) [.ret])])])])])])) (by kernel_rfl) (Nat.le_of_ble_eq_true (by kernel_rfl)) fun cx hd hi hk => ?_
  show AWp prog cx _ _ ⟨34, [(0, .d (.sl t_api_Cond) a1), (1, vi a2)], []⟩
  replace hk : cx.E.len = 0 := hk
  unfold ref09_asked.wp at h
  refine awp_spine ?_
  refine awp_rc tab [0, 1] [] [] [] [] ⟨34, [(0, .d (.sl t_api_Cond) a1), (1, vi a2)], []⟩ (by kernel_rfl) (trivial) ?_
  refine then_n (spine_c ?_)
  refine awp_spine ?_
  refine awp_rc tab [0, 1, 13] [] [] [] [(!(decide (a2 < (0 : Int)))) = true → (!(decide (a2 < (0 : Int)))) = true ∧ True, (decide (a2 < (0 : Int))) = false → (!(decide (a2 < (0 : Int)))) = true] ⟨34, [(0, .d (.sl t_api_Cond) a1), (1, vi a2), (13, vb ((decide (a2 < (0 : Int))) || (decide (a2 > (12 : Int)))))], []⟩ (by kernel_rfl) (AllP.of (fun hg => ⟨hg, trivial⟩) (AllP.of (fun hc => not_f hc) trivial)) ?_
  refine then_n (spine_c ?_)
  refine awp_cond (b := (decide (a2 < (0 : Int))) || (decide (a2 > (12 : Int)))) (by kernel_rfl) (fun hb => ?_) (fun hb => ?_)
  · replace h := h.1 (hb)
    refine awp_spine ?_
    refine awp_rc tab [4] [] [] [] [] ⟨34, [(4, vi (6 : Int))], []⟩ (by kernel_rfl) (trivial) ?_
    refine then_n (spine_c ?_)
    refine awp_ret (then_r (then_r (then_r (?_))))
    exact ret_r (m := 0) (r := vi (6 : Int)) (objs := []) hk [.keep [4]] ⟨34, [(4, vi (6 : Int))], []⟩ (by kernel_rfl) (by kernel_rfl) (Nat.le_refl 0) ⟨6, rfl, rfl, h⟩
  · replace h := h.2 (hb)
    refine awp_skip (then_n (spine_c ?_))
    refine awp_spine ?_
    refine awp_rc tab [0, 1, 16] [] [] [] [] ⟨34, [(0, .d (.sl t_api_Cond) a1), (1, vi a2), (16, vb (decide ((a1.length : Int) > (96 : Int))))], []⟩ (by kernel_rfl) (trivial) ?_
    refine then_n (spine_c ?_)
    refine awp_len 0 [] (T := t_api_Cond) (l := a1) (by kernel_rfl) fun hl => ?_
    replace h := h hl
    refine awp_cond (b := decide ((a1.length : Int) > (96 : Int))) (by kernel_rfl) (fun hb => ?_) (fun hb => ?_)
    · replace h := h.1 (of_decide_eq_true hb)
      refine awp_spine ?_
      refine awp_rc tab [4] [] [] [] [] ⟨34, [(4, vi (3 : Int))], []⟩ (by kernel_rfl) (trivial) ?_
      refine then_n (spine_c ?_)
      refine awp_ret (then_r (then_r (then_r (then_r (?_)))))
      exact ret_r (m := 0) (r := vi (3 : Int)) (objs := []) hk [.keep [4]] ⟨34, [(4, vi (3 : Int))], []⟩ (by kernel_rfl) (by kernel_rfl) (Nat.le_refl 0) ⟨3, rfl, rfl, h⟩
    · replace h := h.2 (of_decide_eq_false hb)
      refine awp_skip (then_n (spine_c ?_))
      refine awp_spine ?_
      refine awp_rc tab [0, 1, 5] [] [] [] [] ⟨34, [(0, .d (.sl t_api_Cond) a1), (1, vi a2), (5, vi (0 : Int))], []⟩ (by kernel_rfl) (trivial) ?_
      refine then_n (spine_c ?_)
      refine awp_spine ?_
      refine awp_rc tab [1, 5, 17, 18, 19] [] [] [] [] ⟨34, [(1, vi a2), (5, vi (0 : Int)), (17, .d (.sl t_api_Cond) a1), (18, vi (a1.length : Int)), (19, vi (0 : Int))], []⟩ (by kernel_rfl) (trivial) ?_
      refine then_n (spine_c ?_)
      refine awp_len 17 [] (T := t_api_Cond) (l := a1) (by kernel_rfl) fun hl => ?_
      replace h := h hl
      refine awp_block ?_
      obtain ⟨I7, ⟨n7a, hz7⟩, hI7⟩ := h
      refine awp_loopN (fun n s => ∃ (x3 : Int) (x4 : Int), I7 n x3 x4 ∧ s = ⟨34, [(1, vi a2), (5, vi x3), (17, .d (.sl t_api_Cond) a1), (18, vi (a1.length : Int)), (19, vi x4)], []⟩) (n := n7a) (s0 := ⟨34, [(1, vi a2), (5, vi (0 : Int)), (17, .d (.sl t_api_Cond) a1), (18, vi (a1.length : Int)), (19, vi (0 : Int))], []⟩) (wk_ghosts hk (l := [.keep [1, 5, 17, 18, 19], .keep [1, 5, 17, 18, 19], .keep [1, 5, 17, 18, 19], .keep [1, 5, 17, 18, 19]]) (by kernel_rfl)) ⟨0, 0, hz7, rfl⟩ ?_
      rintro n7 s ⟨x3, x4, hx7, rfl⟩
      have h := hI7 n7 x3 x4 hx7
      refine awp_spine ?_
      refine awp_rc tab [1, 5, 17, 18, 19, 20] [] [] [] [] ⟨34, [(1, vi a2), (5, vi x3), (17, .d (.sl t_api_Cond) a1), (18, vi (a1.length : Int)), (19, vi x4), (20, vb (decide (x4 < (a1.length : Int))))], []⟩ (by kernel_rfl) (trivial) ?_
      refine then_n (spine_c ?_)
      refine awp_spine ?_
      refine awp_cond (b := decide (x4 < (a1.length : Int))) (by kernel_rfl) (fun hb => ?_) (fun hb => ?_)
      · replace h := h.1 (of_decide_eq_true hb)
        refine awp_skip (then_n (spine_c ?_))
        refine awp_spine ?_
        refine awp_block ?_
        refine awp_spine ?_
        obtain ⟨o1, h⟩ := h
        refine awp_rc tab [1, 5, 7, 17, 18, 19] [] [] [] [(0 : Int) ≤ x4 ∧ x4 < (a1.length : Int)] ⟨34, [(1, vi a2), (5, vi x3), (7, .ref 0 0 0), (17, .d (.sl t_api_Cond) a1), (18, vi (a1.length : Int)), (19, vi x4)], [.box [vi ((a1.getD (Int.toNat x4) d_api_Cond).1), vi ((a1.getD (Int.toNat x4) d_api_Cond).2.1), .d (.sl (.int .i64)) (((a1.getD (Int.toNat x4) d_api_Cond).2.2).1), vi (((a1.getD (Int.toNat x4) d_api_Cond).2.2).2)]]⟩ (by kernel_rfl) (AllP.of (o1) trivial) ?_
        refine then_n (spine_c ?_)
        refine awp_abs (fun (x8 : api_Cond) => ⟨34, [(1, vi a2), (5, vi x3), (7, .ref 0 0 0), (17, .d (.sl t_api_Cond) a1), (18, vi (a1.length : Int)), (19, vi x4)], [.box [vi x8.1, vi x8.2.1, .d (.sl (.int .i64)) x8.2.2.1, vi x8.2.2.2]]⟩) (a1.getD (Int.toNat x4) d_api_Cond) ?_
        intro x8 hx8
        replace h := h x8 hx8
        refine awp_spine ?_
        refine awp_rc tab [1, 5, 7, 17, 18, 19, 25] [] [(1, .dat (vb (ref03_Valid.fn x8)))] [] [OkC prog 16 [.agg [vi x8.1, vi x8.2.1, .d (.sl (.int .i64)) x8.2.2.1, vi x8.2.2.2]] (vb (ref03_Valid.fn x8))] ⟨34, [(1, vi a2), (5, vi x3), (7, .ref 0 0 0), (17, .d (.sl t_api_Cond) a1), (18, vi (a1.length : Int)), (19, vi x4), (25, vb (!(ref03_Valid.fn x8)))], [.box [vi x8.1, vi x8.2.1, .d (.sl (.int .i64)) x8.2.2.1, vi x8.2.2.2]]⟩ (by kernel_rfl) (AllP.of (ok_ref03_Valid x8) trivial) ?_
        refine then_n (spine_c ?_)
        refine awp_cond (b := !(ref03_Valid.fn x8)) (by kernel_rfl) (fun hb => ?_) (fun hb => ?_)
        · replace h := h.1 ((nt hb))
          refine awp_spine ?_
          refine awp_rc tab [4] [] [] [] [] ⟨34, [(4, vi (1 : Int))], [.box [vi x8.1, vi x8.2.1, .d (.sl (.int .i64)) x8.2.2.1, vi x8.2.2.2]]⟩ (by kernel_rfl) (trivial) ?_
          refine then_n (spine_c ?_)
          refine awp_ret (then_r (then_r (then_r (blk_r (then_r (then_r (then_r (then_r (blk_r (then_r (then_r (then_r (then_r (then_r (?_)))))))))))))))
          exact ret_r (m := 0) (r := vi (1 : Int)) (objs := []) hk [.keep [4]] ⟨34, [(4, vi (1 : Int))], [.box [vi x8.1, vi x8.2.1, .d (.sl (.int .i64)) x8.2.2.1, vi x8.2.2.2]]⟩ (by kernel_rfl) (by kernel_rfl) (Nat.le_refl 0) ⟨1, rfl, rfl, h⟩
        · replace h := h.2 ((nf hb))
          refine awp_skip (then_n (spine_c ?_))
          refine awp_spine ?_
          refine awp_rc tab [1, 5, 17, 18, 19, 31] [] [] [] [] ⟨34, [(1, vi a2), (5, vi x3), (17, .d (.sl t_api_Cond) a1), (18, vi (a1.length : Int)), (19, vi x4), (31, vb ((x8.2.2.1.length : Int) != a2))], [.box [vi x8.1, vi x8.2.1, .d (.sl (.int .i64)) x8.2.2.1, vi x8.2.2.2]]⟩ (by kernel_rfl) (trivial) ?_
          refine then_n (spine_c ?_)
          refine awp_cond (b := (x8.2.2.1.length : Int) != a2) (by kernel_rfl) (fun hb => ?_) (fun hb => ?_)
          · replace h := h.1 (bne_iff_ne.mp hb)
            refine awp_rc tab [1, 5, 17, 18, 19] [] [] [] [] ⟨34, [(1, vi a2), (5, vi (2 : Int)), (17, .d (.sl t_api_Cond) a1), (18, vi (a1.length : Int)), (19, vi x4)], [.box [vi x8.1, vi x8.2.1, .d (.sl (.int .i64)) x8.2.2.1, vi x8.2.2.2]]⟩ (by kernel_rfl) (trivial) ?_
            refine then_n (spine_e (then_n (spine_e (then_n (spine_e (blk_n (then_n (spine_c ?_))))))))
            obtain ⟨o2, h⟩ := h
            refine awp_rc tab [1, 5, 17, 18, 19] [] [] [] [-9223372036854775808 ≤ x4 + (1 : Int) ∧ x4 + (1 : Int) ≤ 9223372036854775807] ⟨34, [(1, vi a2), (5, vi (2 : Int)), (17, .d (.sl t_api_Cond) a1), (18, vi (a1.length : Int)), (19, vi (x4 + (1 : Int)))], [.box [vi x8.1, vi x8.2.1, .d (.sl (.int .i64)) x8.2.2.1, vi x8.2.2.2]]⟩ (by kernel_rfl) (AllP.of (o2) trivial) ?_
            refine then_n (spine_e (then_n (spine_e (then_n (spine_e (then_n (?_)))))))
            obtain ⟨m, hm, h⟩ := h
            exact ⟨m, hm, ⟨34, [(1, vi a2), (5, vi (2 : Int)), (17, .d (.sl t_api_Cond) a1), (18, vi (a1.length : Int)), (19, vi (x4 + (1 : Int)))], []⟩, wk_ghosts hk (l := [.keep [1, 5, 17, 18, 19], .keep [1, 5, 17, 18, 19], .cut 0, .keep [1, 5, 17, 18, 19]]) (by kernel_rfl), 2, x4 + (1 : Int), h, rfl⟩
          · replace h := h.2 (bne_f hb)
            refine awp_skip (then_n (spine_e (then_n (spine_e (then_n (spine_e (blk_n (then_n (spine_c ?_)))))))))
            obtain ⟨o3, h⟩ := h
            refine awp_rc tab [1, 5, 17, 18, 19] [] [] [] [-9223372036854775808 ≤ x4 + (1 : Int) ∧ x4 + (1 : Int) ≤ 9223372036854775807] ⟨34, [(1, vi a2), (5, vi x3), (17, .d (.sl t_api_Cond) a1), (18, vi (a1.length : Int)), (19, vi (x4 + (1 : Int)))], [.box [vi x8.1, vi x8.2.1, .d (.sl (.int .i64)) x8.2.2.1, vi x8.2.2.2]]⟩ (by kernel_rfl) (AllP.of (o3) trivial) ?_
            refine then_n (spine_e (then_n (spine_e (then_n (spine_e (then_n (?_)))))))
            obtain ⟨m, hm, h⟩ := h
            exact ⟨m, hm, ⟨34, [(1, vi a2), (5, vi x3), (17, .d (.sl t_api_Cond) a1), (18, vi (a1.length : Int)), (19, vi (x4 + (1 : Int)))], []⟩, wk_ghosts hk (l := [.keep [1, 5, 17, 18, 19], .keep [1, 5, 17, 18, 19], .cut 0, .keep [1, 5, 17, 18, 19]]) (by kernel_rfl), x3, x4 + (1 : Int), h, rfl⟩
      · replace h := h.2 (of_decide_eq_false hb)
        refine awp_exit (then_x (then_x (then_x (blk_h (then_n (spine_c ?_))))))
        refine awp_spine ?_
        refine awp_rc tab [4] [] [] [] [] ⟨34, [(4, vi x3)], []⟩ (by kernel_rfl) (trivial) ?_
        refine then_n (spine_c ?_)
        refine awp_ret (then_r (then_r (then_r (then_r (then_r (then_r (?_)))))))
        exact ret_r (m := 0) (r := vi x3) (objs := []) hk [.keep [4]] ⟨34, [(4, vi x3)], []⟩ (by kernel_rfl) (by kernel_rfl) (Nat.le_refl 0) ⟨x3, rfl, rfl, h⟩
theorem ok_ref09_asked (a1 : (List api_Cond)) (a2 : Int) : OkC prog 28 [.d (.sl t_api_Cond) a1, vi a2] (vi (ref09_asked.fn a1 a2)) :=
  OkC.of call_ref09_asked ((walk_ref09_asked a1 a2 _ (ref09_asked.spec a1 a2)).mono fun r o ⟨x, hr, ho, hx⟩ => ⟨by rw [hr, hx], ho⟩) rfl rfl (fun _ => rfl)

noncomputable abbrev Bref09_refuted : Code := bodyOf Try.f30
theorem call_ref09_refuted : CallOk prog 30 := ⟨_, Try.func30, by kernel_rfl, by kernel_rfl⟩
theorem walk_ref09_refuted (a1 : (List ref09_Row)) (Q : (List Int) × Bool → Prop) (h : ref09_refuted.wp a1 Q) : VCalls prog 30 [.d (.sl t_ref09_Row) a1] [] (fun r o => ∃ x, r = .tup [.d (.sl (.int .i64)) x.1, vb x.2] ∧ o = [] ∧ Q x) := by
  refine vcalls_body tab Try.func30 (c := (spine (subC [0] Bref09_refuted) [(spine (subC [1, 0, 0] Bref09_refuted) [(.block 0 (.loop (spine (subC [1, 0, 1, 0, 0, 0] Bref09_refuted) [(spine (.cond (.tmp 12) .skip (.exit 0)) [(spine (.block 1 (spine (subC [1, 0, 1, 0, 0, 1, 1, 0, 0, 0] Bref09_refuted) [(spine (subC [1, 0, 1, 0, 0, 1, 1, 0, 0, 1, 0, 0] Bref09_refuted) [(.cond (.tmp 18) (spine (subC [1, 0, 1, 0, 0, 1, 1, 0, 0, 1, 0, 1, 0, 0] Bref09_refuted) [.ret]) .skip), (spine (subC [1, 0, 1, 0, 0, 1, 1, 0, 0, 1, 1, 0] Bref09_refuted) [(.cond (.tmp 28) (spine (subC [1, 0, 1, 0, 0, 1, 1, 0, 0, 1, 1, 1, 0, 0] Bref09_refuted) [(spine (subC [1, 0, 1, 0, 0, 1, 1, 0, 0, 1, 1, 1, 0, 1, 0, 0] Bref09_refuted) [(.block 2 (.loop (spine (subC [1, 0, 1, 0, 0, 1, 1, 0, 0, 1, 1, 1, 0, 1, 0, 1, 0, 0, 0] Bref09_refuted) [(spine (.cond (.tmp 33) .skip (.exit 2)) [(spine (.block 3 (spine (subC [1, 0, 1, 0, 0, 1, 1, 0, 0, 1, 1, 1, 0, 1, 0, 1, 0, 0, 1, 1, 0, 0, 0] Bref09_refuted) [(subC [1, 0, 1, 0, 0, 1, 1, 0, 0, 1, 1, 1, 0, 1, 0, 1, 0, 0, 1, 1, 0, 0, 1] Bref09_refuted)])) [(subC [1, 0, 1, 0, 0, 1, 1, 0, 0, 1, 1, 1, 0, 1, 0, 1, 0, 0, 1, 1, 1] Bref09_refuted)])])]))), (spine (subC [1, 0, 1, 0, 0, 1, 1, 0, 0, 1, 1, 1, 0, 1, 1, 0] Bref09_refuted) [.ret])])]) .skip)])])])) [(subC [1, 0, 1, 0, 0, 1, 1, 1] Bref09_refuted)])])]))), (spine (subC [1, 1, 0] Bref09_refuted) [.ret])])])) (by kernel_rfl) (Nat.le_of_ble_eq_true (by kernel_rfl)) fun cx hd hi hk => ?_
  show AWp prog cx _ _ ⟨44, [(0, .d (.sl t_ref09_Row) a1)], []⟩
  replace hk : cx.E.len = 0 := hk
  unfold ref09_refuted.wp at h
  refine awp_spine ?_
  refine awp_rc tab [0] [] [] [] [] ⟨44, [(0, .d (.sl t_ref09_Row) a1)], []⟩ (by kernel_rfl) (trivial) ?_
  refine then_n (spine_c ?_)
  refine awp_spine ?_
  refine awp_rc tab [9, 10, 11] [] [] [] [] ⟨44, [(9, .d (.sl t_ref09_Row) a1), (10, vi (a1.length : Int)), (11, vi (0 : Int))], []⟩ (by kernel_rfl) (trivial) ?_
  refine then_n (spine_c ?_)
  refine awp_len 9 [] (T := t_ref09_Row) (l := a1) (by kernel_rfl) fun hl => ?_
  replace h := h hl
  refine awp_block ?_
  obtain ⟨I4, ⟨n4a, hz4⟩, hI4⟩ := h
  refine awp_loopN (fun n s => ∃ (x2 : Int), I4 n x2 ∧ s = ⟨44, [(9, .d (.sl t_ref09_Row) a1), (10, vi (a1.length : Int)), (11, vi x2)], []⟩) (n := n4a) (s0 := ⟨44, [(9, .d (.sl t_ref09_Row) a1), (10, vi (a1.length : Int)), (11, vi (0 : Int))], []⟩) (wk_ghosts hk (l := [.keep [9, 10, 11], .keep [9, 10, 11], .keep [9, 10, 11], .keep [9, 10, 11]]) (by kernel_rfl)) ⟨0, hz4, rfl⟩ ?_
  rintro n4 s ⟨x2, hx4, rfl⟩
  have h := hI4 n4 x2 hx4
  refine awp_spine ?_
  refine awp_rc tab [9, 10, 11, 12] [] [] [] [] ⟨44, [(9, .d (.sl t_ref09_Row) a1), (10, vi (a1.length : Int)), (11, vi x2), (12, vb (decide (x2 < (a1.length : Int))))], []⟩ (by kernel_rfl) (trivial) ?_
  refine then_n (spine_c ?_)
  refine awp_spine ?_
  refine awp_cond (b := decide (x2 < (a1.length : Int))) (by kernel_rfl) (fun hb => ?_) (fun hb => ?_)
  · replace h := h.1 (of_decide_eq_true hb)
    refine awp_skip (then_n (spine_c ?_))
    refine awp_spine ?_
    refine awp_block ?_
    refine awp_spine ?_
    obtain ⟨o1, h⟩ := h
    refine awp_rc tab [5, 9, 10, 11] [] [] [] [(0 : Int) ≤ x2 ∧ x2 < (a1.length : Int)] ⟨44, [(5, .ref 0 0 0), (9, .d (.sl t_ref09_Row) a1), (10, vi (a1.length : Int)), (11, vi x2)], [.box [.d (.sl (.int .i64)) (((a1.getD (Int.toNat x2) d_ref09_Row).1).1), vi (((a1.getD (Int.toNat x2) d_ref09_Row).1).2), vb ((a1.getD (Int.toNat x2) d_ref09_Row).2.1), .d (.sl (.int .i64)) ((a1.getD (Int.toNat x2) d_ref09_Row).2.2)]]⟩ (by kernel_rfl) (AllP.of (o1) trivial) ?_
    refine then_n (spine_c ?_)
    refine awp_abs (fun (x5 : ref09_Row) => ⟨44, [(5, .ref 0 0 0), (9, .d (.sl t_ref09_Row) a1), (10, vi (a1.length : Int)), (11, vi x2)], [.box [.d (.sl (.int .i64)) x5.1.1, vi x5.1.2, vb x5.2.1, .d (.sl (.int .i64)) x5.2.2]]⟩) (a1.getD (Int.toNat x2) d_ref09_Row) ?_
    intro x5 hx5
    replace h := h x5 hx5
    refine awp_spine ?_
    refine awp_rc tab [5, 9, 10, 11, 18] [] [] [] [] ⟨44, [(5, .ref 0 0 0), (9, .d (.sl t_ref09_Row) a1), (10, vi (a1.length : Int)), (11, vi x2), (18, vb (decide (x5.1.2 < (0 : Int))))], [.box [.d (.sl (.int .i64)) x5.1.1, vi x5.1.2, vb x5.2.1, .d (.sl (.int .i64)) x5.2.2]]⟩ (by kernel_rfl) (trivial) ?_
    refine then_n (spine_c ?_)
    refine awp_cond (b := decide (x5.1.2 < (0 : Int))) (by kernel_rfl) (fun hb => ?_) (fun hb => ?_)
    · replace h := h.1 (of_decide_eq_true hb)
      refine awp_spine ?_
      refine awp_rc tab [2, 3] [] [] [] [] ⟨44, [(2, .d (.sl (.int .i64)) x5.2.2), (3, vb true)], [.box [.d (.sl (.int .i64)) x5.1.1, vi x5.1.2, vb x5.2.1, .d (.sl (.int .i64)) x5.2.2]]⟩ (by kernel_rfl) (trivial) ?_
      refine then_n (spine_c ?_)
      refine awp_ret (then_r (then_r (then_r (blk_r (then_r (then_r (then_r (then_r (blk_r (then_r (then_r (?_))))))))))))
      exact ret_r (m := 0) (r := .tup [.d (.sl (.int .i64)) ((x5.2.2, true).1), vb ((x5.2.2, true).2)]) (objs := []) hk [.keep [2, 3]] ⟨44, [(2, .d (.sl (.int .i64)) x5.2.2), (3, vb true)], [.box [.d (.sl (.int .i64)) x5.1.1, vi x5.1.2, vb x5.2.1, .d (.sl (.int .i64)) x5.2.2]]⟩ (by kernel_rfl) (by kernel_rfl) (Nat.le_refl 0) ⟨(x5.2.2, true), rfl, rfl, h⟩
    · replace h := h.2 (of_decide_eq_false hb)
      refine awp_skip (then_n (spine_c ?_))
      refine awp_spine ?_
      refine awp_rc tab [5, 9, 10, 11, 28] [] [] [] [x5.2.1 = true → x5.2.1 = true ∧ True, x5.2.1 = true → x5.2.1 = true ∧ True, x5.2.1 = true → x5.2.1 = true ∧ True, x5.2.1 = true → x5.2.1 = true] ⟨44, [(5, .ref 0 0 0), (9, .d (.sl t_ref09_Row) a1), (10, vi (a1.length : Int)), (11, vi x2), (28, vb (x5.2.1 && (decide (x5.1.2 > (0 : Int)))))], [.box [.d (.sl (.int .i64)) x5.1.1, vi x5.1.2, vb x5.2.1, .d (.sl (.int .i64)) x5.2.2]]⟩ (by kernel_rfl) (AllP.of (fun hg => ⟨hg, trivial⟩) (AllP.of (fun hg => ⟨hg, trivial⟩) (AllP.of (fun hg => ⟨hg, trivial⟩) (AllP.of (fun hc => hc) trivial)))) ?_
      refine then_n (spine_c ?_)
      refine awp_cond (b := x5.2.1 && (decide (x5.1.2 > (0 : Int)))) (by kernel_rfl) (fun hb => ?_) (fun hb => ?_)
      · replace h := h.1 (hb)
        refine awp_spine ?_
        refine awp_rc tab [5, 6] [] [] [] [] ⟨44, [(5, .ref 0 0 0), (6, .nils)], [.box [.d (.sl (.int .i64)) x5.1.1, vi x5.1.2, vb x5.2.1, .d (.sl (.int .i64)) x5.2.2]]⟩ (by kernel_rfl) (trivial) ?_
        refine then_n (spine_c ?_)
        refine awp_spine ?_
        refine awp_rc tab [6, 30, 31, 32] [] [] [] [] ⟨44, [(6, .nils), (30, .d (.sl (.int .i64)) x5.2.2), (31, vi (x5.2.2.length : Int)), (32, vi (0 : Int))], [.box [.d (.sl (.int .i64)) x5.1.1, vi x5.1.2, vb x5.2.1, .d (.sl (.int .i64)) x5.2.2]]⟩ (by kernel_rfl) (trivial) ?_
        refine then_n (spine_c ?_)
        refine awp_len 30 [] (T := (.int .i64)) (l := x5.2.2) (by kernel_rfl) fun hl => ?_
        replace h := h hl
        refine awp_block ?_
        obtain ⟨I12, ⟨n12a, hz12⟩, hI12⟩ := h
        refine awp_loopN (fun n s => ∃ (x8 : Int) (x9 : (List Int)), I12 n x8 x9 ∧ s = ⟨44, [(6, .osl 1 0), (30, .d (.sl (.int .i64)) x5.2.2), (31, vi (x5.2.2.length : Int)), (32, vi x8)], [.box [.d (.sl (.int .i64)) x5.1.1, vi x5.1.2, vb x5.2.1, .d (.sl (.int .i64)) x5.2.2], .row (.int .i64) x9 0]⟩) (n := n12a) (s0 := ⟨44, [(6, .osl 1 0), (30, .d (.sl (.int .i64)) x5.2.2), (31, vi (x5.2.2.length : Int)), (32, vi (0 : Int))], [.box [.d (.sl (.int .i64)) x5.1.1, vi x5.1.2, vb x5.2.1, .d (.sl (.int .i64)) x5.2.2], .row (.int .i64) ([] : List Int) 0]⟩) (wk_ghosts hk (l := [.keep [6, 30, 31, 32], .adopt 6 (.int .i64), .keep [6, 30, 31, 32], .keep [6, 30, 31, 32], .keep [6, 30, 31, 32]]) (by kernel_rfl)) ⟨0, ([] : List Int), hz12, rfl⟩ ?_
        rintro n12 s ⟨x8, x9, hx12, rfl⟩
        have h := hI12 n12 x8 x9 hx12
        refine awp_spine ?_
        refine awp_rc tab [6, 30, 31, 32, 33] [] [] [] [] ⟨44, [(6, .osl 1 0), (30, .d (.sl (.int .i64)) x5.2.2), (31, vi (x5.2.2.length : Int)), (32, vi x8), (33, vb (decide (x8 < (x5.2.2.length : Int))))], [.box [.d (.sl (.int .i64)) x5.1.1, vi x5.1.2, vb x5.2.1, .d (.sl (.int .i64)) x5.2.2], .row (.int .i64) x9 0]⟩ (by kernel_rfl) (trivial) ?_
        refine then_n (spine_c ?_)
        refine awp_spine ?_
        refine awp_cond (b := decide (x8 < (x5.2.2.length : Int))) (by kernel_rfl) (fun hb => ?_) (fun hb => ?_)
        · replace h := h.1 (of_decide_eq_true hb)
          refine awp_skip (then_n (spine_c ?_))
          refine awp_spine ?_
          refine awp_block ?_
          refine awp_spine ?_
          obtain ⟨o2, h⟩ := h
          refine awp_rc tab [6, 8, 30, 31, 32] [] [] [] [(0 : Int) ≤ x8 ∧ x8 < (x5.2.2.length : Int)] ⟨44, [(6, .osl 1 0), (8, vi (gI x5.2.2 x8)), (30, .d (.sl (.int .i64)) x5.2.2), (31, vi (x5.2.2.length : Int)), (32, vi x8)], [.box [.d (.sl (.int .i64)) x5.1.1, vi x5.1.2, vb x5.2.1, .d (.sl (.int .i64)) x5.2.2], .row (.int .i64) x9 0]⟩ (by kernel_rfl) (AllP.of (o2) trivial) ?_
          refine then_n (spine_c ?_)
          obtain ⟨o3, o4, h⟩ := h
          refine awp_rc tab [6, 30, 31, 32] [] [] [3] [-9223372036854775808 ≤ -(gI x5.2.2 x8) ∧ -(gI x5.2.2 x8) ≤ 9223372036854775807, 1 * 1 ≤ 16777216, (x9.length + [-(gI x5.2.2 x8)].length) * 8 ≤ 140737488355328 ∧ x9.length + [-(gI x5.2.2 x8)].length ≤ 9223372036854775807] ⟨44, [(6, .osl 1 1), (30, .d (.sl (.int .i64)) x5.2.2), (31, vi (x5.2.2.length : Int)), (32, vi x8)], [.box [.d (.sl (.int .i64)) x5.1.1, vi x5.1.2, vb x5.2.1, .d (.sl (.int .i64)) x5.2.2], .row (.int .i64) (x9 ++ [-(gI x5.2.2 x8)]) 1]⟩ (by kernel_rfl) (AllP.of (o3) (AllP.of (by decide) (AllP.of (o4) trivial))) ?_
          refine then_n (spine_e (blk_n (then_n (spine_c ?_))))
          obtain ⟨o5, h⟩ := h
          refine awp_rc tab [6, 30, 31, 32] [] [] [] [-9223372036854775808 ≤ x8 + (1 : Int) ∧ x8 + (1 : Int) ≤ 9223372036854775807] ⟨44, [(6, .osl 1 1), (30, .d (.sl (.int .i64)) x5.2.2), (31, vi (x5.2.2.length : Int)), (32, vi (x8 + (1 : Int)))], [.box [.d (.sl (.int .i64)) x5.1.1, vi x5.1.2, vb x5.2.1, .d (.sl (.int .i64)) x5.2.2], .row (.int .i64) (x9 ++ [-(gI x5.2.2 x8)]) 1]⟩ (by kernel_rfl) (AllP.of (o5) trivial) ?_
          refine then_n (spine_e (then_n (spine_e (then_n (spine_e (then_n (?_)))))))
          obtain ⟨m, hm, h⟩ := h
          exact ⟨m, hm, ⟨44, [(6, .osl 1 0), (30, .d (.sl (.int .i64)) x5.2.2), (31, vi (x5.2.2.length : Int)), (32, vi (x8 + (1 : Int)))], [.box [.d (.sl (.int .i64)) x5.1.1, vi x5.1.2, vb x5.2.1, .d (.sl (.int .i64)) x5.2.2], .row (.int .i64) (x9 ++ [-(gI x5.2.2 x8)]) 0]⟩, wk_ghosts hk (l := [.keep [6, 30, 31, 32], .keep [6, 30, 31, 32], .reset 1, .keep [6, 30, 31, 32]]) (by kernel_rfl), x8 + (1 : Int), x9 ++ [-(gI x5.2.2 x8)], h, rfl⟩
        · replace h := h.2 (of_decide_eq_false hb)
          refine awp_exit (then_x (then_x (then_x (blk_h (then_n (spine_c ?_))))))
          refine awp_spine ?_
          refine awp_rc tab [2, 3] [] [] [] [] ⟨44, [(2, .osl 1 0), (3, vb true)], [.box [.d (.sl (.int .i64)) x5.1.1, vi x5.1.2, vb x5.2.1, .d (.sl (.int .i64)) x5.2.2], .row (.int .i64) x9 0]⟩ (by kernel_rfl) (trivial) ?_
          refine then_n (spine_c ?_)
          refine awp_ret (then_r (then_r (then_r (then_r (then_r (then_r (blk_r (then_r (then_r (then_r (then_r (blk_r (then_r (then_r (?_)))))))))))))))
          exact ret_r (m := 0) (r := .tup [.d (.sl (.int .i64)) ((x9, true).1), vb ((x9, true).2)]) (objs := []) hk [.keep [2, 3], .freeze 1] ⟨44, [(2, .d (.sl (.int .i64)) x9), (3, vb true)], [.box [.d (.sl (.int .i64)) x5.1.1, vi x5.1.2, vb x5.2.1, .d (.sl (.int .i64)) x5.2.2], .dead]⟩ (by kernel_rfl) (by kernel_rfl) (Nat.le_refl 0) ⟨(x9, true), rfl, rfl, h⟩
      · replace h := h.2 (hb)
        refine awp_skip (then_n (spine_e (then_n (spine_e (then_n (spine_e (blk_n (then_n (spine_c ?_)))))))))
        obtain ⟨o6, h⟩ := h
        refine awp_rc tab [9, 10, 11] [] [] [] [-9223372036854775808 ≤ x2 + (1 : Int) ∧ x2 + (1 : Int) ≤ 9223372036854775807] ⟨44, [(9, .d (.sl t_ref09_Row) a1), (10, vi (a1.length : Int)), (11, vi (x2 + (1 : Int)))], [.box [.d (.sl (.int .i64)) x5.1.1, vi x5.1.2, vb x5.2.1, .d (.sl (.int .i64)) x5.2.2]]⟩ (by kernel_rfl) (AllP.of (o6) trivial) ?_
        refine then_n (spine_e (then_n (spine_e (then_n (spine_e (then_n (?_)))))))
        obtain ⟨m, hm, h⟩ := h
        exact ⟨m, hm, ⟨44, [(9, .d (.sl t_ref09_Row) a1), (10, vi (a1.length : Int)), (11, vi (x2 + (1 : Int)))], []⟩, wk_ghosts hk (l := [.keep [9, 10, 11], .keep [9, 10, 11], .cut 0, .keep [9, 10, 11]]) (by kernel_rfl), x2 + (1 : Int), h, rfl⟩
  · replace h := h.2 (of_decide_eq_false hb)
    refine awp_exit (then_x (then_x (then_x (blk_h (then_n (spine_c ?_))))))
    refine awp_spine ?_
    refine awp_rc tab [2, 3] [] [] [] [] ⟨44, [(2, .nils), (3, vb false)], []⟩ (by kernel_rfl) (trivial) ?_
    refine then_n (spine_c ?_)
    refine awp_ret (then_r (then_r (then_r (?_))))
    exact ret_r (m := 0) (r := .tup [.d (.sl (.int .i64)) ((([] : List Int), false).1), vb ((([] : List Int), false).2)]) (objs := []) hk [.keep [2, 3], .nilAt 2 [] (.int .i64), .keep [2, 3]] ⟨44, [(2, .d (.sl (.int .i64)) ([] : List Int)), (3, vb false)], []⟩ (by kernel_rfl) (by kernel_rfl) (Nat.le_refl 0) ⟨(([] : List Int), false), rfl, rfl, h⟩
theorem ok_ref09_refuted (a1 : (List ref09_Row)) (h : ref09_refuted.pre a1) : OkC prog 30 [.d (.sl t_ref09_Row) a1] (.tup [.d (.sl (.int .i64)) ((ref09_refuted.fn a1).1), vb ((ref09_refuted.fn a1).2)]) :=
  OkC.of call_ref09_refuted ((walk_ref09_refuted a1 _ (ref09_refuted.spec a1 h)).mono fun r o ⟨x, hr, ho, hx⟩ => ⟨by rw [hr, hx], ho⟩) rfl rfl (fun _ => rfl)

noncomputable abbrev Bref09_Row_numbers : Code := bodyOf Try.f83
theorem call_ref09_Row_numbers : CallOk prog 83 := ⟨_, Try.func83, by kernel_rfl, by kernel_rfl⟩
theorem walk_ref09_Row_numbers (a1 : ref09_Row) (Q : (List Int) → Prop) (h : ref09_Row_numbers.wp a1 Q) : VCalls prog 83 [.agg [.d (.sl (.int .i64)) a1.1.1, vi a1.1.2, vb a1.2.1, .d (.sl (.int .i64)) a1.2.2]] [] (fun r o => ∃ x, r = .d (.sl (.int .i64)) x ∧ o = [] ∧ Q x) := by
  refine vcalls_body tab Try.func83 (c := (spine (subC [0] Bref09_Row_numbers) [(spine (subC [1, 0] Bref09_Row_numbers) [.ret])])) (by kernel_rfl) (Nat.le_of_ble_eq_true (by kernel_rfl)) fun cx hd hi hk => ?_
  show AWp prog cx _ _ ⟨16, [(0, .agg [.d (.sl (.int .i64)) a1.1.1, vi a1.1.2, vb a1.2.1, .d (.sl (.int .i64)) a1.2.2])], []⟩
  replace hk : cx.E.len = 0 := hk
  unfold ref09_Row_numbers.wp at h
  refine awp_spine ?_
  refine awp_rc tab [1] [] [] [0] [] ⟨16, [(1, .er [.d (.sl (.int .i64)) a1.1.1, vi a1.1.2, vb a1.2.1, .d (.sl (.int .i64)) a1.2.2])], []⟩ (by kernel_rfl) (trivial) ?_
  refine then_n (spine_c ?_)
  refine awp_spine ?_
  obtain ⟨o1, o2, o3, h⟩ := h
  refine awp_dr tab mixed [2] [] [] [8] ⟨[[], [], [1], [1, 2], [0, 1, 2, 3], [], [5], [5, 6], [5, 6, 7], [0, 1, 2, 3, 4, 5, 6, 7, 8], [], [10], [0, 1, 2, 3, 4, 5, 6, 7, 8, 9, 10, 11], [0, 1, 2, 3, 4, 5, 6, 7, 8, 9, 10, 11, 12]], [.osl 0 0, .er [.d (.sl (.int .i64)) a1.1.1, vi a1.1.2, vb a1.2.1, .d (.sl (.int .i64)) a1.2.2], .er [.d (.sl (.int .i64)) a1.1.1, vi a1.1.2, vb a1.2.1, .d (.sl (.int .i64)) a1.2.2], .d (.sl (.int .i64)) a1.1.1, .osl 0 1, .er [.d (.sl (.int .i64)) a1.1.1, vi a1.1.2, vb a1.2.1, .d (.sl (.int .i64)) a1.2.2], .er [vi a1.1.2, vb a1.2.1, .d (.sl (.int .i64)) a1.2.2], vi a1.1.2, .d (.sl (.int .i64)) [a1.1.2], .osl 0 2, .er [.d (.sl (.int .i64)) a1.2.2], .d (.sl (.int .i64)) a1.2.2, .osl 0 3, .osl 0 3], [some (0 * 1 ≤ 16777216), none, none, none, some ((([] : List Int).length + a1.1.1.length) * 8 ≤ 140737488355328 ∧ ([] : List Int).length + a1.1.1.length ≤ 9223372036854775807), none, none, none, some (1 * 1 ≤ 16777216), some (((([] : List Int) ++ a1.1.1).length + [a1.1.2].length) * 8 ≤ 140737488355328 ∧ (([] : List Int) ++ a1.1.1).length + [a1.1.2].length ≤ 9223372036854775807), none, none, some ((((([] : List Int) ++ a1.1.1) ++ [a1.1.2]).length + a1.2.2.length) * 8 ≤ 140737488355328 ∧ ((([] : List Int) ++ a1.1.1) ++ [a1.1.2]).length + a1.2.2.length ≤ 9223372036854775807), none], [0, 4, 9, 12], [([], []), ([0], [.row (.int .i64) ([] : List Int) 0]), ([0, 4], [.row (.int .i64) (([] : List Int) ++ a1.1.1) 1]), ([0, 4, 9], [.row (.int .i64) ((([] : List Int) ++ a1.1.1) ++ [a1.1.2]) 2]), ([0, 4, 9, 12], [.row (.int .i64) (((([] : List Int) ++ a1.1.1) ++ [a1.1.2]) ++ a1.2.2) 3])]⟩ ⟨16, [(2, .osl 0 3)], [.row (.int .i64) (((([] : List Int) ++ a1.1.1) ++ [a1.1.2]) ++ a1.2.2) 3]⟩ (by kernel_rfl) (AllO.s (by decide) (AllO.n (AllO.n (AllO.n (AllO.s (o1) (AllO.n (AllO.n (AllO.n (AllO.s (by decide) (AllO.s (o2) (AllO.n (AllO.n (AllO.s (o3) (AllO.n (AllO.e))))))))))))))) ?_
  refine then_n (spine_c ?_)
  refine awp_abs (fun (x1 : (List Int)) => ⟨16, [(2, .osl 0 3)], [.row (.int .i64) x1 3]⟩) (((([] : List Int) ++ a1.1.1) ++ [a1.1.2]) ++ a1.2.2) ?_
  intro x1 hx1
  replace h := h x1 hx1
  refine awp_ret (then_r (then_r (?_)))
  exact ret_r (m := 0) (r := .d (.sl (.int .i64)) x1) (objs := []) hk [.keep [2], .freeze 0] ⟨16, [(2, .d (.sl (.int .i64)) x1)], [.dead]⟩ (by kernel_rfl) (by kernel_rfl) (Nat.le_refl 0) ⟨x1, rfl, rfl, h⟩
theorem ok_ref09_Row_numbers (a1 : ref09_Row) (h : ref09_Row_numbers.pre a1) : OkC prog 83 [.agg [.d (.sl (.int .i64)) a1.1.1, vi a1.1.2, vb a1.2.1, .d (.sl (.int .i64)) a1.2.2]] (.d (.sl (.int .i64)) (ref09_Row_numbers.fn a1)) :=
  OkC.of call_ref09_Row_numbers ((walk_ref09_Row_numbers a1 _ (ref09_Row_numbers.spec a1 h)).mono fun r o ⟨x, hr, ho, hx⟩ => ⟨by rw [hr, hx], ho⟩) rfl rfl (fun _ => rfl)

noncomputable abbrev Bref01_size : Code := bodyOf Try.f102
theorem call_ref01_size : CallOk prog 102 := ⟨_, Try.func102, by kernel_rfl, by kernel_rfl⟩
theorem walk_ref01_size (a1 : Int) (Q : Int → Prop) (h : ref01_size.wp a1 Q) : VCalls prog 102 [vi a1] [] (fun r o => ∃ x, r = .d (.int .u64) x ∧ o = [] ∧ Q x) := by
  refine vcalls_body tab Try.func102 (c := (spine (subC [0] Bref01_size) [(spine (subC [1, 0, 0] Bref01_size) [(.cond (.tmp 4) (spine (subC [1, 0, 1, 0, 0] Bref01_size) [.ret]) .skip), (spine (subC [1, 1, 0] Bref01_size) [.ret])])])) (by kernel_rfl) (Nat.le_of_ble_eq_true (by kernel_rfl)) fun cx hd hi hk => ?_
  show AWp prog cx _ _ ⟨10, [(0, vi a1)], []⟩
  replace hk : cx.E.len = 0 := hk
  unfold ref01_size.wp at h
  refine awp_spine ?_
  refine awp_rc tab [0] [] [] [] [] ⟨10, [(0, vi a1)], []⟩ (by kernel_rfl) (trivial) ?_
  refine then_n (spine_c ?_)
  refine awp_spine ?_
  refine awp_rc tab [0, 4] [] [] [] [] ⟨10, [(0, vi a1), (4, vb (decide (a1 < (0 : Int))))], []⟩ (by kernel_rfl) (trivial) ?_
  refine then_n (spine_c ?_)
  refine awp_cond (b := decide (a1 < (0 : Int))) (by kernel_rfl) (fun hb => ?_) (fun hb => ?_)
  · replace h := h.1 (of_decide_eq_true hb)
    refine awp_spine ?_
    refine awp_rc tab [2] [1, 2] [] [] [] ⟨10, [(2, .d (.int .u64) (IntKind.wrap .u64 (-(IntKind.wrap .u64 a1))))], []⟩ (by kernel_rfl) (trivial) ?_
    refine then_n (spine_c ?_)
    refine awp_abs (fun (x1 : Int) => ⟨10, [(2, .d (.int .u64) x1)], []⟩) (IntKind.wrap .u64 (-(IntKind.wrap .u64 a1))) ?_
    intro x1 hx1
    replace h := h x1 hx1
    refine awp_ret (then_r (then_r (then_r (?_))))
    exact ret_r (m := 0) (r := .d (.int .u64) x1) (objs := []) hk [.keep [2]] ⟨10, [(2, .d (.int .u64) x1)], []⟩ (by kernel_rfl) (by kernel_rfl) (Nat.le_refl 0) ⟨x1, rfl, rfl, h⟩
  · replace h := h.2 (of_decide_eq_false hb)
    refine awp_skip (then_n (spine_c ?_))
    refine awp_spine ?_
    refine awp_rc tab [2] [1] [] [] [] ⟨10, [(2, .d (.int .u64) (IntKind.wrap .u64 a1))], []⟩ (by kernel_rfl) (trivial) ?_
    refine then_n (spine_c ?_)
    refine awp_ret (then_r (then_r (then_r (?_))))
    exact ret_r (m := 0) (r := .d (.int .u64) (IntKind.wrap .u64 a1)) (objs := []) hk [.keep [2]] ⟨10, [(2, .d (.int .u64) (IntKind.wrap .u64 a1))], []⟩ (by kernel_rfl) (by kernel_rfl) (Nat.le_refl 0) ⟨IntKind.wrap .u64 a1, rfl, rfl, h⟩
theorem ok_ref01_size (a1 : Int) (h : ref01_size.pre a1) : OkC prog 102 [vi a1] (.d (.int .u64) (ref01_size.fn a1)) :=
  OkC.of call_ref01_size ((walk_ref01_size a1 _ (ref01_size.spec a1 h)).mono fun r o ⟨x, hr, ho, hx⟩ => ⟨by rw [hr, hx], ho⟩) rfl rfl (fun _ => rfl)

end Go.Proofs.Ytlncingakpelbaa
