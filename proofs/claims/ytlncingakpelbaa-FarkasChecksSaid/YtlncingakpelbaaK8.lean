/- Part of a proof that a law of the program holds for every input: printed by a program of this work. No conditions. -/
import Derived.Test.YtlncingakpelbaaK7
namespace Go.Proofs.Ytlncingakpelbaa
open Go
set_option linter.unusedVariables false
set_option maxHeartbeats 4000000

noncomputable abbrev Bref09_Of : Code := bodyOf Try.f35
theorem call_ref09_Of : CallOk prog 35 := ⟨_, Try.func35, by kernel_rfl, by kernel_rfl⟩
theorem walk_ref09_Of (a1 : Int) (Q : ref09_Int → Prop) (h : ref09_Of.wp a1 Q) : VCalls prog 35 [vi a1] [] (fun r o => ∃ x, r = .agg [vb x.1, .d (.sl (.int .i64)) x.2] ∧ o = [] ∧ Q x) := by
  refine vcalls_body tab Try.func35 (c := (spine (subC [0] Bref09_Of) [(spine (subC [1, 0] Bref09_Of) [(spine (subC [1, 1, 0] Bref09_Of) [(spine (subC [1, 1, 1, 0, 0] Bref09_Of) [(.cond (.tmp 11) (subC [1, 1, 1, 0, 1, 0] Bref09_Of) .skip), (spine (.block 0 (.loop (spine (subC [1, 1, 1, 1, 0, 0, 0, 0, 0] Bref09_Of) [(.cond (.tmp 15) .skip (.exit 0)), (spine (.block 1 (subC [1, 1, 1, 1, 0, 0, 0, 1, 0, 0] Bref09_Of)) [(subC [1, 1, 1, 1, 0, 0, 0, 1, 1] Bref09_Of)])]))) [(spine (subC [1, 1, 1, 1, 1, 0] Bref09_Of) [.ret])])])])])])) (by kernel_rfl) (Nat.le_of_ble_eq_true (by kernel_rfl)) fun cx hd hi hk => ?_
  show AWp prog cx _ _ ⟨27, [(0, vi a1)], []⟩
  replace hk : cx.E.len = 0 := hk
  unfold ref09_Of.wp at h
  refine awp_spine ?_
  refine awp_rc tab [0, 2] [] [] [] [] ⟨27, [(0, vi a1), (2, .ref 0 0 0)], [.box [vb false, .nils]]⟩ (by kernel_rfl) (trivial) ?_
  refine then_n (spine_c ?_)
  refine awp_spine ?_
  refine awp_rc tab [0, 2, 3] [] [] [] [] ⟨27, [(0, vi a1), (2, .ref 0 0 0), (3, .ref 1 0 0)], [.box [vb false, .nils], .box [vb (decide (a1 < (0 : Int))), .nils]]⟩ (by kernel_rfl) (trivial) ?_
  refine then_n (spine_c ?_)
  refine awp_spine ?_
  refine awp_rc tab [0, 2, 3, 4] [1] [] [] [] ⟨27, [(0, vi a1), (2, .ref 0 0 0), (3, .ref 1 0 0), (4, .d (.int .u64) (IntKind.wrap .u64 a1))], [.box [vb false, .nils], .box [vb (decide (a1 < (0 : Int))), .nils]]⟩ (by kernel_rfl) (trivial) ?_
  refine then_n (spine_c ?_)
  refine awp_spine ?_
  refine awp_rc tab [2, 3, 4, 11] [] [] [] [] ⟨27, [(2, .ref 0 0 0), (3, .ref 1 0 0), (4, .d (.int .u64) (IntKind.wrap .u64 a1)), (11, vb (decide (a1 < (0 : Int))))], [.box [vb false, .nils], .box [vb (decide (a1 < (0 : Int))), .nils]]⟩ (by kernel_rfl) (trivial) ?_
  refine then_n (spine_c ?_)
  obtain ⟨R2, hA2, hB2⟩ := h
  refine awp_meet (fun s' => ∃ (x1 : Int), R2 x1 ∧ Wk cx s' ⟨27, [(2, .ref 0 0 0), (3, .ref 1 0 0), (4, .d (.int .u64) x1)], [.box [vb false, .nils], .box [vb (decide (a1 < (0 : Int))), .nils]]⟩) ?_ ?_
  · have h := hA2
    refine awp_cond (b := decide (a1 < (0 : Int))) (by kernel_rfl) (fun hb => ?_) (fun hb => ?_)
    · replace h := h.1 (of_decide_eq_true hb)
      refine awp_rc tab [2, 3, 4] [1] [] [] [] ⟨27, [(2, .ref 0 0 0), (3, .ref 1 0 0), (4, .d (.int .u64) (IntKind.wrap .u64 (-(IntKind.wrap .u64 a1))))], [.box [vb false, .nils], .box [vb (decide (a1 < (0 : Int))), .nils]]⟩ (by kernel_rfl) (trivial) ?_
      refine then_n (?_)
      exact ⟨IntKind.wrap .u64 (-(IntKind.wrap .u64 a1)), h, wk_ghosts hk (l := [.keep [2, 3, 4], .keep [2, 3, 4], .keep [2, 3, 4]]) (by kernel_rfl)⟩
    · replace h := h.2 (of_decide_eq_false hb)
      refine awp_skip (then_n (?_))
      exact ⟨IntKind.wrap .u64 a1, h, wk_ghosts hk (l := [.keep [2, 3, 4], .keep [2, 3, 4], .keep [2, 3, 4]]) (by kernel_rfl)⟩
  · rintro s' ⟨x1, hx2, hw2⟩
    have h := hB2 x1 hx2
    refine spine_c (awp_wk hw2 ?_)
    refine awp_spine ?_
    refine awp_block ?_
    obtain ⟨I9, ⟨n9a, hz9⟩, hI9⟩ := h
    refine awp_loopN (fun n s => ∃ (x5 : Int) (x6 : (List Int)), I9 n x5 x6 ∧ s = ⟨27, [(2, .ref 0 0 0), (3, .ref 1 0 0), (4, .d (.int .u64) x5)], [.box [vb false, .nils], .box [vb (decide (a1 < (0 : Int))), .osl 2 0], .row (.int .i64) x6 0]⟩) (n := n9a) (s0 := ⟨27, [(2, .ref 0 0 0), (3, .ref 1 0 0), (4, .d (.int .u64) x1)], [.box [vb false, .nils], .box [vb (decide (a1 < (0 : Int))), .osl 2 0], .row (.int .i64) ([] : List Int) 0]⟩) (wk_ghosts hk (l := [.keep [2, 3, 4], .adoptBox 1 1 (.int .i64), .keep [2, 3, 4], .keep [2, 3, 4], .keep [2, 3, 4]]) (by kernel_rfl)) ⟨x1, ([] : List Int), hz9, rfl⟩ ?_
    rintro n9 s ⟨x5, x6, hx9, rfl⟩
    have h := hI9 n9 x5 x6 hx9
    refine awp_spine ?_
    refine awp_rc tab [2, 3, 4, 15] [1] [] [] [] ⟨27, [(2, .ref 0 0 0), (3, .ref 1 0 0), (4, .d (.int .u64) x5), (15, vb (decide (x5 > (0 : Int))))], [.box [vb false, .nils], .box [vb (decide (a1 < (0 : Int))), .osl 2 0], .row (.int .i64) x6 0]⟩ (by kernel_rfl) (trivial) ?_
    refine then_n (spine_c ?_)
    refine awp_cond (b := decide (x5 > (0 : Int))) (by kernel_rfl) (fun hb => ?_) (fun hb => ?_)
    · replace h := h.1 (of_decide_eq_true hb)
      refine awp_skip (then_n (spine_c ?_))
      refine awp_spine ?_
      refine awp_block ?_
      obtain ⟨o1, o2, h⟩ := h
      refine awp_rc tab [2, 3, 4] [3] [] [5] [-9223372036854775808 ≤ (IntKind.wrap .u64 ((BitVec.ofInt 64 x5 &&& BitVec.ofInt 64 (65535 : Int)).toNat : Int)) ∧ (IntKind.wrap .u64 ((BitVec.ofInt 64 x5 &&& BitVec.ofInt 64 (65535 : Int)).toNat : Int)) ≤ 9223372036854775807, 1 * 1 ≤ 16777216, (x6.length + [IntKind.wrap .u64 ((BitVec.ofInt 64 x5 &&& BitVec.ofInt 64 (65535 : Int)).toNat : Int)].length) * 8 ≤ 140737488355328 ∧ x6.length + [IntKind.wrap .u64 ((BitVec.ofInt 64 x5 &&& BitVec.ofInt 64 (65535 : Int)).toNat : Int)].length ≤ 9223372036854775807] ⟨27, [(2, .ref 0 0 0), (3, .ref 1 0 0), (4, .d (.int .u64) x5)], [.box [vb false, .nils], .box [vb (decide (a1 < (0 : Int))), .osl 2 1], .row (.int .i64) (x6 ++ [IntKind.wrap .u64 ((BitVec.ofInt 64 x5 &&& BitVec.ofInt 64 (65535 : Int)).toNat : Int)]) 1]⟩ (by kernel_rfl) (AllP.of (o1) (AllP.of (by decide) (AllP.of (o2) trivial))) ?_
      refine blk_n (then_n (spine_c ?_))
      refine awp_abs (fun (x10 : (List Int)) => ⟨27, [(2, .ref 0 0 0), (3, .ref 1 0 0), (4, .d (.int .u64) x5)], [.box [vb false, .nils], .box [vb (decide (a1 < (0 : Int))), .osl 2 1], .row (.int .i64) x10 1]⟩) (x6 ++ [IntKind.wrap .u64 ((BitVec.ofInt 64 x5 &&& BitVec.ofInt 64 (65535 : Int)).toNat : Int)]) ?_
      intro x10 hx10
      replace h := h x10 hx10
      obtain ⟨o3, h⟩ := h
      refine awp_rc tab [2, 3, 4] [1] [] [] [0 ≤ (16 : Int)] ⟨27, [(2, .ref 0 0 0), (3, .ref 1 0 0), (4, .d (.int .u64) (Int.fdiv x5 (2 ^ (min (Int.toNat (16 : Int)) 64))))], [.box [vb false, .nils], .box [vb (decide (a1 < (0 : Int))), .osl 2 1], .row (.int .i64) x10 1]⟩ (by kernel_rfl) (AllP.of (o3) trivial) ?_
      refine then_n (spine_e (then_n (spine_e (then_n (?_)))))
      obtain ⟨m, hm, h⟩ := h
      exact ⟨m, hm, ⟨27, [(2, .ref 0 0 0), (3, .ref 1 0 0), (4, .d (.int .u64) (Int.fdiv x5 (2 ^ (min (Int.toNat (16 : Int)) 64))))], [.box [vb false, .nils], .box [vb (decide (a1 < (0 : Int))), .osl 2 0], .row (.int .i64) x10 0]⟩, wk_ghosts hk (l := [.keep [2, 3, 4], .keep [2, 3, 4], .reset 2, .keep [2, 3, 4]]) (by kernel_rfl), Int.fdiv x5 (2 ^ (min (Int.toNat (16 : Int)) 64)), x10, h, rfl⟩
    · replace h := h.2 (of_decide_eq_false hb)
      refine awp_exit (then_x (then_x (blk_h (then_n (spine_c ?_)))))
      refine awp_spine ?_
      refine awp_rc tab [2] [] [] [] [] ⟨27, [(2, .ref 0 0 0)], [.box [vb (decide (a1 < (0 : Int))), .osl 2 0], .box [vb (decide (a1 < (0 : Int))), .osl 2 0], .row (.int .i64) x6 0]⟩ (by kernel_rfl) (trivial) ?_
      refine then_n (spine_c ?_)
      refine awp_ret (then_r (then_r (then_r (then_r (then_r (then_r (?_)))))))
      exact ret_r (m := 0) (r := .agg [vb ((decide (a1 < (0 : Int)), x6).1), .d (.sl (.int .i64)) ((decide (a1 < (0 : Int)), x6).2)]) (objs := []) hk [.keep [2], .freeze 2] ⟨27, [(2, .ref 0 0 0)], [.box [vb (decide (a1 < (0 : Int))), .d (.sl (.int .i64)) x6], .box [vb (decide (a1 < (0 : Int))), .d (.sl (.int .i64)) x6], .dead]⟩ (by kernel_rfl) (by kernel_rfl) (Nat.le_refl 0) ⟨(decide (a1 < (0 : Int)), x6), rfl, rfl, h⟩
theorem ok_ref09_Of (a1 : Int) (h : ref09_Of.pre a1) : OkC prog 35 [vi a1] (.agg [vb ((ref09_Of.fn a1).1), .d (.sl (.int .i64)) ((ref09_Of.fn a1).2)]) :=
  OkC.of call_ref09_Of ((walk_ref09_Of a1 _ (ref09_Of.spec a1 h)).mono fun r o ⟨x, hr, ho, hx⟩ => ⟨by rw [hr, hx], ho⟩) rfl rfl (fun _ => rfl)

noncomputable abbrev Bref01_Fits : Code := bodyOf Try.f70
theorem call_ref01_Fits : CallOk prog 70 := ⟨_, Try.func70, by kernel_rfl, by kernel_rfl⟩
theorem walk_ref01_Fits (a1 : Int) (Q : Bool → Prop) (h : ref01_Fits.wp a1 Q) : VCalls prog 70 [vi a1] [] (fun r o => ∃ x, r = vb x ∧ o = [] ∧ Q x) := by
  refine vcalls_body tab Try.func70 (c := (spine (subC [0] Bref01_Fits) [(spine (subC [1, 0] Bref01_Fits) [.ret])])) (by kernel_rfl) (Nat.le_of_ble_eq_true (by kernel_rfl)) fun cx hd hi hk => ?_
  show AWp prog cx _ _ ⟨9, [(0, vi a1)], []⟩
  replace hk : cx.E.len = 0 := hk
  unfold ref01_Fits.wp at h
  refine awp_spine ?_
  refine awp_rc tab [0] [] [] [] [] ⟨9, [(0, vi a1)], []⟩ (by kernel_rfl) (trivial) ?_
  refine then_n (spine_c ?_)
  refine awp_spine ?_
  refine awp_rc tab [2] [] [] [] [(decide (a1 ≥ (-1048576))) = true → (decide (a1 ≥ (-1048576))) = true ∧ True, (decide (a1 ≥ (-1048576))) = true → (decide (a1 ≥ (-1048576))) = true] ⟨9, [(2, vb ((decide (a1 ≥ (-1048576))) && (decide (a1 ≤ (1048576 : Int)))))], []⟩ (by kernel_rfl) (AllP.of (fun hg => ⟨hg, trivial⟩) (AllP.of (fun hc => hc) trivial)) ?_
  refine then_n (spine_c ?_)
  refine awp_ret (then_r (then_r (?_)))
  exact ret_r (m := 0) (r := vb ((decide (a1 ≥ (-1048576))) && (decide (a1 ≤ (1048576 : Int))))) (objs := []) hk [.keep [2]] ⟨9, [(2, vb ((decide (a1 ≥ (-1048576))) && (decide (a1 ≤ (1048576 : Int)))))], []⟩ (by kernel_rfl) (by kernel_rfl) (Nat.le_refl 0) ⟨(decide (a1 ≥ (-1048576))) && (decide (a1 ≤ (1048576 : Int))), rfl, rfl, h⟩
theorem ok_ref01_Fits (a1 : Int) : OkC prog 70 [vi a1] (vb (ref01_Fits.fn a1)) :=
  OkC.of call_ref01_Fits ((walk_ref01_Fits a1 _ (ref01_Fits.spec a1)).mono fun r o ⟨x, hr, ho, hx⟩ => ⟨by rw [hr, hx], ho⟩) rfl rfl (fun _ => rfl)

noncomputable abbrev Bref02_Valid : Code := bodyOf Try.f41
theorem call_ref02_Valid : CallOk prog 41 := ⟨_, Try.func41, by kernel_rfl, by kernel_rfl⟩
theorem walk_ref02_Valid (a1 : api_Lin) (Q : Bool → Prop) (h : ref02_Valid.wp a1 Q) : VCalls prog 41 [.agg [.d (.sl (.int .i64)) a1.1, vi a1.2]] [] (fun r o => ∃ x, r = vb x ∧ o = [] ∧ Q x) := by
  refine vcalls_body tab Try.func41 (c := (spine (subC [0] Bref02_Valid) [(spine (subC [1, 0, 0] Bref02_Valid) [(.block 0 (.loop (spine (subC [1, 0, 1, 0, 0, 0] Bref02_Valid) [(spine (.cond (.tmp 9) .skip (.exit 0)) [(spine (.block 1 (spine (subC [1, 0, 1, 0, 0, 1, 1, 0, 0, 0] Bref02_Valid) [(spine (subC [1, 0, 1, 0, 0, 1, 1, 0, 0, 1, 0] Bref02_Valid) [(.cond (.tmp 14) (spine (subC [1, 0, 1, 0, 0, 1, 1, 0, 0, 1, 1, 0, 0] Bref02_Valid) [.ret]) .skip)])])) [(subC [1, 0, 1, 0, 0, 1, 1, 1] Bref02_Valid)])])]))), (spine (subC [1, 1, 0] Bref02_Valid) [.ret])])])) (by kernel_rfl) (Nat.le_of_ble_eq_true (by kernel_rfl)) fun cx hd hi hk => ?_
  show AWp prog cx _ _ ⟨25, [(0, .agg [.d (.sl (.int .i64)) a1.1, vi a1.2])], []⟩
  replace hk : cx.E.len = 0 := hk
  unfold ref02_Valid.wp at h
  refine awp_spine ?_
  refine awp_rc tab [1] [] [] [0] [] ⟨25, [(1, .er [.d (.sl (.int .i64)) a1.1, vi a1.2])], []⟩ (by kernel_rfl) (trivial) ?_
  refine then_n (spine_c ?_)
  refine awp_spine ?_
  refine awp_rc tab [1, 6, 7, 8] [] [] [] [] ⟨25, [(1, .er [.d (.sl (.int .i64)) a1.1, vi a1.2]), (6, .d (.sl (.int .i64)) a1.1), (7, vi (a1.1.length : Int)), (8, vi (0 : Int))], []⟩ (by kernel_rfl) (trivial) ?_
  refine then_n (spine_c ?_)
  refine awp_len 1 [0] (T := (.int .i64)) (l := a1.1) (by kernel_rfl) fun hl => ?_
  replace h := h hl
  refine awp_block ?_
  obtain ⟨I4, ⟨n4a, hz4⟩, hI4⟩ := h
  refine awp_loopN (fun n s => ∃ (x2 : Int), I4 n x2 ∧ s = ⟨25, [(1, .er [.d (.sl (.int .i64)) a1.1, vi a1.2]), (6, .d (.sl (.int .i64)) a1.1), (7, vi (a1.1.length : Int)), (8, vi x2)], []⟩) (n := n4a) (s0 := ⟨25, [(1, .er [.d (.sl (.int .i64)) a1.1, vi a1.2]), (6, .d (.sl (.int .i64)) a1.1), (7, vi (a1.1.length : Int)), (8, vi (0 : Int))], []⟩) (wk_ghosts hk (l := [.keep [1, 6, 7, 8], .keep [1, 6, 7, 8], .keep [1, 6, 7, 8], .keep [1, 6, 7, 8]]) (by kernel_rfl)) ⟨0, hz4, rfl⟩ ?_
  rintro n4 s ⟨x2, hx4, rfl⟩
  have h := hI4 n4 x2 hx4
  refine awp_spine ?_
  refine awp_rc tab [1, 6, 7, 8, 9] [] [] [] [] ⟨25, [(1, .er [.d (.sl (.int .i64)) a1.1, vi a1.2]), (6, .d (.sl (.int .i64)) a1.1), (7, vi (a1.1.length : Int)), (8, vi x2), (9, vb (decide (x2 < (a1.1.length : Int))))], []⟩ (by kernel_rfl) (trivial) ?_
  refine then_n (spine_c ?_)
  refine awp_spine ?_
  refine awp_cond (b := decide (x2 < (a1.1.length : Int))) (by kernel_rfl) (fun hb => ?_) (fun hb => ?_)
  · replace h := h.1 (of_decide_eq_true hb)
    refine awp_skip (then_n (spine_c ?_))
    refine awp_spine ?_
    refine awp_block ?_
    refine awp_spine ?_
    obtain ⟨o1, h⟩ := h
    refine awp_rc tab [1, 4, 6, 7, 8] [] [] [] [(0 : Int) ≤ x2 ∧ x2 < (a1.1.length : Int)] ⟨25, [(1, .er [.d (.sl (.int .i64)) a1.1, vi a1.2]), (4, vi (gI a1.1 x2)), (6, .d (.sl (.int .i64)) a1.1), (7, vi (a1.1.length : Int)), (8, vi x2)], []⟩ (by kernel_rfl) (AllP.of (o1) trivial) ?_
    refine then_n (spine_c ?_)
    refine awp_spine ?_
    refine awp_rc tab [1, 6, 7, 8, 14] [] [(1, .dat (vb (ref01_Fits.fn (gI a1.1 x2))))] [] [OkC prog 70 [vi (gI a1.1 x2)] (vb (ref01_Fits.fn (gI a1.1 x2)))] ⟨25, [(1, .er [.d (.sl (.int .i64)) a1.1, vi a1.2]), (6, .d (.sl (.int .i64)) a1.1), (7, vi (a1.1.length : Int)), (8, vi x2), (14, vb (!(ref01_Fits.fn (gI a1.1 x2))))], []⟩ (by kernel_rfl) (AllP.of (ok_ref01_Fits (gI a1.1 x2)) trivial) ?_
    refine then_n (spine_c ?_)
    refine awp_cond (b := !(ref01_Fits.fn (gI a1.1 x2))) (by kernel_rfl) (fun hb => ?_) (fun hb => ?_)
    · replace h := h.1 ((nt hb))
      refine awp_spine ?_
      refine awp_rc tab [2] [] [] [] [] ⟨25, [(2, vb false)], []⟩ (by kernel_rfl) (trivial) ?_
      refine then_n (spine_c ?_)
      refine awp_ret (then_r (then_r (then_r (blk_r (then_r (then_r (then_r (then_r (blk_r (then_r (then_r (?_))))))))))))
      exact ret_r (m := 0) (r := vb false) (objs := []) hk [.keep [2]] ⟨25, [(2, vb false)], []⟩ (by kernel_rfl) (by kernel_rfl) (Nat.le_refl 0) ⟨false, rfl, rfl, h⟩
    · replace h := h.2 ((nf hb))
      refine awp_skip (then_n (spine_e (then_n (spine_e (blk_n (then_n (spine_c ?_)))))))
      obtain ⟨o2, h⟩ := h
      refine awp_rc tab [1, 6, 7, 8] [] [] [] [-9223372036854775808 ≤ x2 + (1 : Int) ∧ x2 + (1 : Int) ≤ 9223372036854775807] ⟨25, [(1, .er [.d (.sl (.int .i64)) a1.1, vi a1.2]), (6, .d (.sl (.int .i64)) a1.1), (7, vi (a1.1.length : Int)), (8, vi (x2 + (1 : Int)))], []⟩ (by kernel_rfl) (AllP.of (o2) trivial) ?_
      refine then_n (spine_e (then_n (spine_e (then_n (spine_e (then_n (?_)))))))
      obtain ⟨m, hm, h⟩ := h
      exact ⟨m, hm, ⟨25, [(1, .er [.d (.sl (.int .i64)) a1.1, vi a1.2]), (6, .d (.sl (.int .i64)) a1.1), (7, vi (a1.1.length : Int)), (8, vi (x2 + (1 : Int)))], []⟩, wk_ghosts hk (l := [.keep [1, 6, 7, 8], .keep [1, 6, 7, 8], .keep [1, 6, 7, 8]]) (by kernel_rfl), x2 + (1 : Int), h, rfl⟩
  · replace h := h.2 (of_decide_eq_false hb)
    refine awp_exit (then_x (then_x (then_x (blk_h (then_n (spine_c ?_))))))
    refine awp_spine ?_
    refine awp_rc tab [2] [] [(7, .dat (vb (ref01_Fits.fn a1.2)))] [] [(decide ((a1.1.length : Int) ≤ (12 : Int))) = true → (decide ((a1.1.length : Int) ≤ (12 : Int))) = true ∧ True, (decide ((a1.1.length : Int) ≤ (12 : Int))) = true → (decide ((a1.1.length : Int) ≤ (12 : Int))) = true ∧ (OkC prog 70 [vi a1.2] (vb (ref01_Fits.fn a1.2))), (decide ((a1.1.length : Int) ≤ (12 : Int))) = true → (decide ((a1.1.length : Int) ≤ (12 : Int))) = true] ⟨25, [(2, vb ((decide ((a1.1.length : Int) ≤ (12 : Int))) && (ref01_Fits.fn a1.2)))], []⟩ (by kernel_rfl) (AllP.of (fun hg => ⟨hg, trivial⟩) (AllP.of (fun hg => ⟨hg, ok_ref01_Fits a1.2⟩) (AllP.of (fun hc => hc) trivial))) ?_
    refine then_n (spine_c ?_)
    refine awp_ret (then_r (then_r (then_r (?_))))
    exact ret_r (m := 0) (r := vb ((decide ((a1.1.length : Int) ≤ (12 : Int))) && (ref01_Fits.fn a1.2))) (objs := []) hk [.keep [2]] ⟨25, [(2, vb ((decide ((a1.1.length : Int) ≤ (12 : Int))) && (ref01_Fits.fn a1.2)))], []⟩ (by kernel_rfl) (by kernel_rfl) (Nat.le_refl 0) ⟨(decide ((a1.1.length : Int) ≤ (12 : Int))) && (ref01_Fits.fn a1.2), rfl, rfl, h⟩
theorem ok_ref02_Valid (a1 : api_Lin) : OkC prog 41 [.agg [.d (.sl (.int .i64)) a1.1, vi a1.2]] (vb (ref02_Valid.fn a1)) :=
  OkC.of call_ref02_Valid ((walk_ref02_Valid a1 _ (ref02_Valid.spec a1)).mono fun r o ⟨x, hr, ho, hx⟩ => ⟨by rw [hr, hx], ho⟩) rfl rfl (fun _ => rfl)

noncomputable abbrev Bref03_Valid : Code := bodyOf Try.f16
theorem call_ref03_Valid : CallOk prog 16 := ⟨_, Try.func16, by kernel_rfl, by kernel_rfl⟩
theorem walk_ref03_Valid (a1 : api_Cond) (Q : Bool → Prop) (h : ref03_Valid.wp a1 Q) : VCalls prog 16 [.agg [vi a1.1, vi a1.2.1, .d (.sl (.int .i64)) a1.2.2.1, vi a1.2.2.2]] [] (fun r o => ∃ x, r = vb x ∧ o = [] ∧ Q x) := by
  refine vcalls_body tab Try.func16 (c := (spine (subC [0] Bref03_Valid) [(spine (subC [1, 0, 0] Bref03_Valid) [(.cond (.tmp 6) (spine (subC [1, 0, 1, 0, 0] Bref03_Valid) [.ret]) .skip), (spine (subC [1, 1, 0, 0] Bref03_Valid) [(.cond (.tmp 9) (spine (subC [1, 1, 0, 1, 0, 0] Bref03_Valid) [.ret]) .skip), (spine (subC [1, 1, 1, 0] Bref03_Valid) [.ret])])])])) (by kernel_rfl) (Nat.le_of_ble_eq_true (by kernel_rfl)) fun cx hd hi hk => ?_
  show AWp prog cx _ _ ⟨31, [(0, .agg [vi a1.1, vi a1.2.1, .d (.sl (.int .i64)) a1.2.2.1, vi a1.2.2.2])], []⟩
  replace hk : cx.E.len = 0 := hk
  unfold ref03_Valid.wp at h
  refine awp_spine ?_
  refine awp_rc tab [1] [] [] [0] [] ⟨31, [(1, .er [vi a1.1, vi a1.2.1, .d (.sl (.int .i64)) a1.2.2.1, vi a1.2.2.2])], []⟩ (by kernel_rfl) (trivial) ?_
  refine then_n (spine_c ?_)
  refine awp_spine ?_
  refine awp_rc tab [1, 6] [] [(2, .dat (vb (ref02_Valid.fn a1.2.2)))] [] [OkC prog 41 [.agg [.d (.sl (.int .i64)) a1.2.2.1, vi a1.2.2.2]] (vb (ref02_Valid.fn a1.2.2))] ⟨31, [(1, .er [vi a1.1, vi a1.2.1, .d (.sl (.int .i64)) a1.2.2.1, vi a1.2.2.2]), (6, vb (!(ref02_Valid.fn a1.2.2)))], []⟩ (by kernel_rfl) (AllP.of (ok_ref02_Valid a1.2.2) trivial) ?_
  refine then_n (spine_c ?_)
  refine awp_cond (b := !(ref02_Valid.fn a1.2.2)) (by kernel_rfl) (fun hb => ?_) (fun hb => ?_)
  · replace h := h.1 ((nt hb))
    refine awp_spine ?_
    refine awp_rc tab [2] [] [] [] [] ⟨31, [(2, vb false)], []⟩ (by kernel_rfl) (trivial) ?_
    refine then_n (spine_c ?_)
    refine awp_ret (then_r (then_r (then_r (?_))))
    exact ret_r (m := 0) (r := vb false) (objs := []) hk [.keep [2]] ⟨31, [(2, vb false)], []⟩ (by kernel_rfl) (by kernel_rfl) (Nat.le_refl 0) ⟨false, rfl, rfl, h⟩
  · replace h := h.2 ((nf hb))
    refine awp_skip (then_n (spine_c ?_))
    refine awp_spine ?_
    refine awp_rc tab [1, 9] [] [] [] [] ⟨31, [(1, .er [vi a1.1, vi a1.2.1, .d (.sl (.int .i64)) a1.2.2.1, vi a1.2.2.2]), (9, vb (a1.1 == (2 : Int)))], []⟩ (by kernel_rfl) (trivial) ?_
    refine then_n (spine_c ?_)
    refine awp_cond (b := a1.1 == (2 : Int)) (by kernel_rfl) (fun hb => ?_) (fun hb => ?_)
    · replace h := h.1 (eq_of_beq hb)
      refine awp_spine ?_
      refine awp_rc tab [2] [] [] [] [(decide (a1.2.1 ≥ (1 : Int))) = true → (decide (a1.2.1 ≥ (1 : Int))) = true ∧ True, (decide (a1.2.1 ≥ (1 : Int))) = true → (decide (a1.2.1 ≥ (1 : Int))) = true ∧ True, (decide (a1.2.1 ≥ (1 : Int))) = true → (decide (a1.2.1 ≥ (1 : Int))) = true] ⟨31, [(2, vb ((decide (a1.2.1 ≥ (1 : Int))) && (decide (a1.2.1 ≤ (512 : Int)))))], []⟩ (by kernel_rfl) (AllP.of (fun hg => ⟨hg, trivial⟩) (AllP.of (fun hg => ⟨hg, trivial⟩) (AllP.of (fun hc => hc) trivial))) ?_
      refine then_n (spine_c ?_)
      refine awp_ret (then_r (then_r (then_r (then_r (?_)))))
      exact ret_r (m := 0) (r := vb ((decide (a1.2.1 ≥ (1 : Int))) && (decide (a1.2.1 ≤ (512 : Int))))) (objs := []) hk [.keep [2]] ⟨31, [(2, vb ((decide (a1.2.1 ≥ (1 : Int))) && (decide (a1.2.1 ≤ (512 : Int)))))], []⟩ (by kernel_rfl) (by kernel_rfl) (Nat.le_refl 0) ⟨(decide (a1.2.1 ≥ (1 : Int))) && (decide (a1.2.1 ≤ (512 : Int))), rfl, rfl, h⟩
    · replace h := h.2 (ne_of_beq_false hb)
      refine awp_skip (then_n (spine_c ?_))
      refine awp_spine ?_
      refine awp_rc tab [2] [] [] [] [(!(a1.1 == (0 : Int))) = true → (!(a1.1 == (0 : Int))) = true ∧ True, (!(a1.1 == (0 : Int))) = true → (!(a1.1 == (0 : Int))) = true ∧ True, (a1.1 == (0 : Int)) = false → (!(a1.1 == (0 : Int))) = true, ((a1.1 == (0 : Int)) || (a1.1 == (1 : Int))) = true → ((a1.1 == (0 : Int)) || (a1.1 == (1 : Int))) = true ∧ True, ((a1.1 == (0 : Int)) || (a1.1 == (1 : Int))) = true → ((a1.1 == (0 : Int)) || (a1.1 == (1 : Int))) = true ∧ True, ((a1.1 == (0 : Int)) || (a1.1 == (1 : Int))) = true → ((a1.1 == (0 : Int)) || (a1.1 == (1 : Int))) = true] ⟨31, [(2, vb (((a1.1 == (0 : Int)) || (a1.1 == (1 : Int))) && (a1.2.1 == (0 : Int))))], []⟩ (by kernel_rfl) (AllP.of (fun hg => ⟨hg, trivial⟩) (AllP.of (fun hg => ⟨hg, trivial⟩) (AllP.of (fun hc => not_f hc) (AllP.of (fun hg => ⟨hg, trivial⟩) (AllP.of (fun hg => ⟨hg, trivial⟩) (AllP.of (fun hc => hc) trivial)))))) ?_
      refine then_n (spine_c ?_)
      refine awp_ret (then_r (then_r (then_r (then_r (?_)))))
      exact ret_r (m := 0) (r := vb (((a1.1 == (0 : Int)) || (a1.1 == (1 : Int))) && (a1.2.1 == (0 : Int)))) (objs := []) hk [.keep [2]] ⟨31, [(2, vb (((a1.1 == (0 : Int)) || (a1.1 == (1 : Int))) && (a1.2.1 == (0 : Int))))], []⟩ (by kernel_rfl) (by kernel_rfl) (Nat.le_refl 0) ⟨((a1.1 == (0 : Int)) || (a1.1 == (1 : Int))) && (a1.2.1 == (0 : Int)), rfl, rfl, h⟩
theorem ok_ref03_Valid (a1 : api_Cond) : OkC prog 16 [.agg [vi a1.1, vi a1.2.1, .d (.sl (.int .i64)) a1.2.2.1, vi a1.2.2.2]] (vb (ref03_Valid.fn a1)) :=
  OkC.of call_ref03_Valid ((walk_ref03_Valid a1 _ (ref03_Valid.spec a1)).mono fun r o ⟨x, hr, ho, hx⟩ => ⟨by rw [hr, hx], ho⟩) rfl rfl (fun _ => rfl)

noncomputable abbrev Bref09_asked : Code := bodyOf Try.f28
theorem call_ref09_asked : CallOk prog 28 := ⟨_, Try.func28, by kernel_rfl, by kernel_rfl⟩
theorem walk_ref09_asked (a1 : (List api_Cond)) (a2 : Int) (Q : Int → Prop) (h : ref09_asked.wp a1 a2 Q) : VCalls prog 28 [.d (.sl t_api_Cond) a1, vi a2] [] (fun r o => ∃ x, r = vi x ∧ o = [] ∧ Q x) := by
  refine vcalls_body tab Try.func28 (c := (spine (subC [0] Bref09_asked) [(spine (subC [1, 0, 0] Bref09_asked) [(.cond (.tmp 13) (spine (subC [1, 0, 1, 0, 0] Bref09_asked) [.ret]) .skip), (spine (subC [1, 1, 0, 0] Bref09_asked) [(.cond (.tmp 16) (spine (subC [1, 1, 0, 1, 0, 0] Bref09_asked) [.ret]) .skip), (spine (subC [1, 1, 1, 0] Bref09_asked) [(spine (subC [1, 1, 1, 1, 0, 0] Bref09_asked) [(.block 0 (.loop (spine (subC [1, 1, 1, 1, 0, 1, 0, 0, 0] Bref09_asked) [(spine (.cond (.tmp 20) .skip (.exit 0)) [(spine (.block 1 (spine (subC [1, 1, 1, 1, 0, 1, 0, 0, 1, 1, 0, 0, 0] Bref09_asked) [(spine (subC [1, 1, 1, 1, 0, 1, 0, 0, 1, 1, 0, 0, 1, 0, 0] Bref09_asked) [(.cond (.tmp 25) (spine (subC [1, 1, 1, 1, 0, 1, 0, 0, 1, 1, 0, 0, 1, 0, 1, 0, 0] Bref09_asked) [.ret]) .skip), (spine (subC [1, 1, 1, 1, 0, 1, 0, 0, 1, 1, 0, 0, 1, 1, 0] Bref09_asked) [(.cond (.tmp 31) (subC [1, 1, 1, 1, 0, 1, 0, 0, 1, 1, 0, 0, 1, 1, 1, 0] Bref09_asked) .skip)])])])) [(subC [1, 1, 1, 1, 0, 1, 0, 0, 1, 1, 1] Bref09_asked)])])]))), (spine (subC [1, 1, 1, 1, 1, 0] Bref09_asked) [.ret])])])])])])) (by kernel_rfl) (Nat.le_of_ble_eq_true (by kernel_rfl)) fun cx hd hi hk => ?_
  show AWp prog cx _ _ ⟨34, [(0, .d (.sl t_api_Cond) a1), (1, vi a2)], []⟩
  replace hk : cx.E.len = 0 := hk
  unfold ref09_asked.wp at h
  refine awp_spine ?_
  refine awp_rc tab [0, 1] [] [] [] [] ⟨34, [(0, .d (.sl t_api_Cond) a1), (1, vi a2)], []⟩ (by kernel_rfl) (trivial) ?_
  refine then_n (spine_c ?_)
  refine awp_spine ?_
  refine awp_rc tab [0, 1, 13] [] [] [] [(!(decide (a2 < (0 : Int)))) = true → (!(decide (a2 < (0 : Int)))) = true ∧ True, (decide (a2 < (0 : Int))) = false → (!(decide (a2 < (0 : Int)))) = true] ⟨34, [(0, .d (.sl t_api_Cond) a1), (1, vi a2), (13, vb ((decide (a2 < (0 : Int))) || (decide (a2 > (12 : Int)))))], []⟩ (by kernel_rfl) (AllP.of (fun hg => ⟨hg, trivial⟩) (AllP.of (fun hc => not_f hc) trivial)) ?_
  refine then_n (spine_c ?_)
  refine awp_cond (b := (decide (a2 < (0 : Int))) || (decide (a2 > (12 : Int)))) (by kernel_rfl) (fun hb => ?_) (fun hb => ?_)
  · replace h := h.1 (hb)
    refine awp_spine ?_
    refine awp_rc tab [4] [] [] [] [] ⟨34, [(4, vi (6 : Int))], []⟩ (by kernel_rfl) (trivial) ?_
    refine then_n (spine_c ?_)
    refine awp_ret (then_r (then_r (then_r (?_))))
    exact ret_r (m := 0) (r := vi (6 : Int)) (objs := []) hk [.keep [4]] ⟨34, [(4, vi (6 : Int))], []⟩ (by kernel_rfl) (by kernel_rfl) (Nat.le_refl 0) ⟨6, rfl, rfl, h⟩
  · replace h := h.2 (hb)
    refine awp_skip (then_n (spine_c ?_))
    refine awp_spine ?_
    refine awp_rc tab [0, 1, 16] [] [] [] [] ⟨34, [(0, .d (.sl t_api_Cond) a1), (1, vi a2), (16, vb (decide ((a1.length : Int) > (96 : Int))))], []⟩ (by kernel_rfl) (trivial) ?_
    refine then_n (spine_c ?_)
    refine awp_len 0 [] (T := t_api_Cond) (l := a1) (by kernel_rfl) fun hl => ?_
    replace h := h hl
    refine awp_cond (b := decide ((a1.length : Int) > (96 : Int))) (by kernel_rfl) (fun hb => ?_) (fun hb => ?_)
    · replace h := h.1 (of_decide_eq_true hb)
      refine awp_spine ?_
      refine awp_rc tab [4] [] [] [] [] ⟨34, [(4, vi (3 : Int))], []⟩ (by kernel_rfl) (trivial) ?_
      refine then_n (spine_c ?_)
      refine awp_ret (then_r (then_r (then_r (then_r (?_)))))
      exact ret_r (m := 0) (r := vi (3 : Int)) (objs := []) hk [.keep [4]] ⟨34, [(4, vi (3 : Int))], []⟩ (by kernel_rfl) (by kernel_rfl) (Nat.le_refl 0) ⟨3, rfl, rfl, h⟩
    · replace h := h.2 (of_decide_eq_false hb)
      refine awp_skip (then_n (spine_c ?_))
      refine awp_spine ?_
      refine awp_rc tab [0, 1, 5] [] [] [] [] ⟨34, [(0, .d (.sl t_api_Cond) a1), (1, vi a2), (5, vi (0 : Int))], []⟩ (by kernel_rfl) (trivial) ?_
      refine then_n (spine_c ?_)
      refine awp_spine ?_
      refine awp_rc tab [1, 5, 17, 18, 19] [] [] [] [] ⟨34, [(1, vi a2), (5, vi (0 : Int)), (17, .d (.sl t_api_Cond) a1), (18, vi (a1.length : Int)), (19, vi (0 : Int))], []⟩ (by kernel_rfl) (trivial) ?_
      refine then_n (spine_c ?_)
      refine awp_len 17 [] (T := t_api_Cond) (l := a1) (by kernel_rfl) fun hl => ?_
      replace h := h hl
      refine awp_block ?_
      obtain ⟨I7, ⟨n7a, hz7⟩, hI7⟩ := h
      refine awp_loopN (fun n s => ∃ (x3 : Int) (x4 : Int), I7 n x3 x4 ∧ s = ⟨34, [(1, vi a2), (5, vi x3), (17, .d (.sl t_api_Cond) a1), (18, vi (a1.length : Int)), (19, vi x4)], []⟩) (n := n7a) (s0 := ⟨34, [(1, vi a2), (5, vi (0 : Int)), (17, .d (.sl t_api_Cond) a1), (18, vi (a1.length : Int)), (19, vi (0 : Int))], []⟩) (wk_ghosts hk (l := [.keep [1, 5, 17, 18, 19], .keep [1, 5, 17, 18, 19], .keep [1, 5, 17, 18, 19], .keep [1, 5, 17, 18, 19]]) (by kernel_rfl)) ⟨0, 0, hz7, rfl⟩ ?_
      rintro n7 s ⟨x3, x4, hx7, rfl⟩
      have h := hI7 n7 x3 x4 hx7
      refine awp_spine ?_
      refine awp_rc tab [1, 5, 17, 18, 19, 20] [] [] [] [] ⟨34, [(1, vi a2), (5, vi x3), (17, .d (.sl t_api_Cond) a1), (18, vi (a1.length : Int)), (19, vi x4), (20, vb (decide (x4 < (a1.length : Int))))], []⟩ (by kernel_rfl) (trivial) ?_
      refine then_n (spine_c ?_)
      refine awp_spine ?_
      refine awp_cond (b := decide (x4 < (a1.length : Int))) (by kernel_rfl) (fun hb => ?_) (fun hb => ?_)
      · replace h := h.1 (of_decide_eq_true hb)
        refine awp_skip (then_n (spine_c ?_))
        refine awp_spine ?_
        refine awp_block ?_
        refine awp_spine ?_
        obtain ⟨o1, h⟩ := h
        refine awp_rc tab [1, 5, 7, 17, 18, 19] [] [] [] [(0 : Int) ≤ x4 ∧ x4 < (a1.length : Int)] ⟨34, [(1, vi a2), (5, vi x3), (7, .ref 0 0 0), (17, .d (.sl t_api_Cond) a1), (18, vi (a1.length : Int)), (19, vi x4)], [.box [vi ((a1.getD (Int.toNat x4) d_api_Cond).1), vi ((a1.getD (Int.toNat x4) d_api_Cond).2.1), .d (.sl (.int .i64)) (((a1.getD (Int.toNat x4) d_api_Cond).2.2).1), vi (((a1.getD (Int.toNat x4) d_api_Cond).2.2).2)]]⟩ (by kernel_rfl) (AllP.of (o1) trivial) ?_
        refine then_n (spine_c ?_)
        refine awp_abs (fun (x8 : api_Cond) => ⟨34, [(1, vi a2), (5, vi x3), (7, .ref 0 0 0), (17, .d (.sl t_api_Cond) a1), (18, vi (a1.length : Int)), (19, vi x4)], [.box [vi x8.1, vi x8.2.1, .d (.sl (.int .i64)) x8.2.2.1, vi x8.2.2.2]]⟩) (a1.getD (Int.toNat x4) d_api_Cond) ?_
        intro x8 hx8
        replace h := h x8 hx8
        refine awp_spine ?_
        refine awp_rc tab [1, 5, 7, 17, 18, 19, 25] [] [(1, .dat (vb (ref03_Valid.fn x8)))] [] [OkC prog 16 [.agg [vi x8.1, vi x8.2.1, .d (.sl (.int .i64)) x8.2.2.1, vi x8.2.2.2]] (vb (ref03_Valid.fn x8))] ⟨34, [(1, vi a2), (5, vi x3), (7, .ref 0 0 0), (17, .d (.sl t_api_Cond) a1), (18, vi (a1.length : Int)), (19, vi x4), (25, vb (!(ref03_Valid.fn x8)))], [.box [vi x8.1, vi x8.2.1, .d (.sl (.int .i64)) x8.2.2.1, vi x8.2.2.2]]⟩ (by kernel_rfl) (AllP.of (ok_ref03_Valid x8) trivial) ?_
        refine then_n (spine_c ?_)
        refine awp_cond (b := !(ref03_Valid.fn x8)) (by kernel_rfl) (fun hb => ?_) (fun hb => ?_)
        · replace h := h.1 ((nt hb))
          refine awp_spine ?_
          refine awp_rc tab [4] [] [] [] [] ⟨34, [(4, vi (1 : Int))], [.box [vi x8.1, vi x8.2.1, .d (.sl (.int .i64)) x8.2.2.1, vi x8.2.2.2]]⟩ (by kernel_rfl) (trivial) ?_
          refine then_n (spine_c ?_)
          refine awp_ret (then_r (then_r (then_r (blk_r (then_r (then_r (then_r (then_r (blk_r (then_r (then_r (then_r (then_r (then_r (?_)))))))))))))))
          exact ret_r (m := 0) (r := vi (1 : Int)) (objs := []) hk [.keep [4]] ⟨34, [(4, vi (1 : Int))], [.box [vi x8.1, vi x8.2.1, .d (.sl (.int .i64)) x8.2.2.1, vi x8.2.2.2]]⟩ (by kernel_rfl) (by kernel_rfl) (Nat.le_refl 0) ⟨1, rfl, rfl, h⟩
        · replace h := h.2 ((nf hb))
          refine awp_skip (then_n (spine_c ?_))
          refine awp_spine ?_
          refine awp_rc tab [1, 5, 17, 18, 19, 31] [] [] [] [] ⟨34, [(1, vi a2), (5, vi x3), (17, .d (.sl t_api_Cond) a1), (18, vi (a1.length : Int)), (19, vi x4), (31, vb ((x8.2.2.1.length : Int) != a2))], [.box [vi x8.1, vi x8.2.1, .d (.sl (.int .i64)) x8.2.2.1, vi x8.2.2.2]]⟩ (by kernel_rfl) (trivial) ?_
          refine then_n (spine_c ?_)
          refine awp_cond (b := (x8.2.2.1.length : Int) != a2) (by kernel_rfl) (fun hb => ?_) (fun hb => ?_)
          · replace h := h.1 (bne_iff_ne.mp hb)
            refine awp_rc tab [1, 5, 17, 18, 19] [] [] [] [] ⟨34, [(1, vi a2), (5, vi (2 : Int)), (17, .d (.sl t_api_Cond) a1), (18, vi (a1.length : Int)), (19, vi x4)], [.box [vi x8.1, vi x8.2.1, .d (.sl (.int .i64)) x8.2.2.1, vi x8.2.2.2]]⟩ (by kernel_rfl) (trivial) ?_
            refine then_n (spine_e (then_n (spine_e (then_n (spine_e (blk_n (then_n (spine_c ?_))))))))
            obtain ⟨o2, h⟩ := h
            refine awp_rc tab [1, 5, 17, 18, 19] [] [] [] [-9223372036854775808 ≤ x4 + (1 : Int) ∧ x4 + (1 : Int) ≤ 9223372036854775807] ⟨34, [(1, vi a2), (5, vi (2 : Int)), (17, .d (.sl t_api_Cond) a1), (18, vi (a1.length : Int)), (19, vi (x4 + (1 : Int)))], [.box [vi x8.1, vi x8.2.1, .d (.sl (.int .i64)) x8.2.2.1, vi x8.2.2.2]]⟩ (by kernel_rfl) (AllP.of (o2) trivial) ?_
            refine then_n (spine_e (then_n (spine_e (then_n (spine_e (then_n (?_)))))))
            obtain ⟨m, hm, h⟩ := h
            exact ⟨m, hm, ⟨34, [(1, vi a2), (5, vi (2 : Int)), (17, .d (.sl t_api_Cond) a1), (18, vi (a1.length : Int)), (19, vi (x4 + (1 : Int)))], []⟩, wk_ghosts hk (l := [.keep [1, 5, 17, 18, 19], .keep [1, 5, 17, 18, 19], .cut 0, .keep [1, 5, 17, 18, 19]]) (by kernel_rfl), 2, x4 + (1 : Int), h, rfl⟩
          · replace h := h.2 (bne_f hb)
            refine awp_skip (then_n (spine_e (then_n (spine_e (then_n (spine_e (blk_n (then_n (spine_c ?_)))))))))
            obtain ⟨o3, h⟩ := h
            refine awp_rc tab [1, 5, 17, 18, 19] [] [] [] [-9223372036854775808 ≤ x4 + (1 : Int) ∧ x4 + (1 : Int) ≤ 9223372036854775807] ⟨34, [(1, vi a2), (5, vi x3), (17, .d (.sl t_api_Cond) a1), (18, vi (a1.length : Int)), (19, vi (x4 + (1 : Int)))], [.box [vi x8.1, vi x8.2.1, .d (.sl (.int .i64)) x8.2.2.1, vi x8.2.2.2]]⟩ (by kernel_rfl) (AllP.of (o3) trivial) ?_
            refine then_n (spine_e (then_n (spine_e (then_n (spine_e (then_n (?_)))))))
            obtain ⟨m, hm, h⟩ := h
            exact ⟨m, hm, ⟨34, [(1, vi a2), (5, vi x3), (17, .d (.sl t_api_Cond) a1), (18, vi (a1.length : Int)), (19, vi (x4 + (1 : Int)))], []⟩, wk_ghosts hk (l := [.keep [1, 5, 17, 18, 19], .keep [1, 5, 17, 18, 19], .cut 0, .keep [1, 5, 17, 18, 19]]) (by kernel_rfl), x3, x4 + (1 : Int), h, rfl⟩
      · replace h := h.2 (of_decide_eq_false hb)
        refine awp_exit (then_x (then_x (then_x (blk_h (then_n (spine_c ?_))))))
        refine awp_spine ?_
        refine awp_rc tab [4] [] [] [] [] ⟨34, [(4, vi x3)], []⟩ (by kernel_rfl) (trivial) ?_
        refine then_n (spine_c ?_)
        refine awp_ret (then_r (then_r (then_r (then_r (then_r (then_r (?_)))))))
        exact ret_r (m := 0) (r := vi x3) (objs := []) hk [.keep [4]] ⟨34, [(4, vi x3)], []⟩ (by kernel_rfl) (by kernel_rfl) (Nat.le_refl 0) ⟨x3, rfl, rfl, h⟩
theorem ok_ref09_asked (a1 : (List api_Cond)) (a2 : Int) : OkC prog 28 [.d (.sl t_api_Cond) a1, vi a2] (vi (ref09_asked.fn a1 a2)) :=
  OkC.of call_ref09_asked ((walk_ref09_asked a1 a2 _ (ref09_asked.spec a1 a2)).mono fun r o ⟨x, hr, ho, hx⟩ => ⟨by rw [hr, hx], ho⟩) rfl rfl (fun _ => rfl)

noncomputable abbrev Bref09_Check : Code := bodyOf Try.f21
theorem call_ref09_Check : CallOk prog 21 := ⟨_, Try.func21, by kernel_rfl, by kernel_rfl⟩
theorem walk_ref09_Check (a1 : (List api_Cond)) (a2 : Int) (a3 : (List Int)) (Q : Bool × Int → Prop) (h : ref09_Check.wp a1 a2 a3 Q) : VCalls prog 21 [.d (.sl t_api_Cond) a1, vi a2, .d (.sl (.int .i64)) a3] [] (fun r o => ∃ x, r = .tup [vb x.1, vi x.2] ∧ o = [] ∧ Q x) := by
  refine vcalls_body tab Try.func21 (c := (spine (subC [0] Bref09_Check) [(spine (subC [1, 0, 0] Bref09_Check) [(spine (subC [1, 0, 1, 0] Bref09_Check) [(.cond (.tmp 21) (spine (subC [1, 0, 1, 1, 0, 0] Bref09_Check) [.ret]) .skip)]), (spine (subC [1, 1, 0, 0] Bref09_Check) [(.cond (.tmp 27) (spine (subC [1, 1, 0, 1, 0, 0] Bref09_Check) [.ret]) .skip), (spine (subC [1, 1, 1, 0] Bref09_Check) [(spine (subC [1, 1, 1, 1, 0, 0] Bref09_Check) [(.block 0 (.loop (spine (subC [1, 1, 1, 1, 0, 1, 0, 0, 0] Bref09_Check) [(spine (.cond (.tmp 34) .skip (.exit 0)) [(spine (.block 1 (spine (subC [1, 1, 1, 1, 0, 1, 0, 0, 1, 1, 0, 0, 0] Bref09_Check) [(spine (subC [1, 1, 1, 1, 0, 1, 0, 0, 1, 1, 0, 0, 1, 0] Bref09_Check) [(spine (subC [1, 1, 1, 1, 0, 1, 0, 0, 1, 1, 0, 0, 1, 1, 0, 0] Bref09_Check) [(.cond (.tmp 60) (spine (subC [1, 1, 1, 1, 0, 1, 0, 0, 1, 1, 0, 0, 1, 1, 0, 1, 0, 0] Bref09_Check) [.ret]) .skip), (spine (subC [1, 1, 1, 1, 0, 1, 0, 0, 1, 1, 0, 0, 1, 1, 1, 0, 0] Bref09_Check) [(.block 2 (.loop (spine (subC [1, 1, 1, 1, 0, 1, 0, 0, 1, 1, 0, 0, 1, 1, 1, 0, 1, 0, 0, 0] Bref09_Check) [(spine (.cond (.tmp 66) .skip (.exit 2)) [(spine (.block 3 (spine (subC [1, 1, 1, 1, 0, 1, 0, 0, 1, 1, 0, 0, 1, 1, 1, 0, 1, 0, 0, 1, 1, 0, 0, 0] Bref09_Check) [(subC [1, 1, 1, 1, 0, 1, 0, 0, 1, 1, 0, 0, 1, 1, 1, 0, 1, 0, 0, 1, 1, 0, 0, 1] Bref09_Check)])) [(subC [1, 1, 1, 1, 0, 1, 0, 0, 1, 1, 0, 0, 1, 1, 1, 0, 1, 0, 0, 1, 1, 1] Bref09_Check)])])]))), (subC [1, 1, 1, 1, 0, 1, 0, 0, 1, 1, 0, 0, 1, 1, 1, 1] Bref09_Check)])])])])) [(subC [1, 1, 1, 1, 0, 1, 0, 0, 1, 1, 1] Bref09_Check)])])]))), (spine (subC [1, 1, 1, 1, 1, 0, 0] Bref09_Check) [(.block 4 (.loop (spine (subC [1, 1, 1, 1, 1, 0, 1, 0, 0, 0] Bref09_Check) [(spine (.cond (.tmp 103) .skip (.exit 4)) [(spine (.block 5 (spine (subC [1, 1, 1, 1, 1, 0, 1, 0, 0, 1, 1, 0, 0, 0] Bref09_Check) [(spine (subC [1, 1, 1, 1, 1, 0, 1, 0, 0, 1, 1, 0, 0, 1, 0] Bref09_Check) [(.cond (.tmp 108) (spine (subC [1, 1, 1, 1, 1, 0, 1, 0, 0, 1, 1, 0, 0, 1, 1, 0, 0] Bref09_Check) [.ret]) .skip)])])) [(subC [1, 1, 1, 1, 1, 0, 1, 0, 0, 1, 1, 1] Bref09_Check)])])]))), (spine (subC [1, 1, 1, 1, 1, 1, 0] Bref09_Check) [.ret])])])])])])])) (by kernel_rfl) (Nat.le_of_ble_eq_true (by kernel_rfl)) fun cx hd hi hk => ?_
  show AWp prog cx _ _ ⟨116, [(0, .d (.sl t_api_Cond) a1), (1, vi a2), (2, .d (.sl (.int .i64)) a3)], []⟩
  replace hk : cx.E.len = 0 := hk
  unfold ref09_Check.wp at h
  refine awp_spine ?_
  refine awp_rc tab [0, 1, 2] [] [] [] [] ⟨116, [(0, .d (.sl t_api_Cond) a1), (1, vi a2), (2, .d (.sl (.int .i64)) a3)], []⟩ (by kernel_rfl) (trivial) ?_
  refine then_n (spine_c ?_)
  refine awp_spine ?_
  refine awp_rc tab [0, 1, 2, 8] [] [(2, .dat (vi (ref09_asked.fn a1 a2)))] [] [OkC prog 28 [.d (.sl t_api_Cond) a1, vi a2] (vi (ref09_asked.fn a1 a2))] ⟨116, [(0, .d (.sl t_api_Cond) a1), (1, vi a2), (2, .d (.sl (.int .i64)) a3), (8, vi (ref09_asked.fn a1 a2))], []⟩ (by kernel_rfl) (AllP.of (ok_ref09_asked a1 a2) trivial) ?_
  refine then_n (spine_c ?_)
  refine awp_abs (fun (x1 : Int) => ⟨116, [(0, .d (.sl t_api_Cond) a1), (1, vi a2), (2, .d (.sl (.int .i64)) a3), (8, vi x1)], []⟩) (ref09_asked.fn a1 a2) ?_
  intro x1 hx1
  replace h := h x1 hx1
  refine awp_spine ?_
  refine awp_rc tab [0, 1, 2, 8, 21] [] [] [] [] ⟨116, [(0, .d (.sl t_api_Cond) a1), (1, vi a2), (2, .d (.sl (.int .i64)) a3), (8, vi x1), (21, vb (x1 != (0 : Int)))], []⟩ (by kernel_rfl) (trivial) ?_
  refine then_n (spine_c ?_)
  refine awp_cond (b := x1 != (0 : Int)) (by kernel_rfl) (fun hb => ?_) (fun hb => ?_)
  · replace h := h.1 (bne_iff_ne.mp hb)
    refine awp_spine ?_
    refine awp_rc tab [6, 7] [] [] [] [] ⟨116, [(6, vb false), (7, vi x1)], []⟩ (by kernel_rfl) (trivial) ?_
    refine then_n (spine_c ?_)
    refine awp_ret (then_r (then_r (then_r (then_r (?_)))))
    exact ret_r (m := 0) (r := .tup [vb ((false, x1).1), vi ((false, x1).2)]) (objs := []) hk [.keep [6, 7]] ⟨116, [(6, vb false), (7, vi x1)], []⟩ (by kernel_rfl) (by kernel_rfl) (Nat.le_refl 0) ⟨(false, x1), rfl, rfl, h⟩
  · replace h := h.2 (bne_f hb)
    refine awp_skip (then_n (spine_e (then_n (spine_c ?_))))
    refine awp_spine ?_
    refine awp_rc tab [0, 1, 2, 27] [] [] [] [] ⟨116, [(0, .d (.sl t_api_Cond) a1), (1, vi a2), (2, .d (.sl (.int .i64)) a3), (27, vb ((a3.length : Int) != (a1.length : Int)))], []⟩ (by kernel_rfl) (trivial) ?_
    refine then_n (spine_c ?_)
    refine awp_len 0 [] (T := t_api_Cond) (l := a1) (by kernel_rfl) fun hl => ?_
    replace h := h hl
    refine awp_len 2 [] (T := (.int .i64)) (l := a3) (by kernel_rfl) fun hl => ?_
    replace h := h hl
    refine awp_cond (b := (a3.length : Int) != (a1.length : Int)) (by kernel_rfl) (fun hb => ?_) (fun hb => ?_)
    · replace h := h.1 (bne_iff_ne.mp hb)
      refine awp_spine ?_
      refine awp_rc tab [6, 7] [] [] [] [] ⟨116, [(6, vb false), (7, vi (2 : Int))], []⟩ (by kernel_rfl) (trivial) ?_
      refine then_n (spine_c ?_)
      refine awp_ret (then_r (then_r (then_r (then_r (?_)))))
      exact ret_r (m := 0) (r := .tup [vb ((false, 2).1), vi ((false, 2).2)]) (objs := []) hk [.keep [6, 7]] ⟨116, [(6, vb false), (7, vi (2 : Int))], []⟩ (by kernel_rfl) (by kernel_rfl) (Nat.le_refl 0) ⟨(false, 2), rfl, rfl, h⟩
    · replace h := h.2 (bne_f hb)
      refine awp_skip (then_n (spine_c ?_))
      refine awp_spine ?_
      obtain ⟨o1, o2, h⟩ := h
      refine awp_rc tab [0, 1, 2, 9] [] [] [] [-9223372036854775808 ≤ a2 + (1 : Int) ∧ a2 + (1 : Int) ≤ 9223372036854775807, (0 : Int) ≤ (a2 + (1 : Int)) ∧ (a2 + (1 : Int)) ≤ (a2 + (1 : Int)) ∧ (a2 + (1 : Int)) * 32 ≤ 140737488355328 ∧ (a2 + (1 : Int)) ≤ 9223372036854775807] ⟨116, [(0, .d (.sl t_api_Cond) a1), (1, vi a2), (2, .d (.sl (.int .i64)) a3), (9, .osl 0 0)], [.row t_ref09_Int (List.replicate (Int.toNat (a2 + (1 : Int))) d_ref09_Int) 0]⟩ (by kernel_rfl) (AllP.of (o1) (AllP.of (o2) trivial)) ?_
      refine then_n (spine_c ?_)
      refine awp_abs (fun (x2 : (List ref09_Int)) => ⟨116, [(0, .d (.sl t_api_Cond) a1), (1, vi a2), (2, .d (.sl (.int .i64)) a3), (9, .osl 0 0)], [.row t_ref09_Int x2 0]⟩) (List.replicate (Int.toNat (a2 + (1 : Int))) d_ref09_Int) ?_
      intro x2 hx2
      replace h := h x2 hx2
      refine awp_spine ?_
      refine awp_rc tab [1, 2, 9, 31, 32, 33] [] [] [] [] ⟨116, [(1, vi a2), (2, .d (.sl (.int .i64)) a3), (9, .osl 0 0), (31, .d (.sl t_api_Cond) a1), (32, vi (a1.length : Int)), (33, vi (0 : Int))], [.row t_ref09_Int x2 0]⟩ (by kernel_rfl) (trivial) ?_
      refine then_n (spine_c ?_)
      refine awp_len 31 [] (T := t_api_Cond) (l := a1) (by kernel_rfl) fun hl => ?_
      replace h := h hl
      refine awp_block ?_
      obtain ⟨I9, ⟨n9a, hz9⟩, hI9⟩ := h
      refine awp_loopN (fun n s => ∃ (x5 : Int) (x6 : (List ref09_Int)), I9 n x5 x6 ∧ s = ⟨116, [(1, vi a2), (2, .d (.sl (.int .i64)) a3), (9, .osl 0 0), (31, .d (.sl t_api_Cond) a1), (32, vi (a1.length : Int)), (33, vi x5)], [.row t_ref09_Int x6 0]⟩) (n := n9a) (s0 := ⟨116, [(1, vi a2), (2, .d (.sl (.int .i64)) a3), (9, .osl 0 0), (31, .d (.sl t_api_Cond) a1), (32, vi (a1.length : Int)), (33, vi (0 : Int))], [.row t_ref09_Int x2 0]⟩) (wk_ghosts hk (l := [.keep [1, 2, 9, 31, 32, 33], .keep [1, 2, 9, 31, 32, 33], .keep [1, 2, 9, 31, 32, 33], .keep [1, 2, 9, 31, 32, 33]]) (by kernel_rfl)) ⟨0, x2, hz9, rfl⟩ ?_
      rintro n9 s ⟨x5, x6, hx9, rfl⟩
      have h := hI9 n9 x5 x6 hx9
      refine awp_spine ?_
      refine awp_rc tab [1, 2, 9, 31, 32, 33, 34] [] [] [] [] ⟨116, [(1, vi a2), (2, .d (.sl (.int .i64)) a3), (9, .osl 0 0), (31, .d (.sl t_api_Cond) a1), (32, vi (a1.length : Int)), (33, vi x5), (34, vb (decide (x5 < (a1.length : Int))))], [.row t_ref09_Int x6 0]⟩ (by kernel_rfl) (trivial) ?_
      refine then_n (spine_c ?_)
      refine awp_spine ?_
      refine awp_cond (b := decide (x5 < (a1.length : Int))) (by kernel_rfl) (fun hb => ?_) (fun hb => ?_)
      · replace h := h.1 (of_decide_eq_true hb)
        refine awp_skip (then_n (spine_c ?_))
        refine awp_spine ?_
        refine awp_block ?_
        refine awp_spine ?_
        obtain ⟨o3, h⟩ := h
        refine awp_rc tab [1, 2, 9, 10, 11, 31, 32, 33] [] [] [] [(0 : Int) ≤ x5 ∧ x5 < (a1.length : Int)] ⟨116, [(1, vi a2), (2, .d (.sl (.int .i64)) a3), (9, .osl 0 0), (10, vi x5), (11, .ref 1 0 0), (31, .d (.sl t_api_Cond) a1), (32, vi (a1.length : Int)), (33, vi x5)], [.row t_ref09_Int x6 0, .box [vi ((a1.getD (Int.toNat x5) d_api_Cond).1), vi ((a1.getD (Int.toNat x5) d_api_Cond).2.1), .d (.sl (.int .i64)) (((a1.getD (Int.toNat x5) d_api_Cond).2.2).1), vi (((a1.getD (Int.toNat x5) d_api_Cond).2.2).2)]]⟩ (by kernel_rfl) (AllP.of (o3) trivial) ?_
        refine then_n (spine_c ?_)
        refine awp_abs (fun (x10 : api_Cond) => ⟨116, [(1, vi a2), (2, .d (.sl (.int .i64)) a3), (9, .osl 0 0), (10, vi x5), (11, .ref 1 0 0), (31, .d (.sl t_api_Cond) a1), (32, vi (a1.length : Int)), (33, vi x5)], [.row t_ref09_Int x6 0, .box [vi x10.1, vi x10.2.1, .d (.sl (.int .i64)) x10.2.2.1, vi x10.2.2.2]]⟩) (a1.getD (Int.toNat x5) d_api_Cond) ?_
        intro x10 hx10
        replace h := h x10 hx10
        refine awp_spine ?_
        obtain ⟨o4, o5, h⟩ := h
        refine awp_rc tab [1, 2, 9, 11, 12, 31, 32, 33] [] [(4, .dat (.agg [vb ((ref09_Of.fn (gI a3 x5)).1), .d (.sl (.int .i64)) ((ref09_Of.fn (gI a3 x5)).2)]))] [] [(0 : Int) ≤ x5 ∧ x5 < (a3.length : Int), OkC prog 35 [vi (gI a3 x5)] (.agg [vb ((ref09_Of.fn (gI a3 x5)).1), .d (.sl (.int .i64)) ((ref09_Of.fn (gI a3 x5)).2)])] ⟨116, [(1, vi a2), (2, .d (.sl (.int .i64)) a3), (9, .osl 0 0), (11, .ref 1 0 0), (12, .ref 2 0 0), (31, .d (.sl t_api_Cond) a1), (32, vi (a1.length : Int)), (33, vi x5)], [.row t_ref09_Int x6 0, .box [vi x10.1, vi x10.2.1, .d (.sl (.int .i64)) x10.2.2.1, vi x10.2.2.2], .box [vb ((ref09_Of.fn (gI a3 x5)).1), .d (.sl (.int .i64)) ((ref09_Of.fn (gI a3 x5)).2)]]⟩ (by kernel_rfl) (AllP.of (o4) (AllP.of (ok_ref09_Of (gI a3 x5) (o5)) trivial)) ?_
        refine then_n (spine_c ?_)
        refine awp_abs (fun (x11 : ref09_Int) => ⟨116, [(1, vi a2), (2, .d (.sl (.int .i64)) a3), (9, .osl 0 0), (11, .ref 1 0 0), (12, .ref 2 0 0), (31, .d (.sl t_api_Cond) a1), (32, vi (a1.length : Int)), (33, vi x5)], [.row t_ref09_Int x6 0, .box [vi x10.1, vi x10.2.1, .d (.sl (.int .i64)) x10.2.2.1, vi x10.2.2.2], .box [vb x11.1, .d (.sl (.int .i64)) x11.2]]⟩) (ref09_Of.fn (gI a3 x5)) ?_
        intro x11 hx11
        replace h := h x11 hx11
        refine awp_spine ?_
        refine awp_rc tab [1, 2, 9, 11, 12, 31, 32, 33, 60] [] [(5, .dat (vi (ref09_Int_Sign.fn x11))), (14, .dat (vi (ref09_Int_Sign.fn x11)))] [] [(x10.1 == (0 : Int)) = true → (x10.1 == (0 : Int)) = true ∧ (OkC prog 47 [.agg [vb x11.1, .d (.sl (.int .i64)) x11.2]] (vi (ref09_Int_Sign.fn x11))), (x10.1 == (0 : Int)) = true → (x10.1 == (0 : Int)) = true ∧ True, (x10.1 == (0 : Int)) = true → (x10.1 == (0 : Int)) = true, (!((x10.1 == (0 : Int)) && (decide ((ref09_Int_Sign.fn x11) < (0 : Int))))) = true → (!((x10.1 == (0 : Int)) && (decide ((ref09_Int_Sign.fn x11) < (0 : Int))))) = true ∧ True, (!((x10.1 == (0 : Int)) && (decide ((ref09_Int_Sign.fn x11) < (0 : Int))))) = true → (!((x10.1 == (0 : Int)) && (decide ((ref09_Int_Sign.fn x11) < (0 : Int))))) = true ∧ True, (!((x10.1 == (0 : Int)) && (decide ((ref09_Int_Sign.fn x11) < (0 : Int))))) = true → (!((x10.1 == (0 : Int)) && (decide ((ref09_Int_Sign.fn x11) < (0 : Int))))) = true ∧ True, ((!((x10.1 == (0 : Int)) && (decide ((ref09_Int_Sign.fn x11) < (0 : Int))))) && (x10.1 == (2 : Int))) = true → ((!((x10.1 == (0 : Int)) && (decide ((ref09_Int_Sign.fn x11) < (0 : Int))))) && (x10.1 == (2 : Int))) = true ∧ (OkC prog 47 [.agg [vb x11.1, .d (.sl (.int .i64)) x11.2]] (vi (ref09_Int_Sign.fn x11))), ((!((x10.1 == (0 : Int)) && (decide ((ref09_Int_Sign.fn x11) < (0 : Int))))) && (x10.1 == (2 : Int))) = true → ((!((x10.1 == (0 : Int)) && (decide ((ref09_Int_Sign.fn x11) < (0 : Int))))) && (x10.1 == (2 : Int))) = true ∧ True, (!((x10.1 == (0 : Int)) && (decide ((ref09_Int_Sign.fn x11) < (0 : Int))))) = true → (!((x10.1 == (0 : Int)) && (decide ((ref09_Int_Sign.fn x11) < (0 : Int))))) = true ∧ ((x10.1 == (2 : Int)) = true → ((!((x10.1 == (0 : Int)) && (decide ((ref09_Int_Sign.fn x11) < (0 : Int))))) && (x10.1 == (2 : Int))) = true), ((x10.1 == (0 : Int)) && (decide ((ref09_Int_Sign.fn x11) < (0 : Int)))) = false → (!((x10.1 == (0 : Int)) && (decide ((ref09_Int_Sign.fn x11) < (0 : Int))))) = true] ⟨116, [(1, vi a2), (2, .d (.sl (.int .i64)) a3), (9, .osl 0 0), (11, .ref 1 0 0), (12, .ref 2 0 0), (31, .d (.sl t_api_Cond) a1), (32, vi (a1.length : Int)), (33, vi x5), (60, vb (((x10.1 == (0 : Int)) && (decide ((ref09_Int_Sign.fn x11) < (0 : Int)))) || ((x10.1 == (2 : Int)) && ((ref09_Int_Sign.fn x11) != (0 : Int)))))], [.row t_ref09_Int x6 0, .box [vi x10.1, vi x10.2.1, .d (.sl (.int .i64)) x10.2.2.1, vi x10.2.2.2], .box [vb x11.1, .d (.sl (.int .i64)) x11.2]]⟩ (by kernel_rfl) (AllP.of (fun hg => ⟨hg, ok_ref09_Int_Sign x11⟩) (AllP.of (fun hg => ⟨hg, trivial⟩) (AllP.of (fun hc => hc) (AllP.of (fun hg => ⟨hg, trivial⟩) (AllP.of (fun hg => ⟨hg, trivial⟩) (AllP.of (fun hg => ⟨hg, trivial⟩) (AllP.of (fun hg => ⟨hg, ok_ref09_Int_Sign x11⟩) (AllP.of (fun hg => ⟨hg, trivial⟩) (AllP.of (fun hg => ⟨hg, fun hc => and_t hg hc⟩) (AllP.of (fun hc => not_f hc) trivial)))))))))) ?_
        refine then_n (spine_c ?_)
        refine awp_abs (fun (x12 : Int) => ⟨116, [(1, vi a2), (2, .d (.sl (.int .i64)) a3), (9, .osl 0 0), (11, .ref 1 0 0), (12, .ref 2 0 0), (31, .d (.sl t_api_Cond) a1), (32, vi (a1.length : Int)), (33, vi x5), (60, vb (((x10.1 == (0 : Int)) && (decide (x12 < (0 : Int)))) || ((x10.1 == (2 : Int)) && (x12 != (0 : Int)))))], [.row t_ref09_Int x6 0, .box [vi x10.1, vi x10.2.1, .d (.sl (.int .i64)) x10.2.2.1, vi x10.2.2.2], .box [vb x11.1, .d (.sl (.int .i64)) x11.2]]⟩) (ref09_Int_Sign.fn x11) ?_
        intro x12 hx12
        replace h := h x12 hx12
        refine awp_cond (b := ((x10.1 == (0 : Int)) && (decide (x12 < (0 : Int)))) || ((x10.1 == (2 : Int)) && (x12 != (0 : Int)))) (by kernel_rfl) (fun hb => ?_) (fun hb => ?_)
        · replace h := h.1 (hb)
          refine awp_spine ?_
          refine awp_rc tab [6, 7] [] [] [] [] ⟨116, [(6, vb false), (7, vi (0 : Int))], [.row t_ref09_Int x6 0, .box [vi x10.1, vi x10.2.1, .d (.sl (.int .i64)) x10.2.2.1, vi x10.2.2.2], .box [vb x11.1, .d (.sl (.int .i64)) x11.2]]⟩ (by kernel_rfl) (trivial) ?_
          refine then_n (spine_c ?_)
          refine awp_ret (then_r (then_r (then_r (then_r (blk_r (then_r (then_r (then_r (then_r (blk_r (then_r (then_r (then_r (then_r (then_r (?_))))))))))))))))
          exact ret_r (m := 0) (r := .tup [vb ((false, 0).1), vi ((false, 0).2)]) (objs := []) hk [.keep [6, 7]] ⟨116, [(6, vb false), (7, vi (0 : Int))], [.row t_ref09_Int x6 0, .box [vi x10.1, vi x10.2.1, .d (.sl (.int .i64)) x10.2.2.1, vi x10.2.2.2], .box [vb x11.1, .d (.sl (.int .i64)) x11.2]]⟩ (by kernel_rfl) (by kernel_rfl) (Nat.le_refl 0) ⟨(false, 0), rfl, rfl, h⟩
        · replace h := h.2 (hb)
          refine awp_skip (then_n (spine_c ?_))
          refine awp_spine ?_
          refine awp_rc tab [1, 2, 9, 11, 12, 31, 32, 33, 63, 64, 65] [] [] [] [] ⟨116, [(1, vi a2), (2, .d (.sl (.int .i64)) a3), (9, .osl 0 0), (11, .ref 1 0 0), (12, .ref 2 0 0), (31, .d (.sl t_api_Cond) a1), (32, vi (a1.length : Int)), (33, vi x5), (63, .d (.sl (.int .i64)) x10.2.2.1), (64, vi (x10.2.2.1.length : Int)), (65, vi (0 : Int))], [.row t_ref09_Int x6 0, .box [vi x10.1, vi x10.2.1, .d (.sl (.int .i64)) x10.2.2.1, vi x10.2.2.2], .box [vb x11.1, .d (.sl (.int .i64)) x11.2]]⟩ (by kernel_rfl) (trivial) ?_
          refine then_n (spine_c ?_)
          refine awp_len 63 [] (T := (.int .i64)) (l := x10.2.2.1) (by kernel_rfl) fun hl => ?_
          replace h := h hl
          refine awp_block ?_
          obtain ⟨I19, ⟨n19a, hz19⟩, hI19⟩ := h
          refine awp_loopN (fun n s => ∃ (x15 : Int) (x16 : (List ref09_Int)), I19 n x15 x16 ∧ s = ⟨116, [(1, vi a2), (2, .d (.sl (.int .i64)) a3), (9, .osl 0 0), (11, .ref 1 0 0), (12, .ref 2 0 0), (31, .d (.sl t_api_Cond) a1), (32, vi (a1.length : Int)), (33, vi x5), (63, .d (.sl (.int .i64)) x10.2.2.1), (64, vi (x10.2.2.1.length : Int)), (65, vi x15)], [.row t_ref09_Int x16 0, .box [vi x10.1, vi x10.2.1, .d (.sl (.int .i64)) x10.2.2.1, vi x10.2.2.2], .box [vb x11.1, .d (.sl (.int .i64)) x11.2]]⟩) (n := n19a) (s0 := ⟨116, [(1, vi a2), (2, .d (.sl (.int .i64)) a3), (9, .osl 0 0), (11, .ref 1 0 0), (12, .ref 2 0 0), (31, .d (.sl t_api_Cond) a1), (32, vi (a1.length : Int)), (33, vi x5), (63, .d (.sl (.int .i64)) x10.2.2.1), (64, vi (x10.2.2.1.length : Int)), (65, vi (0 : Int))], [.row t_ref09_Int x6 0, .box [vi x10.1, vi x10.2.1, .d (.sl (.int .i64)) x10.2.2.1, vi x10.2.2.2], .box [vb x11.1, .d (.sl (.int .i64)) x11.2]]⟩) (wk_ghosts hk (l := [.keep [1, 2, 9, 11, 12, 31, 32, 33, 63, 64, 65], .keep [1, 2, 9, 11, 12, 31, 32, 33, 63, 64, 65], .keep [1, 2, 9, 11, 12, 31, 32, 33, 63, 64, 65], .keep [1, 2, 9, 11, 12, 31, 32, 33, 63, 64, 65]]) (by kernel_rfl)) ⟨0, x6, hz19, rfl⟩ ?_
          rintro n19 s ⟨x15, x16, hx19, rfl⟩
          have h := hI19 n19 x15 x16 hx19
          refine awp_spine ?_
          refine awp_rc tab [1, 2, 9, 11, 12, 31, 32, 33, 63, 64, 65, 66] [] [] [] [] ⟨116, [(1, vi a2), (2, .d (.sl (.int .i64)) a3), (9, .osl 0 0), (11, .ref 1 0 0), (12, .ref 2 0 0), (31, .d (.sl t_api_Cond) a1), (32, vi (a1.length : Int)), (33, vi x5), (63, .d (.sl (.int .i64)) x10.2.2.1), (64, vi (x10.2.2.1.length : Int)), (65, vi x15), (66, vb (decide (x15 < (x10.2.2.1.length : Int))))], [.row t_ref09_Int x16 0, .box [vi x10.1, vi x10.2.1, .d (.sl (.int .i64)) x10.2.2.1, vi x10.2.2.2], .box [vb x11.1, .d (.sl (.int .i64)) x11.2]]⟩ (by kernel_rfl) (trivial) ?_
          refine then_n (spine_c ?_)
          refine awp_spine ?_
          refine awp_cond (b := decide (x15 < (x10.2.2.1.length : Int))) (by kernel_rfl) (fun hb => ?_) (fun hb => ?_)
          · replace h := h.1 (of_decide_eq_true hb)
            refine awp_skip (then_n (spine_c ?_))
            refine awp_spine ?_
            refine awp_block ?_
            refine awp_spine ?_
            obtain ⟨o6, h⟩ := h
            refine awp_rc tab [1, 2, 9, 11, 12, 13, 14, 31, 32, 33, 63, 64, 65] [] [] [] [(0 : Int) ≤ x15 ∧ x15 < (x10.2.2.1.length : Int)] ⟨116, [(1, vi a2), (2, .d (.sl (.int .i64)) a3), (9, .osl 0 0), (11, .ref 1 0 0), (12, .ref 2 0 0), (13, vi x15), (14, vi (gI x10.2.2.1 x15)), (31, .d (.sl t_api_Cond) a1), (32, vi (a1.length : Int)), (33, vi x5), (63, .d (.sl (.int .i64)) x10.2.2.1), (64, vi (x10.2.2.1.length : Int)), (65, vi x15)], [.row t_ref09_Int x16 0, .box [vi x10.1, vi x10.2.1, .d (.sl (.int .i64)) x10.2.2.1, vi x10.2.2.2], .box [vb x11.1, .d (.sl (.int .i64)) x11.2]]⟩ (by kernel_rfl) (AllP.of (o6) trivial) ?_
            refine then_n (spine_c ?_)
            obtain ⟨o7, o8, o9, o10, o11, o12, o13, h⟩ := h
            refine awp_dr tab mixed [1, 2, 9, 11, 12, 31, 32, 33, 63, 64, 65] [] [(8, .dat (.agg [vb ((ref09_Of.fn (gI x10.2.2.1 x15)).1), .d (.sl (.int .i64)) ((ref09_Of.fn (gI x10.2.2.1 x15)).2)])), (9, .dat (.agg [vb ((ref09_Int_Mul.fn x11 (ref09_Of.fn (gI x10.2.2.1 x15))).1), .d (.sl (.int .i64)) ((ref09_Int_Mul.fn x11 (ref09_Of.fn (gI x10.2.2.1 x15))).2)])), (10, .dat (.agg [vb ((ref09_Int_Add.fn (x16.getD (Int.toNat x15) d_ref09_Int) (ref09_Int_Mul.fn x11 (ref09_Of.fn (gI x10.2.2.1 x15)))).1), .d (.sl (.int .i64)) ((ref09_Int_Add.fn (x16.getD (Int.toNat x15) d_ref09_Int) (ref09_Int_Mul.fn x11 (ref09_Of.fn (gI x10.2.2.1 x15)))).2)]))] [] ⟨[[], [], [], [], [2, 3], [2, 3, 4], [], [], [7], [6, 7, 8], [2, 3, 4, 5, 6, 7, 8, 9], [0, 1, 2, 3, 4, 5, 6, 7, 8, 9, 10], [0, 1, 2, 3, 4, 5, 6, 7, 8, 9, 10, 11]], [.osl 0 0, vi x15, .osl 0 0, vi x15, .rref 0 0 (Int.toNat x15) 0, .agg [vb ((x16.getD (Int.toNat x15) d_ref09_Int).1), .d (.sl (.int .i64)) ((x16.getD (Int.toNat x15) d_ref09_Int).2)], .agg [vb x11.1, .d (.sl (.int .i64)) x11.2], vi (gI x10.2.2.1 x15), .agg [vb ((ref09_Of.fn (gI x10.2.2.1 x15)).1), .d (.sl (.int .i64)) ((ref09_Of.fn (gI x10.2.2.1 x15)).2)], .agg [vb ((ref09_Int_Mul.fn x11 (ref09_Of.fn (gI x10.2.2.1 x15))).1), .d (.sl (.int .i64)) ((ref09_Int_Mul.fn x11 (ref09_Of.fn (gI x10.2.2.1 x15))).2)], .agg [vb ((ref09_Int_Add.fn (x16.getD (Int.toNat x15) d_ref09_Int) (ref09_Int_Mul.fn x11 (ref09_Of.fn (gI x10.2.2.1 x15)))).1), .d (.sl (.int .i64)) ((ref09_Int_Add.fn (x16.getD (Int.toNat x15) d_ref09_Int) (ref09_Int_Mul.fn x11 (ref09_Of.fn (gI x10.2.2.1 x15)))).2)], .rref 0 0 (Int.toNat x15) 0, .tup []], [none, none, none, none, some ((0 : Int) ≤ x15 ∧ x15 < (x16.length : Int)), some (Int.toNat x15 < x16.length), none, none, some (OkC prog 35 [vi (gI x10.2.2.1 x15)] (.agg [vb ((ref09_Of.fn (gI x10.2.2.1 x15)).1), .d (.sl (.int .i64)) ((ref09_Of.fn (gI x10.2.2.1 x15)).2)])), some (OkC prog 36 [.agg [vb x11.1, .d (.sl (.int .i64)) x11.2], .agg [vb ((ref09_Of.fn (gI x10.2.2.1 x15)).1), .d (.sl (.int .i64)) ((ref09_Of.fn (gI x10.2.2.1 x15)).2)]] (.agg [vb ((ref09_Int_Mul.fn x11 (ref09_Of.fn (gI x10.2.2.1 x15))).1), .d (.sl (.int .i64)) ((ref09_Int_Mul.fn x11 (ref09_Of.fn (gI x10.2.2.1 x15))).2)])), some (OkC prog 48 [.agg [vb ((x16.getD (Int.toNat x15) d_ref09_Int).1), .d (.sl (.int .i64)) ((x16.getD (Int.toNat x15) d_ref09_Int).2)], .agg [vb ((ref09_Int_Mul.fn x11 (ref09_Of.fn (gI x10.2.2.1 x15))).1), .d (.sl (.int .i64)) ((ref09_Int_Mul.fn x11 (ref09_Of.fn (gI x10.2.2.1 x15))).2)]] (.agg [vb ((ref09_Int_Add.fn (x16.getD (Int.toNat x15) d_ref09_Int) (ref09_Int_Mul.fn x11 (ref09_Of.fn (gI x10.2.2.1 x15)))).1), .d (.sl (.int .i64)) ((ref09_Int_Add.fn (x16.getD (Int.toNat x15) d_ref09_Int) (ref09_Int_Mul.fn x11 (ref09_Of.fn (gI x10.2.2.1 x15)))).2)])), some ((0 : Int) ≤ x15 ∧ x15 < (x16.length : Int)), some (Int.toNat x15 < x16.length)], [12], [([], [.row t_ref09_Int x16 0, .box [vi x10.1, vi x10.2.1, .d (.sl (.int .i64)) x10.2.2.1, vi x10.2.2.2], .box [vb x11.1, .d (.sl (.int .i64)) x11.2]]), ([12], [.row t_ref09_Int (x16.set (Int.toNat x15) (ref09_Int_Add.fn (x16.getD (Int.toNat x15) d_ref09_Int) (ref09_Int_Mul.fn x11 (ref09_Of.fn (gI x10.2.2.1 x15))))) 0, .box [vi x10.1, vi x10.2.1, .d (.sl (.int .i64)) x10.2.2.1, vi x10.2.2.2], .box [vb x11.1, .d (.sl (.int .i64)) x11.2]])]⟩ ⟨116, [(1, vi a2), (2, .d (.sl (.int .i64)) a3), (9, .osl 0 0), (11, .ref 1 0 0), (12, .ref 2 0 0), (31, .d (.sl t_api_Cond) a1), (32, vi (a1.length : Int)), (33, vi x5), (63, .d (.sl (.int .i64)) x10.2.2.1), (64, vi (x10.2.2.1.length : Int)), (65, vi x15)], [.row t_ref09_Int (x16.set (Int.toNat x15) (ref09_Int_Add.fn (x16.getD (Int.toNat x15) d_ref09_Int) (ref09_Int_Mul.fn x11 (ref09_Of.fn (gI x10.2.2.1 x15))))) 0, .box [vi x10.1, vi x10.2.1, .d (.sl (.int .i64)) x10.2.2.1, vi x10.2.2.2], .box [vb x11.1, .d (.sl (.int .i64)) x11.2]]⟩ (by kernel_rfl) (AllO.n (AllO.n (AllO.n (AllO.n (AllO.s (o7) (AllO.s (o8) (AllO.n (AllO.n (AllO.s (ok_ref09_Of (gI x10.2.2.1 x15) (o9)) (AllO.s (ok_ref09_Int_Mul x11 (ref09_Of.fn (gI x10.2.2.1 x15)) (o10)) (AllO.s (ok_ref09_Int_Add (x16.getD (Int.toNat x15) d_ref09_Int) (ref09_Int_Mul.fn x11 (ref09_Of.fn (gI x10.2.2.1 x15))) (o11)) (AllO.s (o12) (AllO.s (o13) (AllO.e)))))))))))))) ?_
            refine then_n (spine_e (blk_n (then_n (spine_c ?_))))
            refine awp_abs (fun (x20 : ref09_Int) => ⟨116, [(1, vi a2), (2, .d (.sl (.int .i64)) a3), (9, .osl 0 0), (11, .ref 1 0 0), (12, .ref 2 0 0), (31, .d (.sl t_api_Cond) a1), (32, vi (a1.length : Int)), (33, vi x5), (63, .d (.sl (.int .i64)) x10.2.2.1), (64, vi (x10.2.2.1.length : Int)), (65, vi x15)], [.row t_ref09_Int (x16.set (Int.toNat x15) (ref09_Int_Add.fn (x16.getD (Int.toNat x15) d_ref09_Int) (ref09_Int_Mul.fn x11 x20))) 0, .box [vi x10.1, vi x10.2.1, .d (.sl (.int .i64)) x10.2.2.1, vi x10.2.2.2], .box [vb x11.1, .d (.sl (.int .i64)) x11.2]]⟩) (ref09_Of.fn (gI x10.2.2.1 x15)) ?_
            intro x20 hx20
            replace h := h x20 hx20
            refine awp_abs (fun (x21 : ref09_Int) => ⟨116, [(1, vi a2), (2, .d (.sl (.int .i64)) a3), (9, .osl 0 0), (11, .ref 1 0 0), (12, .ref 2 0 0), (31, .d (.sl t_api_Cond) a1), (32, vi (a1.length : Int)), (33, vi x5), (63, .d (.sl (.int .i64)) x10.2.2.1), (64, vi (x10.2.2.1.length : Int)), (65, vi x15)], [.row t_ref09_Int (x16.set (Int.toNat x15) (ref09_Int_Add.fn (x16.getD (Int.toNat x15) d_ref09_Int) x21)) 0, .box [vi x10.1, vi x10.2.1, .d (.sl (.int .i64)) x10.2.2.1, vi x10.2.2.2], .box [vb x11.1, .d (.sl (.int .i64)) x11.2]]⟩) (ref09_Int_Mul.fn x11 x20) ?_
            intro x21 hx21
            replace h := h x21 hx21
            refine awp_abs (fun (x22 : ref09_Int) => ⟨116, [(1, vi a2), (2, .d (.sl (.int .i64)) a3), (9, .osl 0 0), (11, .ref 1 0 0), (12, .ref 2 0 0), (31, .d (.sl t_api_Cond) a1), (32, vi (a1.length : Int)), (33, vi x5), (63, .d (.sl (.int .i64)) x10.2.2.1), (64, vi (x10.2.2.1.length : Int)), (65, vi x15)], [.row t_ref09_Int (x16.set (Int.toNat x15) x22) 0, .box [vi x10.1, vi x10.2.1, .d (.sl (.int .i64)) x10.2.2.1, vi x10.2.2.2], .box [vb x11.1, .d (.sl (.int .i64)) x11.2]]⟩) (ref09_Int_Add.fn (x16.getD (Int.toNat x15) d_ref09_Int) x21) ?_
            intro x22 hx22
            replace h := h x22 hx22
            refine awp_abs (fun (x23 : (List ref09_Int)) => ⟨116, [(1, vi a2), (2, .d (.sl (.int .i64)) a3), (9, .osl 0 0), (11, .ref 1 0 0), (12, .ref 2 0 0), (31, .d (.sl t_api_Cond) a1), (32, vi (a1.length : Int)), (33, vi x5), (63, .d (.sl (.int .i64)) x10.2.2.1), (64, vi (x10.2.2.1.length : Int)), (65, vi x15)], [.row t_ref09_Int x23 0, .box [vi x10.1, vi x10.2.1, .d (.sl (.int .i64)) x10.2.2.1, vi x10.2.2.2], .box [vb x11.1, .d (.sl (.int .i64)) x11.2]]⟩) (x16.set (Int.toNat x15) x22) ?_
            intro x23 hx23
            replace h := h x23 hx23
            obtain ⟨o14, h⟩ := h
            refine awp_rc tab [1, 2, 9, 11, 12, 31, 32, 33, 63, 64, 65] [] [] [] [-9223372036854775808 ≤ x15 + (1 : Int) ∧ x15 + (1 : Int) ≤ 9223372036854775807] ⟨116, [(1, vi a2), (2, .d (.sl (.int .i64)) a3), (9, .osl 0 0), (11, .ref 1 0 0), (12, .ref 2 0 0), (31, .d (.sl t_api_Cond) a1), (32, vi (a1.length : Int)), (33, vi x5), (63, .d (.sl (.int .i64)) x10.2.2.1), (64, vi (x10.2.2.1.length : Int)), (65, vi (x15 + (1 : Int)))], [.row t_ref09_Int x23 0, .box [vi x10.1, vi x10.2.1, .d (.sl (.int .i64)) x10.2.2.1, vi x10.2.2.2], .box [vb x11.1, .d (.sl (.int .i64)) x11.2]]⟩ (by kernel_rfl) (AllP.of (o14) trivial) ?_
            refine then_n (spine_e (then_n (spine_e (then_n (spine_e (then_n (?_)))))))
            obtain ⟨m, hm, h⟩ := h
            exact ⟨m, hm, ⟨116, [(1, vi a2), (2, .d (.sl (.int .i64)) a3), (9, .osl 0 0), (11, .ref 1 0 0), (12, .ref 2 0 0), (31, .d (.sl t_api_Cond) a1), (32, vi (a1.length : Int)), (33, vi x5), (63, .d (.sl (.int .i64)) x10.2.2.1), (64, vi (x10.2.2.1.length : Int)), (65, vi (x15 + (1 : Int)))], [.row t_ref09_Int x23 0, .box [vi x10.1, vi x10.2.1, .d (.sl (.int .i64)) x10.2.2.1, vi x10.2.2.2], .box [vb x11.1, .d (.sl (.int .i64)) x11.2]]⟩, wk_ghosts hk (l := [.keep [1, 2, 9, 11, 12, 31, 32, 33, 63, 64, 65], .keep [1, 2, 9, 11, 12, 31, 32, 33, 63, 64, 65], .keep [1, 2, 9, 11, 12, 31, 32, 33, 63, 64, 65]]) (by kernel_rfl), x15 + (1 : Int), x23, h, rfl⟩
          · replace h := h.2 (of_decide_eq_false hb)
            refine awp_exit (then_x (then_x (then_x (blk_h (then_n (spine_c ?_))))))
            obtain ⟨o15, o16, o17, o18, o19, o20, o21, h⟩ := h
            refine awp_dr tab mixed [1, 2, 9, 31, 32, 33] [] [(10, .dat (.agg [vb ((ref09_Of.fn x10.2.2.2).1), .d (.sl (.int .i64)) ((ref09_Of.fn x10.2.2.2).2)])), (11, .dat (.agg [vb ((ref09_Int_Mul.fn x11 (ref09_Of.fn x10.2.2.2)).1), .d (.sl (.int .i64)) ((ref09_Int_Mul.fn x11 (ref09_Of.fn x10.2.2.2)).2)])), (12, .dat (.agg [vb ((ref09_Int_Add.fn (x16.getD (Int.toNat a2) d_ref09_Int) (ref09_Int_Mul.fn x11 (ref09_Of.fn x10.2.2.2))).1), .d (.sl (.int .i64)) ((ref09_Int_Add.fn (x16.getD (Int.toNat a2) d_ref09_Int) (ref09_Int_Mul.fn x11 (ref09_Of.fn x10.2.2.2))).2)]))] [] ⟨[[], [], [], [], [2, 3], [2, 3, 4], [], [], [7], [7, 8], [7, 8, 9], [6, 7, 8, 9, 10], [2, 3, 4, 5, 6, 7, 8, 9, 10, 11], [0, 1, 2, 3, 4, 5, 6, 7, 8, 9, 10, 11, 12], [0, 1, 2, 3, 4, 5, 6, 7, 8, 9, 10, 11, 12, 13]], [.osl 0 0, vi a2, .osl 0 0, vi a2, .rref 0 0 (Int.toNat a2) 0, .agg [vb ((x16.getD (Int.toNat a2) d_ref09_Int).1), .d (.sl (.int .i64)) ((x16.getD (Int.toNat a2) d_ref09_Int).2)], .agg [vb x11.1, .d (.sl (.int .i64)) x11.2], .ref 1 0 2, .ref 1 0 3, vi x10.2.2.2, .agg [vb ((ref09_Of.fn x10.2.2.2).1), .d (.sl (.int .i64)) ((ref09_Of.fn x10.2.2.2).2)], .agg [vb ((ref09_Int_Mul.fn x11 (ref09_Of.fn x10.2.2.2)).1), .d (.sl (.int .i64)) ((ref09_Int_Mul.fn x11 (ref09_Of.fn x10.2.2.2)).2)], .agg [vb ((ref09_Int_Add.fn (x16.getD (Int.toNat a2) d_ref09_Int) (ref09_Int_Mul.fn x11 (ref09_Of.fn x10.2.2.2))).1), .d (.sl (.int .i64)) ((ref09_Int_Add.fn (x16.getD (Int.toNat a2) d_ref09_Int) (ref09_Int_Mul.fn x11 (ref09_Of.fn x10.2.2.2))).2)], .rref 0 0 (Int.toNat a2) 0, .tup []], [none, none, none, none, some ((0 : Int) ≤ a2 ∧ a2 < (x16.length : Int)), some (Int.toNat a2 < x16.length), none, none, none, none, some (OkC prog 35 [vi x10.2.2.2] (.agg [vb ((ref09_Of.fn x10.2.2.2).1), .d (.sl (.int .i64)) ((ref09_Of.fn x10.2.2.2).2)])), some (OkC prog 36 [.agg [vb x11.1, .d (.sl (.int .i64)) x11.2], .agg [vb ((ref09_Of.fn x10.2.2.2).1), .d (.sl (.int .i64)) ((ref09_Of.fn x10.2.2.2).2)]] (.agg [vb ((ref09_Int_Mul.fn x11 (ref09_Of.fn x10.2.2.2)).1), .d (.sl (.int .i64)) ((ref09_Int_Mul.fn x11 (ref09_Of.fn x10.2.2.2)).2)])), some (OkC prog 48 [.agg [vb ((x16.getD (Int.toNat a2) d_ref09_Int).1), .d (.sl (.int .i64)) ((x16.getD (Int.toNat a2) d_ref09_Int).2)], .agg [vb ((ref09_Int_Mul.fn x11 (ref09_Of.fn x10.2.2.2)).1), .d (.sl (.int .i64)) ((ref09_Int_Mul.fn x11 (ref09_Of.fn x10.2.2.2)).2)]] (.agg [vb ((ref09_Int_Add.fn (x16.getD (Int.toNat a2) d_ref09_Int) (ref09_Int_Mul.fn x11 (ref09_Of.fn x10.2.2.2))).1), .d (.sl (.int .i64)) ((ref09_Int_Add.fn (x16.getD (Int.toNat a2) d_ref09_Int) (ref09_Int_Mul.fn x11 (ref09_Of.fn x10.2.2.2))).2)])), some ((0 : Int) ≤ a2 ∧ a2 < (x16.length : Int)), some (Int.toNat a2 < x16.length)], [14], [([], [.row t_ref09_Int x16 0, .box [vi x10.1, vi x10.2.1, .d (.sl (.int .i64)) x10.2.2.1, vi x10.2.2.2], .box [vb x11.1, .d (.sl (.int .i64)) x11.2]]), ([14], [.row t_ref09_Int (x16.set (Int.toNat a2) (ref09_Int_Add.fn (x16.getD (Int.toNat a2) d_ref09_Int) (ref09_Int_Mul.fn x11 (ref09_Of.fn x10.2.2.2)))) 0, .box [vi x10.1, vi x10.2.1, .d (.sl (.int .i64)) x10.2.2.1, vi x10.2.2.2], .box [vb x11.1, .d (.sl (.int .i64)) x11.2]])]⟩ ⟨116, [(1, vi a2), (2, .d (.sl (.int .i64)) a3), (9, .osl 0 0), (31, .d (.sl t_api_Cond) a1), (32, vi (a1.length : Int)), (33, vi x5)], [.row t_ref09_Int (x16.set (Int.toNat a2) (ref09_Int_Add.fn (x16.getD (Int.toNat a2) d_ref09_Int) (ref09_Int_Mul.fn x11 (ref09_Of.fn x10.2.2.2)))) 0, .box [vi x10.1, vi x10.2.1, .d (.sl (.int .i64)) x10.2.2.1, vi x10.2.2.2], .box [vb x11.1, .d (.sl (.int .i64)) x11.2]]⟩ (by kernel_rfl) (AllO.n (AllO.n (AllO.n (AllO.n (AllO.s (o15) (AllO.s (o16) (AllO.n (AllO.n (AllO.n (AllO.n (AllO.s (ok_ref09_Of x10.2.2.2 (o17)) (AllO.s (ok_ref09_Int_Mul x11 (ref09_Of.fn x10.2.2.2) (o18)) (AllO.s (ok_ref09_Int_Add (x16.getD (Int.toNat a2) d_ref09_Int) (ref09_Int_Mul.fn x11 (ref09_Of.fn x10.2.2.2)) (o19)) (AllO.s (o20) (AllO.s (o21) (AllO.e)))))))))))))))) ?_
            refine then_n (spine_e (then_n (spine_e (then_n (spine_e (then_n (spine_e (blk_n (then_n (spine_c ?_))))))))))
            refine awp_abs (fun (x24 : ref09_Int) => ⟨116, [(1, vi a2), (2, .d (.sl (.int .i64)) a3), (9, .osl 0 0), (31, .d (.sl t_api_Cond) a1), (32, vi (a1.length : Int)), (33, vi x5)], [.row t_ref09_Int (x16.set (Int.toNat a2) (ref09_Int_Add.fn (x16.getD (Int.toNat a2) d_ref09_Int) (ref09_Int_Mul.fn x11 x24))) 0, .box [vi x10.1, vi x10.2.1, .d (.sl (.int .i64)) x10.2.2.1, vi x10.2.2.2], .box [vb x11.1, .d (.sl (.int .i64)) x11.2]]⟩) (ref09_Of.fn x10.2.2.2) ?_
            intro x24 hx24
            replace h := h x24 hx24
            refine awp_abs (fun (x25 : ref09_Int) => ⟨116, [(1, vi a2), (2, .d (.sl (.int .i64)) a3), (9, .osl 0 0), (31, .d (.sl t_api_Cond) a1), (32, vi (a1.length : Int)), (33, vi x5)], [.row t_ref09_Int (x16.set (Int.toNat a2) (ref09_Int_Add.fn (x16.getD (Int.toNat a2) d_ref09_Int) x25)) 0, .box [vi x10.1, vi x10.2.1, .d (.sl (.int .i64)) x10.2.2.1, vi x10.2.2.2], .box [vb x11.1, .d (.sl (.int .i64)) x11.2]]⟩) (ref09_Int_Mul.fn x11 x24) ?_
            intro x25 hx25
            replace h := h x25 hx25
            refine awp_abs (fun (x26 : ref09_Int) => ⟨116, [(1, vi a2), (2, .d (.sl (.int .i64)) a3), (9, .osl 0 0), (31, .d (.sl t_api_Cond) a1), (32, vi (a1.length : Int)), (33, vi x5)], [.row t_ref09_Int (x16.set (Int.toNat a2) x26) 0, .box [vi x10.1, vi x10.2.1, .d (.sl (.int .i64)) x10.2.2.1, vi x10.2.2.2], .box [vb x11.1, .d (.sl (.int .i64)) x11.2]]⟩) (ref09_Int_Add.fn (x16.getD (Int.toNat a2) d_ref09_Int) x25) ?_
            intro x26 hx26
            replace h := h x26 hx26
            refine awp_abs (fun (x27 : (List ref09_Int)) => ⟨116, [(1, vi a2), (2, .d (.sl (.int .i64)) a3), (9, .osl 0 0), (31, .d (.sl t_api_Cond) a1), (32, vi (a1.length : Int)), (33, vi x5)], [.row t_ref09_Int x27 0, .box [vi x10.1, vi x10.2.1, .d (.sl (.int .i64)) x10.2.2.1, vi x10.2.2.2], .box [vb x11.1, .d (.sl (.int .i64)) x11.2]]⟩) (x16.set (Int.toNat a2) x26) ?_
            intro x27 hx27
            replace h := h x27 hx27
            obtain ⟨o22, h⟩ := h
            refine awp_rc tab [1, 2, 9, 31, 32, 33] [] [] [] [-9223372036854775808 ≤ x5 + (1 : Int) ∧ x5 + (1 : Int) ≤ 9223372036854775807] ⟨116, [(1, vi a2), (2, .d (.sl (.int .i64)) a3), (9, .osl 0 0), (31, .d (.sl t_api_Cond) a1), (32, vi (a1.length : Int)), (33, vi (x5 + (1 : Int)))], [.row t_ref09_Int x27 0, .box [vi x10.1, vi x10.2.1, .d (.sl (.int .i64)) x10.2.2.1, vi x10.2.2.2], .box [vb x11.1, .d (.sl (.int .i64)) x11.2]]⟩ (by kernel_rfl) (AllP.of (o22) trivial) ?_
            refine then_n (spine_e (then_n (spine_e (then_n (spine_e (then_n (?_)))))))
            obtain ⟨m, hm, h⟩ := h
            exact ⟨m, hm, ⟨116, [(1, vi a2), (2, .d (.sl (.int .i64)) a3), (9, .osl 0 0), (31, .d (.sl t_api_Cond) a1), (32, vi (a1.length : Int)), (33, vi (x5 + (1 : Int)))], [.row t_ref09_Int x27 0]⟩, wk_ghosts hk (l := [.keep [1, 2, 9, 31, 32, 33], .keep [1, 2, 9, 31, 32, 33], .cut 1, .keep [1, 2, 9, 31, 32, 33]]) (by kernel_rfl), x5 + (1 : Int), x27, h, rfl⟩
      · replace h := h.2 (of_decide_eq_false hb)
        refine awp_exit (then_x (then_x (then_x (blk_h (then_n (spine_c ?_))))))
        refine awp_spine ?_
        refine awp_gh hk [.freeze 0, .keep [1, 2, 9, 31, 32, 33, 34]] ⟨116, [(1, vi a2), (2, .d (.sl (.int .i64)) a3), (9, .d (.sl t_ref09_Int) x6), (31, .d (.sl t_api_Cond) a1), (32, vi (a1.length : Int)), (33, vi x5), (34, vb (decide (x5 < (a1.length : Int))))], [.dead]⟩ (by kernel_rfl) ?_
        obtain ⟨o23, h⟩ := h
        refine awp_rc tab [1, 9, 100, 101, 102] [] [] [] [(0 : Int) ≤ a2 ∧ a2 ≤ (x6.length : Int)] ⟨116, [(1, vi a2), (9, .d (.sl t_ref09_Int) x6), (100, .d (.sl t_ref09_Int) (x6.take (Int.toNat a2))), (101, vi ((x6.take (Int.toNat a2)).length : Int)), (102, vi (0 : Int))], [.dead]⟩ (by kernel_rfl) (AllP.of (o23) trivial) ?_
        refine then_n (spine_c ?_)
        refine awp_abs (fun (x28 : Int) => ⟨116, [(1, vi a2), (9, .d (.sl t_ref09_Int) x6), (100, .d (.sl t_ref09_Int) (x6.take (Int.toNat a2))), (101, vi x28), (102, vi (0 : Int))], [.dead]⟩) (((x6.take (Int.toNat a2)).length : Int)) ?_
        intro x28 hx28
        replace h := h x28 hx28
        refine awp_len 100 [] (T := t_ref09_Int) (l := x6.take (Int.toNat a2)) (by kernel_rfl) fun hl => ?_
        replace h := h hl
        refine awp_block ?_
        obtain ⟨I32, ⟨n32a, hz32⟩, hI32⟩ := h
        refine awp_loopN (fun n s => ∃ (x30 : Int), I32 n x30 ∧ s = ⟨116, [(1, vi a2), (9, .d (.sl t_ref09_Int) x6), (100, .d (.sl t_ref09_Int) (x6.take (Int.toNat a2))), (101, vi x28), (102, vi x30)], []⟩) (n := n32a) (s0 := ⟨116, [(1, vi a2), (9, .d (.sl t_ref09_Int) x6), (100, .d (.sl t_ref09_Int) (x6.take (Int.toNat a2))), (101, vi x28), (102, vi (0 : Int))], []⟩) (wk_ghosts hk (l := [.keep [1, 9, 100, 101, 102], .keep [1, 9, 100, 101, 102], .keep [1, 9, 100, 101, 102], .cut 0, .keep [1, 9, 100, 101, 102]]) (by kernel_rfl)) ⟨0, hz32, rfl⟩ ?_
        rintro n32 s ⟨x30, hx32, rfl⟩
        have h := hI32 n32 x30 hx32
        refine awp_spine ?_
        refine awp_rc tab [1, 9, 100, 101, 102, 103] [] [] [] [] ⟨116, [(1, vi a2), (9, .d (.sl t_ref09_Int) x6), (100, .d (.sl t_ref09_Int) (x6.take (Int.toNat a2))), (101, vi x28), (102, vi x30), (103, vb (decide (x30 < x28)))], []⟩ (by kernel_rfl) (trivial) ?_
        refine then_n (spine_c ?_)
        refine awp_spine ?_
        refine awp_cond (b := decide (x30 < x28)) (by kernel_rfl) (fun hb => ?_) (fun hb => ?_)
        · replace h := h.1 (of_decide_eq_true hb)
          refine awp_skip (then_n (spine_c ?_))
          refine awp_spine ?_
          refine awp_block ?_
          refine awp_spine ?_
          obtain ⟨o24, h⟩ := h
          refine awp_rc tab [1, 9, 16, 100, 101, 102] [] [] [] [(0 : Int) ≤ x30 ∧ x30 < ((x6.take (Int.toNat a2)).length : Int)] ⟨116, [(1, vi a2), (9, .d (.sl t_ref09_Int) x6), (16, .ref 0 0 0), (100, .d (.sl t_ref09_Int) (x6.take (Int.toNat a2))), (101, vi x28), (102, vi x30)], [.box [vb (((x6.take (Int.toNat a2)).getD (Int.toNat x30) d_ref09_Int).1), .d (.sl (.int .i64)) (((x6.take (Int.toNat a2)).getD (Int.toNat x30) d_ref09_Int).2)]]⟩ (by kernel_rfl) (AllP.of (o24) trivial) ?_
          refine then_n (spine_c ?_)
          refine awp_abs (fun (x33 : ref09_Int) => ⟨116, [(1, vi a2), (9, .d (.sl t_ref09_Int) x6), (16, .ref 0 0 0), (100, .d (.sl t_ref09_Int) (x6.take (Int.toNat a2))), (101, vi x28), (102, vi x30)], [.box [vb x33.1, .d (.sl (.int .i64)) x33.2]]⟩) ((x6.take (Int.toNat a2)).getD (Int.toNat x30) d_ref09_Int) ?_
          intro x33 hx33
          replace h := h x33 hx33
          refine awp_spine ?_
          refine awp_rc tab [1, 9, 100, 101, 102, 108] [] [(1, .dat (vi (ref09_Int_Sign.fn x33)))] [] [OkC prog 47 [.agg [vb x33.1, .d (.sl (.int .i64)) x33.2]] (vi (ref09_Int_Sign.fn x33))] ⟨116, [(1, vi a2), (9, .d (.sl t_ref09_Int) x6), (100, .d (.sl t_ref09_Int) (x6.take (Int.toNat a2))), (101, vi x28), (102, vi x30), (108, vb ((ref09_Int_Sign.fn x33) != (0 : Int)))], [.box [vb x33.1, .d (.sl (.int .i64)) x33.2]]⟩ (by kernel_rfl) (AllP.of (ok_ref09_Int_Sign x33) trivial) ?_
          refine then_n (spine_c ?_)
          refine awp_abs (fun (x34 : Int) => ⟨116, [(1, vi a2), (9, .d (.sl t_ref09_Int) x6), (100, .d (.sl t_ref09_Int) (x6.take (Int.toNat a2))), (101, vi x28), (102, vi x30), (108, vb (x34 != (0 : Int)))], [.box [vb x33.1, .d (.sl (.int .i64)) x33.2]]⟩) (ref09_Int_Sign.fn x33) ?_
          intro x34 hx34
          replace h := h x34 hx34
          refine awp_cond (b := x34 != (0 : Int)) (by kernel_rfl) (fun hb => ?_) (fun hb => ?_)
          · replace h := h.1 (bne_iff_ne.mp hb)
            refine awp_spine ?_
            refine awp_rc tab [6, 7] [] [] [] [] ⟨116, [(6, vb false), (7, vi (0 : Int))], [.box [vb x33.1, .d (.sl (.int .i64)) x33.2]]⟩ (by kernel_rfl) (trivial) ?_
            refine then_n (spine_c ?_)
            refine awp_ret (then_r (then_r (then_r (blk_r (then_r (then_r (then_r (then_r (blk_r (then_r (then_r (then_r (then_r (then_r (then_r (?_))))))))))))))))
            exact ret_r (m := 0) (r := .tup [vb ((false, 0).1), vi ((false, 0).2)]) (objs := []) hk [.keep [6, 7]] ⟨116, [(6, vb false), (7, vi (0 : Int))], [.box [vb x33.1, .d (.sl (.int .i64)) x33.2]]⟩ (by kernel_rfl) (by kernel_rfl) (Nat.le_refl 0) ⟨(false, 0), rfl, rfl, h⟩
          · replace h := h.2 (bne_f hb)
            refine awp_skip (then_n (spine_e (then_n (spine_e (blk_n (then_n (spine_c ?_)))))))
            obtain ⟨o25, h⟩ := h
            refine awp_rc tab [1, 9, 100, 101, 102] [] [] [] [-9223372036854775808 ≤ x30 + (1 : Int) ∧ x30 + (1 : Int) ≤ 9223372036854775807] ⟨116, [(1, vi a2), (9, .d (.sl t_ref09_Int) x6), (100, .d (.sl t_ref09_Int) (x6.take (Int.toNat a2))), (101, vi x28), (102, vi (x30 + (1 : Int)))], [.box [vb x33.1, .d (.sl (.int .i64)) x33.2]]⟩ (by kernel_rfl) (AllP.of (o25) trivial) ?_
            refine then_n (spine_e (then_n (spine_e (then_n (spine_e (then_n (?_)))))))
            obtain ⟨m, hm, h⟩ := h
            exact ⟨m, hm, ⟨116, [(1, vi a2), (9, .d (.sl t_ref09_Int) x6), (100, .d (.sl t_ref09_Int) (x6.take (Int.toNat a2))), (101, vi x28), (102, vi (x30 + (1 : Int)))], []⟩, wk_ghosts hk (l := [.keep [1, 9, 100, 101, 102], .keep [1, 9, 100, 101, 102], .cut 0, .keep [1, 9, 100, 101, 102]]) (by kernel_rfl), x30 + (1 : Int), h, rfl⟩
        · replace h := h.2 (of_decide_eq_false hb)
          refine awp_exit (then_x (then_x (then_x (blk_h (then_n (spine_c ?_))))))
          refine awp_spine ?_
          obtain ⟨o26, h⟩ := h
          refine awp_rc tab [6, 7] [] [(4, .dat (vi (ref09_Int_Sign.fn (x6.getD (Int.toNat a2) d_ref09_Int))))] [] [(0 : Int) ≤ a2 ∧ a2 < (x6.length : Int), OkC prog 47 [.agg [vb ((x6.getD (Int.toNat a2) d_ref09_Int).1), .d (.sl (.int .i64)) ((x6.getD (Int.toNat a2) d_ref09_Int).2)]] (vi (ref09_Int_Sign.fn (x6.getD (Int.toNat a2) d_ref09_Int)))] ⟨116, [(6, vb (decide ((ref09_Int_Sign.fn (x6.getD (Int.toNat a2) d_ref09_Int)) < (0 : Int)))), (7, vi (0 : Int))], []⟩ (by kernel_rfl) (AllP.of (o26) (AllP.of (ok_ref09_Int_Sign (x6.getD (Int.toNat a2) d_ref09_Int)) trivial)) ?_
          refine then_n (spine_c ?_)
          refine awp_abs (fun (x35 : Int) => ⟨116, [(6, vb (decide (x35 < (0 : Int)))), (7, vi (0 : Int))], []⟩) (ref09_Int_Sign.fn (x6.getD (Int.toNat a2) d_ref09_Int)) ?_
          intro x35 hx35
          replace h := h x35 hx35
          refine awp_ret (then_r (then_r (then_r (then_r (then_r (then_r (then_r (?_))))))))
          exact ret_r (m := 0) (r := .tup [vb ((decide (x35 < (0 : Int)), 0).1), vi ((decide (x35 < (0 : Int)), 0).2)]) (objs := []) hk [.keep [6, 7]] ⟨116, [(6, vb (decide (x35 < (0 : Int)))), (7, vi (0 : Int))], []⟩ (by kernel_rfl) (by kernel_rfl) (Nat.le_refl 0) ⟨(decide (x35 < (0 : Int)), 0), rfl, rfl, h⟩
theorem ok_ref09_Check (a1 : (List api_Cond)) (a2 : Int) (a3 : (List Int)) (h : ref09_Check.pre a1 a2 a3) : OkC prog 21 [.d (.sl t_api_Cond) a1, vi a2, .d (.sl (.int .i64)) a3] (.tup [vb ((ref09_Check.fn a1 a2 a3).1), vi ((ref09_Check.fn a1 a2 a3).2)]) :=
  OkC.of call_ref09_Check ((walk_ref09_Check a1 a2 a3 _ (ref09_Check.spec a1 a2 a3 h)).mono fun r o ⟨x, hr, ho, hx⟩ => ⟨by rw [hr, hx], ho⟩) rfl rfl (fun _ => rfl)

noncomputable abbrev Blaw09_FarkasChecks : Code := bodyOf Try.f6
theorem call_law09_FarkasChecks : CallOk prog 6 := ⟨_, Try.func6, by kernel_rfl, by kernel_rfl⟩
theorem walk_law09_FarkasChecks (a1 : (List api_Cond)) (a2 : Int) (a3 : (List Int)) (Q : Bool → Prop) (h : law09_FarkasChecks.wp a1 a2 a3 Q) : VCalls prog 6 [.d (.sl t_api_Cond) a1, vi a2, .d (.sl (.int .i64)) a3] [] (fun r o => ∃ x, r = vb x ∧ o = [] ∧ Q x) := by
  refine vcalls_body tab Try.func6 (c := (spine (subC [0] Blaw09_FarkasChecks) [(spine (subC [1, 0, 0] Blaw09_FarkasChecks) [(.cond (.tmp 18) (spine (subC [1, 0, 1, 0, 0] Blaw09_FarkasChecks) [.ret]) .skip), (spine (subC [1, 1, 0] Blaw09_FarkasChecks) [(spine (subC [1, 1, 1, 0] Blaw09_FarkasChecks) [(spine (subC [1, 1, 1, 1, 0] Blaw09_FarkasChecks) [.ret])])])])])) (by kernel_rfl) (Nat.le_of_ble_eq_true (by kernel_rfl)) fun cx hd hi hk => ?_
  show AWp prog cx _ _ ⟨45, [(0, .d (.sl t_api_Cond) a1), (1, vi a2), (2, .d (.sl (.int .i64)) a3)], []⟩
  replace hk : cx.E.len = 0 := hk
  unfold law09_FarkasChecks.wp at h
  refine awp_spine ?_
  refine awp_rc tab [0, 1, 2] [] [] [] [] ⟨45, [(0, .d (.sl t_api_Cond) a1), (1, vi a2), (2, .d (.sl (.int .i64)) a3)], []⟩ (by kernel_rfl) (trivial) ?_
  refine then_n (spine_c ?_)
  refine awp_spine ?_
  refine awp_rc tab [0, 1, 2, 18] [] [] [] [(!(decide ((a1.length : Int) > (100 : Int)))) = true → (!(decide ((a1.length : Int) > (100 : Int)))) = true ∧ True, (!(decide ((a1.length : Int) > (100 : Int)))) = true → (!(decide ((a1.length : Int) > (100 : Int)))) = true ∧ True, (decide ((a1.length : Int) > (100 : Int))) = false → (!(decide ((a1.length : Int) > (100 : Int)))) = true] ⟨45, [(0, .d (.sl t_api_Cond) a1), (1, vi a2), (2, .d (.sl (.int .i64)) a3), (18, vb ((decide ((a1.length : Int) > (100 : Int))) || (decide ((a3.length : Int) > (200 : Int)))))], []⟩ (by kernel_rfl) (AllP.of (fun hg => ⟨hg, trivial⟩) (AllP.of (fun hg => ⟨hg, trivial⟩) (AllP.of (fun hc => not_f hc) trivial))) ?_
  refine then_n (spine_c ?_)
  refine awp_len 0 [] (T := t_api_Cond) (l := a1) (by kernel_rfl) fun hl => ?_
  replace h := h hl
  refine awp_cond (b := (decide ((a1.length : Int) > (100 : Int))) || (decide ((a3.length : Int) > (200 : Int)))) (by kernel_rfl) (fun hb => ?_) (fun hb => ?_)
  · replace h := h.1 (hb)
    refine awp_spine ?_
    obtain ⟨o1, h⟩ := h
    refine awp_rc tab [6] [] [(0, .dat (vb law09_awake.fn))] [] [OkC prog 10 [] (vb law09_awake.fn)] ⟨45, [(6, vb law09_awake.fn)], []⟩ (by kernel_rfl) (AllP.of (ok_law09_awake (o1)) trivial) ?_
    refine then_n (spine_c ?_)
    refine awp_ret (then_r (then_r (then_r (?_))))
    exact ret_r (m := 0) (r := vb law09_awake.fn) (objs := []) hk [.keep [6]] ⟨45, [(6, vb law09_awake.fn)], []⟩ (by kernel_rfl) (by kernel_rfl) (Nat.le_refl 0) ⟨law09_awake.fn, rfl, rfl, h⟩
  · replace h := h.2 (hb)
    refine awp_skip (then_n (spine_c ?_))
    refine awp_spine ?_
    obtain ⟨o2, h⟩ := h
    refine awp_rc tab [0, 1, 2, 7, 8] [] [(3, .dat (.tup [vb ((farkas_Check.fn a1 a2 a3).1), vi ((farkas_Check.fn a1 a2 a3).2)]))] [] [OkC prog 20 [.d (.sl t_api_Cond) a1, vi a2, .d (.sl (.int .i64)) a3] (.tup [vb ((farkas_Check.fn a1 a2 a3).1), vi ((farkas_Check.fn a1 a2 a3).2)])] ⟨45, [(0, .d (.sl t_api_Cond) a1), (1, vi a2), (2, .d (.sl (.int .i64)) a3), (7, vb ((farkas_Check.fn a1 a2 a3).1)), (8, vi ((farkas_Check.fn a1 a2 a3).2))], []⟩ (by kernel_rfl) (AllP.of (ok_farkas_Check a1 a2 a3 (o2)) trivial) ?_
    refine then_n (spine_c ?_)
    refine awp_abs (fun (x1 : Bool × Int) => ⟨45, [(0, .d (.sl t_api_Cond) a1), (1, vi a2), (2, .d (.sl (.int .i64)) a3), (7, vb x1.1), (8, vi x1.2)], []⟩) (farkas_Check.fn a1 a2 a3) ?_
    intro x1 hx1
    replace h := h x1 hx1
    refine awp_spine ?_
    obtain ⟨o3, h⟩ := h
    refine awp_rc tab [7, 8, 9, 10] [] [(3, .dat (.tup [vb ((ref09_Check.fn a1 a2 a3).1), vi ((ref09_Check.fn a1 a2 a3).2)]))] [] [OkC prog 21 [.d (.sl t_api_Cond) a1, vi a2, .d (.sl (.int .i64)) a3] (.tup [vb ((ref09_Check.fn a1 a2 a3).1), vi ((ref09_Check.fn a1 a2 a3).2)])] ⟨45, [(7, vb x1.1), (8, vi x1.2), (9, vb ((ref09_Check.fn a1 a2 a3).1)), (10, vi ((ref09_Check.fn a1 a2 a3).2))], []⟩ (by kernel_rfl) (AllP.of (ok_ref09_Check a1 a2 a3 (o3)) trivial) ?_
    refine then_n (spine_c ?_)
    refine awp_abs (fun (x2 : Bool × Int) => ⟨45, [(7, vb x1.1), (8, vi x1.2), (9, vb x2.1), (10, vi x2.2)], []⟩) (ref09_Check.fn a1 a2 a3) ?_
    intro x2 hx2
    replace h := h x2 hx2
    refine awp_spine ?_
    obtain ⟨o4, h⟩ := h
    refine awp_rc tab [6] [] [(9, .dat (vb law09_awake.fn))] [] [(x1.1 == x2.1) = true → (x1.1 == x2.1) = true ∧ ((x1.1 == x2.1) = true ∧ True), (x1.1 == x2.1) = true → (x1.1 == x2.1) = true, ((x1.1 == x2.1) && (x1.2 == x2.2)) = true → OkC prog 10 [] (vb law09_awake.fn), ((x1.1 == x2.1) && (x1.2 == x2.2)) = true → ((x1.1 == x2.1) && (x1.2 == x2.2)) = true] ⟨45, [(6, vb (((x1.1 == x2.1) && (x1.2 == x2.2)) && law09_awake.fn))], []⟩ (by kernel_rfl) (AllP.of (fun hg => ⟨hg, hg, trivial⟩) (AllP.of (fun hc => hc) (AllP.of (fun hg => ok_law09_awake ((o4 hg))) (AllP.of (fun hc => hc) trivial)))) ?_
    refine then_n (spine_c ?_)
    refine awp_ret (then_r (then_r (then_r (then_r (then_r (?_))))))
    exact ret_r (m := 0) (r := vb (((x1.1 == x2.1) && (x1.2 == x2.2)) && law09_awake.fn)) (objs := []) hk [.keep [6]] ⟨45, [(6, vb (((x1.1 == x2.1) && (x1.2 == x2.2)) && law09_awake.fn))], []⟩ (by kernel_rfl) (by kernel_rfl) (Nat.le_refl 0) ⟨((x1.1 == x2.1) && (x1.2 == x2.2)) && law09_awake.fn, rfl, rfl, h⟩
theorem ok_law09_FarkasChecks (a1 : (List api_Cond)) (a2 : Int) (a3 : (List Int)) (h : law09_FarkasChecks.pre a1 a2 a3) : OkC prog 6 [.d (.sl t_api_Cond) a1, vi a2, .d (.sl (.int .i64)) a3] (vb (law09_FarkasChecks.fn a1 a2 a3)) :=
  OkC.of call_law09_FarkasChecks ((walk_law09_FarkasChecks a1 a2 a3 _ (law09_FarkasChecks.spec a1 a2 a3 h)).mono fun r o ⟨x, hr, ho, hx⟩ => ⟨by rw [hr, hx], ho⟩) rfl rfl (fun _ => rfl)

end Go.Proofs.Ytlncingakpelbaa
