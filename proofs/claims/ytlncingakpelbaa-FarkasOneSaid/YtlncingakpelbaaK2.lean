/- Part of a proof that a law of the program holds for every input: printed by a program of this work. No conditions. -/
import Derived.Test.YtlncingakpelbaaK1
namespace Go.Proofs.Ytlncingakpelbaa
open Go
set_option linter.unusedVariables false
set_option maxHeartbeats 4000000

noncomputable abbrev Bslices_ContainsFunc_Sapi_Cond_api_Cond__farkas_asked_2 : Code := bodyOf Try.f51
theorem call_slices_ContainsFunc_Sapi_Cond_api_Cond__farkas_asked_2 : CallOk prog 51 := ⟨_, Try.func51, by kernel_rfl, by kernel_rfl⟩
theorem walk_slices_ContainsFunc_Sapi_Cond_api_Cond__farkas_asked_2 (a1 : (List api_Cond)) (a2 : Int) (Q : Bool → Prop) (h : slices_ContainsFunc_Sapi_Cond_api_Cond__farkas_asked_2.wp a1 a2 Q) : VCalls prog 51 [.d (.sl t_api_Cond) a1, .fn (.func 54) [] [.er [vi a2]]] [] (fun r o => ∃ x, r = vb x ∧ o = [] ∧ Q x) := by
  refine vcalls_body tab Try.func51 (c := (spine (subC [0] Bslices_ContainsFunc_Sapi_Cond_api_Cond__farkas_asked_2) [(spine (subC [1, 0] Bslices_ContainsFunc_Sapi_Cond_api_Cond__farkas_asked_2) [.ret])])) (by kernel_rfl) (Nat.le_of_ble_eq_true (by kernel_rfl)) fun cx hd hi hk => ?_
  show AWp prog cx _ _ ⟨9, [(0, .d (.sl t_api_Cond) a1), (1, .fn (.func 54) [] [.er [vi a2]])], []⟩
  replace hk : cx.E.len = 0 := hk
  unfold slices_ContainsFunc_Sapi_Cond_api_Cond__farkas_asked_2.wp at h
  refine awp_spine ?_
  refine awp_rc tab [0, 1] [] [] [] [] ⟨9, [(0, .d (.sl t_api_Cond) a1), (1, .fn (.func 54) [] [.er [vi a2]])], []⟩ (by kernel_rfl) (trivial) ?_
  refine then_n (spine_c ?_)
  refine awp_spine ?_
  refine awp_rc tab [4] [] [(2, .dat (vi (slices_IndexFunc_Sapi_Cond_api_Cond__farkas_asked_2.fn a1 a2)))] [] [OkC prog 76 [.d (.sl t_api_Cond) a1, .fn (.func 54) [] [.er [vi a2]]] (vi (slices_IndexFunc_Sapi_Cond_api_Cond__farkas_asked_2.fn a1 a2))] ⟨9, [(4, vb (decide ((slices_IndexFunc_Sapi_Cond_api_Cond__farkas_asked_2.fn a1 a2) ≥ (0 : Int))))], []⟩ (by kernel_rfl) (AllP.of (ok_slices_IndexFunc_Sapi_Cond_api_Cond__farkas_asked_2 a1 a2) trivial) ?_
  refine then_n (spine_c ?_)
  refine awp_abs (fun (x1 : Int) => ⟨9, [(4, vb (decide (x1 ≥ (0 : Int))))], []⟩) (slices_IndexFunc_Sapi_Cond_api_Cond__farkas_asked_2.fn a1 a2) ?_
  intro x1 hx1
  replace h := h x1 hx1
  refine awp_ret (then_r (then_r (?_)))
  exact ret_r (m := 0) (r := vb (decide (x1 ≥ (0 : Int)))) (objs := []) hk [.keep [4]] ⟨9, [(4, vb (decide (x1 ≥ (0 : Int))))], []⟩ (by kernel_rfl) (by kernel_rfl) (Nat.le_refl 0) ⟨decide (x1 ≥ (0 : Int)), rfl, rfl, h⟩
theorem ok_slices_ContainsFunc_Sapi_Cond_api_Cond__farkas_asked_2 (a1 : (List api_Cond)) (a2 : Int) : OkC prog 51 [.d (.sl t_api_Cond) a1, .fn (.func 54) [] [.er [vi a2]]] (vb (slices_ContainsFunc_Sapi_Cond_api_Cond__farkas_asked_2.fn a1 a2)) :=
  OkC.of call_slices_ContainsFunc_Sapi_Cond_api_Cond__farkas_asked_2 ((walk_slices_ContainsFunc_Sapi_Cond_api_Cond__farkas_asked_2 a1 a2 _ (slices_ContainsFunc_Sapi_Cond_api_Cond__farkas_asked_2.spec a1 a2)).mono fun r o ⟨x, hr, ho, hx⟩ => ⟨by rw [hr, hx], ho⟩) rfl rfl (fun _ => rfl)

noncomputable abbrev Bfarkas_asked : Code := bodyOf Try.f25
theorem call_farkas_asked : CallOk prog 25 := ⟨_, Try.func25, by kernel_rfl, by kernel_rfl⟩
theorem walk_farkas_asked (a1 : (List api_Cond)) (a2 : Int) (Q : Int → Prop) (h : farkas_asked.wp a1 a2 Q) : VCalls prog 25 [.d (.sl t_api_Cond) a1, vi a2] [] (fun r o => ∃ x, r = vi x ∧ o = [] ∧ Q x) := by
  refine vcalls_body tab Try.func25 (c := (spine (subC [0] Bfarkas_asked) [(spine (.block 0 (spine (subC [1, 0, 0, 0] Bfarkas_asked) [(.cond (.tmp 5) (spine (subC [1, 0, 0, 1, 0, 0] Bfarkas_asked) [.ret]) (spine (subC [1, 0, 0, 1, 1, 0] Bfarkas_asked) [(.cond (.tmp 12) (spine (subC [1, 0, 0, 1, 1, 1, 0, 0] Bfarkas_asked) [.ret]) (spine (subC [1, 0, 0, 1, 1, 1, 1, 0] Bfarkas_asked) [(.cond (.tmp 16) (spine (subC [1, 0, 0, 1, 1, 1, 1, 1, 0, 0] Bfarkas_asked) [.ret]) (spine (subC [1, 0, 0, 1, 1, 1, 1, 1, 1, 0] Bfarkas_asked) [(.cond (.tmp 19) (spine (subC [1, 0, 0, 1, 1, 1, 1, 1, 1, 1, 0, 0] Bfarkas_asked) [.ret]) .skip)]))]))]))])) [(spine (subC [1, 1, 0] Bfarkas_asked) [.ret])])])) (by kernel_rfl) (Nat.le_of_ble_eq_true (by kernel_rfl)) fun cx hd hi hk => ?_
  show AWp prog cx _ _ ⟨23, [(0, .d (.sl t_api_Cond) a1), (1, vi a2)], []⟩
  replace hk : cx.E.len = 0 := hk
  unfold farkas_asked.wp at h
  refine awp_spine ?_
  refine awp_rc tab [0, 3] [] [] [0] [] ⟨23, [(0, .d (.sl t_api_Cond) a1), (3, .er [vi a2])], []⟩ (by kernel_rfl) (trivial) ?_
  refine then_n (spine_c ?_)
  refine awp_spine ?_
  refine awp_block ?_
  refine awp_spine ?_
  refine awp_rc tab [0, 3, 5] [] [] [] [(!(decide (a2 < (0 : Int)))) = true → (!(decide (a2 < (0 : Int)))) = true ∧ True, (decide (a2 < (0 : Int))) = false → (!(decide (a2 < (0 : Int)))) = true] ⟨23, [(0, .d (.sl t_api_Cond) a1), (3, .er [vi a2]), (5, vb ((decide (a2 < (0 : Int))) || (decide (a2 > (12 : Int)))))], []⟩ (by kernel_rfl) (AllP.of (fun hg => ⟨hg, trivial⟩) (AllP.of (fun hc => not_f hc) trivial)) ?_
  refine then_n (spine_c ?_)
  refine awp_cond (b := (decide (a2 < (0 : Int))) || (decide (a2 > (12 : Int)))) (by kernel_rfl) (fun hb => ?_) (fun hb => ?_)
  · replace h := h.1 (hb)
    refine awp_spine ?_
    refine awp_rc tab [4] [] [] [] [] ⟨23, [(4, vi (6 : Int))], []⟩ (by kernel_rfl) (trivial) ?_
    refine then_n (spine_c ?_)
    refine awp_ret (then_r (then_r (blk_r (then_r (then_r (?_))))))
    exact ret_r (m := 0) (r := vi (6 : Int)) (objs := []) hk [.keep [4]] ⟨23, [(4, vi (6 : Int))], []⟩ (by kernel_rfl) (by kernel_rfl) (Nat.le_refl 0) ⟨6, rfl, rfl, h⟩
  · replace h := h.2 (hb)
    refine awp_spine ?_
    refine awp_rc tab [0, 3, 12] [] [] [] [] ⟨23, [(0, .d (.sl t_api_Cond) a1), (3, .er [vi a2]), (12, vb (decide ((a1.length : Int) > (96 : Int))))], []⟩ (by kernel_rfl) (trivial) ?_
    refine then_n (spine_c ?_)
    refine awp_len 0 [] (T := t_api_Cond) (l := a1) (by kernel_rfl) fun hl => ?_
    replace h := h hl
    refine awp_cond (b := decide ((a1.length : Int) > (96 : Int))) (by kernel_rfl) (fun hb => ?_) (fun hb => ?_)
    · replace h := h.1 (of_decide_eq_true hb)
      refine awp_spine ?_
      refine awp_rc tab [4] [] [] [] [] ⟨23, [(4, vi (3 : Int))], []⟩ (by kernel_rfl) (trivial) ?_
      refine then_n (spine_c ?_)
      refine awp_ret (then_r (then_r (then_r (blk_r (then_r (then_r (?_)))))))
      exact ret_r (m := 0) (r := vi (3 : Int)) (objs := []) hk [.keep [4]] ⟨23, [(4, vi (3 : Int))], []⟩ (by kernel_rfl) (by kernel_rfl) (Nat.le_refl 0) ⟨3, rfl, rfl, h⟩
    · replace h := h.2 (of_decide_eq_false hb)
      refine awp_spine ?_
      refine awp_rc tab [0, 3, 16] [] [(1, .dat (vb (slices_ContainsFunc_Sapi_Cond_api_Cond__farkas_asked_1.fn a1)))] [] [OkC prog 51 [.d (.sl t_api_Cond) a1, .fn (.func 52) [] []] (vb (slices_ContainsFunc_Sapi_Cond_api_Cond__farkas_asked_1.fn a1))] ⟨23, [(0, .d (.sl t_api_Cond) a1), (3, .er [vi a2]), (16, vb (slices_ContainsFunc_Sapi_Cond_api_Cond__farkas_asked_1.fn a1))], []⟩ (by kernel_rfl) (AllP.of (ok_slices_ContainsFunc_Sapi_Cond_api_Cond__farkas_asked_1 a1) trivial) ?_
      refine then_n (spine_c ?_)
      refine awp_cond (b := slices_ContainsFunc_Sapi_Cond_api_Cond__farkas_asked_1.fn a1) (by kernel_rfl) (fun hb => ?_) (fun hb => ?_)
      · replace h := h.1 (hb)
        refine awp_spine ?_
        refine awp_rc tab [4] [] [] [] [] ⟨23, [(4, vi (1 : Int))], []⟩ (by kernel_rfl) (trivial) ?_
        refine then_n (spine_c ?_)
        refine awp_ret (then_r (then_r (then_r (then_r (blk_r (then_r (then_r (?_))))))))
        exact ret_r (m := 0) (r := vi (1 : Int)) (objs := []) hk [.keep [4]] ⟨23, [(4, vi (1 : Int))], []⟩ (by kernel_rfl) (by kernel_rfl) (Nat.le_refl 0) ⟨1, rfl, rfl, h⟩
      · replace h := h.2 (hb)
        refine awp_spine ?_
        refine awp_rc tab [19] [] [(2, .dat (vb (slices_ContainsFunc_Sapi_Cond_api_Cond__farkas_asked_2.fn a1 a2)))] [] [OkC prog 51 [.d (.sl t_api_Cond) a1, .fn (.func 54) [] [.er [vi a2]]] (vb (slices_ContainsFunc_Sapi_Cond_api_Cond__farkas_asked_2.fn a1 a2))] ⟨23, [(19, vb (slices_ContainsFunc_Sapi_Cond_api_Cond__farkas_asked_2.fn a1 a2))], []⟩ (by kernel_rfl) (AllP.of (ok_slices_ContainsFunc_Sapi_Cond_api_Cond__farkas_asked_2 a1 a2) trivial) ?_
        refine then_n (spine_c ?_)
        refine awp_cond (b := slices_ContainsFunc_Sapi_Cond_api_Cond__farkas_asked_2.fn a1 a2) (by kernel_rfl) (fun hb => ?_) (fun hb => ?_)
        · replace h := h.1 (hb)
          refine awp_spine ?_
          refine awp_rc tab [4] [] [] [] [] ⟨23, [(4, vi (2 : Int))], []⟩ (by kernel_rfl) (trivial) ?_
          refine then_n (spine_c ?_)
          refine awp_ret (then_r (then_r (then_r (then_r (then_r (blk_r (then_r (then_r (?_)))))))))
          exact ret_r (m := 0) (r := vi (2 : Int)) (objs := []) hk [.keep [4]] ⟨23, [(4, vi (2 : Int))], []⟩ (by kernel_rfl) (by kernel_rfl) (Nat.le_refl 0) ⟨2, rfl, rfl, h⟩
        · replace h := h.2 (hb)
          refine awp_skip (then_n (spine_e (then_n (spine_e (then_n (spine_e (then_n (spine_e (blk_n (then_n (spine_c ?_)))))))))))
          refine awp_spine ?_
          refine awp_rc tab [4] [] [] [] [] ⟨23, [(4, vi (0 : Int))], []⟩ (by kernel_rfl) (trivial) ?_
          refine then_n (spine_c ?_)
          refine awp_ret (then_r (then_r (then_r (?_))))
          exact ret_r (m := 0) (r := vi (0 : Int)) (objs := []) hk [.keep [4]] ⟨23, [(4, vi (0 : Int))], []⟩ (by kernel_rfl) (by kernel_rfl) (Nat.le_refl 0) ⟨0, rfl, rfl, h⟩
theorem ok_farkas_asked (a1 : (List api_Cond)) (a2 : Int) : OkC prog 25 [.d (.sl t_api_Cond) a1, vi a2] (vi (farkas_asked.fn a1 a2)) :=
  OkC.of call_farkas_asked ((walk_farkas_asked a1 a2 _ (farkas_asked.spec a1 a2)).mono fun r o ⟨x, hr, ho, hx⟩ => ⟨by rw [hr, hx], ho⟩) rfl rfl (fun _ => rfl)

noncomputable abbrev Bfarkas_Check_1 : Code := bodyOf Try.f45
theorem call_farkas_Check_1 : CallOk prog 45 := ⟨_, Try.func45, by kernel_rfl, by kernel_rfl⟩
theorem walk_farkas_Check_1 (a1 : api_Cond) (a2 : Int) (Q : Int → Prop) (h : farkas_Check_1.wp a1 a2 Q) : VCalls prog 45 [.agg [vi a1.1, vi a1.2.1, .d (.sl (.int .i64)) a1.2.2.1, vi a1.2.2.2], .er [vi a2]] [] (fun r o => ∃ x, r = vi x ∧ o = [] ∧ Q x) := by
  refine vcalls_body tab Try.func45 (c := (spine (subC [0] Bfarkas_Check_1) [(spine (subC [1, 0] Bfarkas_Check_1) [.ret])])) (by kernel_rfl) (Nat.le_of_ble_eq_true (by kernel_rfl)) fun cx hd hi hk => ?_
  show AWp prog cx _ _ ⟨10, [(0, .agg [vi a1.1, vi a1.2.1, .d (.sl (.int .i64)) a1.2.2.1, vi a1.2.2.2]), (1, .er [vi a2])], []⟩
  replace hk : cx.E.len = 0 := hk
  unfold farkas_Check_1.wp at h
  refine awp_spine ?_
  refine awp_rc tab [1, 2] [] [] [0] [] ⟨10, [(1, .er [vi a2]), (2, .er [vi a1.1, vi a1.2.1, .d (.sl (.int .i64)) a1.2.2.1, vi a1.2.2.2])], []⟩ (by kernel_rfl) (trivial) ?_
  refine then_n (spine_c ?_)
  refine awp_spine ?_
  obtain ⟨o1, h⟩ := h
  refine awp_rc tab [3] [] [] [] [(0 : Int) ≤ a2 ∧ a2 < (a1.2.2.1.length : Int)] ⟨10, [(3, vi (gI a1.2.2.1 a2))], []⟩ (by kernel_rfl) (AllP.of (o1) trivial) ?_
  refine then_n (spine_c ?_)
  refine awp_ret (then_r (then_r (?_)))
  exact ret_r (m := 0) (r := vi (gI a1.2.2.1 a2)) (objs := []) hk [.keep [3]] ⟨10, [(3, vi (gI a1.2.2.1 a2))], []⟩ (by kernel_rfl) (by kernel_rfl) (Nat.le_refl 0) ⟨gI a1.2.2.1 a2, rfl, rfl, h⟩
theorem ok_farkas_Check_1 (a1 : api_Cond) (a2 : Int) (h : farkas_Check_1.pre a1 a2) : OkC prog 45 [.agg [vi a1.1, vi a1.2.1, .d (.sl (.int .i64)) a1.2.2.1, vi a1.2.2.2], .er [vi a2]] (vi (farkas_Check_1.fn a1 a2)) :=
  OkC.of call_farkas_Check_1 ((walk_farkas_Check_1 a1 a2 _ (farkas_Check_1.spec a1 a2 h)).mono fun r o ⟨x, hr, ho, hx⟩ => ⟨by rw [hr, hx], ho⟩) rfl rfl (fun _ => rfl)

noncomputable abbrev Bfarkas_total__farkas_Check_1 : Code := bodyOf Try.f44
theorem call_farkas_total__farkas_Check_1 : CallOk prog 44 := ⟨_, Try.func44, by kernel_rfl, by kernel_rfl⟩
theorem walk_farkas_total__farkas_Check_1 (a1 : (List api_Cond)) (a2 : (List Int)) (a3 : Int) (Q : Int → Prop) (h : farkas_total__farkas_Check_1.wp a1 a2 a3 Q) : VCalls prog 44 [.d (.sl t_api_Cond) a1, .d (.sl (.int .i64)) a2, .fn (.func 45) [] [.er [vi a3]]] [] (fun r o => ∃ x, r = vi x ∧ o = [] ∧ Q x) := by
  refine vcalls_body tab Try.func44 (c := (spine (subC [0] Bfarkas_total__farkas_Check_1) [(spine (subC [1, 0] Bfarkas_total__farkas_Check_1) [(spine (subC [1, 1, 0, 0] Bfarkas_total__farkas_Check_1) [(.block 0 (.loop (spine (subC [1, 1, 0, 1, 0, 0, 0] Bfarkas_total__farkas_Check_1) [(spine (.cond (.tmp 15) .skip (.exit 0)) [(spine (.block 1 (spine (subC [1, 1, 0, 1, 0, 0, 1, 1, 0, 0, 0] Bfarkas_total__farkas_Check_1) [(spine (subC [1, 1, 0, 1, 0, 0, 1, 1, 0, 0, 1, 0] Bfarkas_total__farkas_Check_1) [(spine (subC [1, 1, 0, 1, 0, 0, 1, 1, 0, 0, 1, 1, 0] Bfarkas_total__farkas_Check_1) [(subC [1, 1, 0, 1, 0, 0, 1, 1, 0, 0, 1, 1, 1] Bfarkas_total__farkas_Check_1)])])])) [(subC [1, 1, 0, 1, 0, 0, 1, 1, 1] Bfarkas_total__farkas_Check_1)])])]))), (spine (subC [1, 1, 1, 0] Bfarkas_total__farkas_Check_1) [(spine (subC [1, 1, 1, 1, 0] Bfarkas_total__farkas_Check_1) [(spine (.block 2 (spine (subC [1, 1, 1, 1, 1, 0, 0, 0] Bfarkas_total__farkas_Check_1) [(.cond (.tmp 47) (spine (subC [1, 1, 1, 1, 1, 0, 0, 1, 0, 0] Bfarkas_total__farkas_Check_1) [.ret]) (spine (subC [1, 1, 1, 1, 1, 0, 0, 1, 1, 0] Bfarkas_total__farkas_Check_1) [(.cond (.tmp 50) (spine (subC [1, 1, 1, 1, 1, 0, 0, 1, 1, 1, 0, 0] Bfarkas_total__farkas_Check_1) [.ret]) .skip)]))])) [(spine (subC [1, 1, 1, 1, 1, 1, 0] Bfarkas_total__farkas_Check_1) [.ret])])])])])])])) (by kernel_rfl) (Nat.le_of_ble_eq_true (by kernel_rfl)) fun cx hd hi hk => ?_
  show AWp prog cx _ _ ⟨57, [(0, .d (.sl t_api_Cond) a1), (1, .d (.sl (.int .i64)) a2), (2, .fn (.func 45) [] [.er [vi a3]])], []⟩
  replace hk : cx.E.len = 0 := hk
  unfold farkas_total__farkas_Check_1.wp at h
  refine awp_spine ?_
  refine awp_rc tab [0, 1, 2] [] [] [] [] ⟨57, [(0, .d (.sl t_api_Cond) a1), (1, .d (.sl (.int .i64)) a2), (2, .fn (.func 45) [] [.er [vi a3]])], []⟩ (by kernel_rfl) (trivial) ?_
  refine then_n (spine_c ?_)
  refine awp_spine ?_
  refine awp_rc tab [0, 1, 2, 7, 8] [] [] [] [] ⟨57, [(0, .d (.sl t_api_Cond) a1), (1, .d (.sl (.int .i64)) a2), (2, .fn (.func 45) [] [.er [vi a3]]), (7, vi (0 : Int)), (8, vi (0 : Int))], []⟩ (by kernel_rfl) (trivial) ?_
  refine then_n (spine_c ?_)
  refine awp_spine ?_
  refine awp_rc tab [1, 2, 7, 8, 12, 13, 14] [] [] [] [] ⟨57, [(1, .d (.sl (.int .i64)) a2), (2, .fn (.func 45) [] [.er [vi a3]]), (7, vi (0 : Int)), (8, vi (0 : Int)), (12, .d (.sl t_api_Cond) a1), (13, vi (a1.length : Int)), (14, vi (0 : Int))], []⟩ (by kernel_rfl) (trivial) ?_
  refine then_n (spine_c ?_)
  refine awp_len 12 [] (T := t_api_Cond) (l := a1) (by kernel_rfl) fun hl => ?_
  replace h := h hl
  refine awp_block ?_
  obtain ⟨I10, ⟨n10a, hz10⟩, hI10⟩ := h
  refine awp_loopN (fun n s => ∃ (x4 : Int) (x5 : Int) (x6 : Int), I10 n x4 x5 x6 ∧ s = ⟨57, [(1, .d (.sl (.int .i64)) a2), (2, .fn (.func 45) [] [.er [vi a3]]), (7, vi x4), (8, vi x5), (12, .d (.sl t_api_Cond) a1), (13, vi (a1.length : Int)), (14, vi x6)], []⟩) (n := n10a) (s0 := ⟨57, [(1, .d (.sl (.int .i64)) a2), (2, .fn (.func 45) [] [.er [vi a3]]), (7, vi (0 : Int)), (8, vi (0 : Int)), (12, .d (.sl t_api_Cond) a1), (13, vi (a1.length : Int)), (14, vi (0 : Int))], []⟩) (wk_ghosts hk (l := [.keep [1, 2, 7, 8, 12, 13, 14], .keep [1, 2, 7, 8, 12, 13, 14], .keep [1, 2, 7, 8, 12, 13, 14], .keep [1, 2, 7, 8, 12, 13, 14]]) (by kernel_rfl)) ⟨0, 0, 0, hz10, rfl⟩ ?_
  rintro n10 s ⟨x4, x5, x6, hx10, rfl⟩
  have h := hI10 n10 x4 x5 x6 hx10
  refine awp_spine ?_
  refine awp_rc tab [1, 2, 7, 8, 12, 13, 14, 15] [] [] [] [] ⟨57, [(1, .d (.sl (.int .i64)) a2), (2, .fn (.func 45) [] [.er [vi a3]]), (7, vi x4), (8, vi x5), (12, .d (.sl t_api_Cond) a1), (13, vi (a1.length : Int)), (14, vi x6), (15, vb (decide (x6 < (a1.length : Int))))], []⟩ (by kernel_rfl) (trivial) ?_
  refine then_n (spine_c ?_)
  refine awp_spine ?_
  refine awp_cond (b := decide (x6 < (a1.length : Int))) (by kernel_rfl) (fun hb => ?_) (fun hb => ?_)
  · replace h := h.1 (of_decide_eq_true hb)
    refine awp_skip (then_n (spine_c ?_))
    refine awp_spine ?_
    refine awp_block ?_
    refine awp_spine ?_
    obtain ⟨o1, h⟩ := h
    refine awp_rc tab [1, 2, 7, 8, 9, 10, 12, 13, 14] [] [] [] [(0 : Int) ≤ x6 ∧ x6 < (a1.length : Int)] ⟨57, [(1, .d (.sl (.int .i64)) a2), (2, .fn (.func 45) [] [.er [vi a3]]), (7, vi x4), (8, vi x5), (9, vi x6), (10, .ref 0 0 0), (12, .d (.sl t_api_Cond) a1), (13, vi (a1.length : Int)), (14, vi x6)], [.box [vi ((a1.getD (Int.toNat x6) d_api_Cond).1), vi ((a1.getD (Int.toNat x6) d_api_Cond).2.1), .d (.sl (.int .i64)) (((a1.getD (Int.toNat x6) d_api_Cond).2.2).1), vi (((a1.getD (Int.toNat x6) d_api_Cond).2.2).2)]]⟩ (by kernel_rfl) (AllP.of (o1) trivial) ?_
    refine then_n (spine_c ?_)
    refine awp_abs (fun (x11 : api_Cond) => ⟨57, [(1, .d (.sl (.int .i64)) a2), (2, .fn (.func 45) [] [.er [vi a3]]), (7, vi x4), (8, vi x5), (9, vi x6), (10, .ref 0 0 0), (12, .d (.sl t_api_Cond) a1), (13, vi (a1.length : Int)), (14, vi x6)], [.box [vi x11.1, vi x11.2.1, .d (.sl (.int .i64)) x11.2.2.1, vi x11.2.2.2]]⟩) (a1.getD (Int.toNat x6) d_api_Cond) ?_
    intro x11 hx11
    replace h := h x11 hx11
    refine awp_spine ?_
    obtain ⟨o2, h⟩ := h
    refine awp_rc tab [1, 2, 7, 8, 9, 11, 12, 13, 14] [] [(2, .dat (vi (farkas_Check_1.fn x11 a3)))] [] [OkC prog 45 [.agg [vi x11.1, vi x11.2.1, .d (.sl (.int .i64)) x11.2.2.1, vi x11.2.2.2], .er [vi a3]] (vi (farkas_Check_1.fn x11 a3))] ⟨57, [(1, .d (.sl (.int .i64)) a2), (2, .fn (.func 45) [] [.er [vi a3]]), (7, vi x4), (8, vi x5), (9, vi x6), (11, vi (farkas_Check_1.fn x11 a3)), (12, .d (.sl t_api_Cond) a1), (13, vi (a1.length : Int)), (14, vi x6)], [.box [vi x11.1, vi x11.2.1, .d (.sl (.int .i64)) x11.2.2.1, vi x11.2.2.2]]⟩ (by kernel_rfl) (AllP.of (ok_farkas_Check_1 x11 a3 (o2)) trivial) ?_
    refine then_n (spine_c ?_)
    refine awp_abs (fun (x12 : Int) => ⟨57, [(1, .d (.sl (.int .i64)) a2), (2, .fn (.func 45) [] [.er [vi a3]]), (7, vi x4), (8, vi x5), (9, vi x6), (11, vi x12), (12, .d (.sl t_api_Cond) a1), (13, vi (a1.length : Int)), (14, vi x6)], [.box [vi x11.1, vi x11.2.1, .d (.sl (.int .i64)) x11.2.2.1, vi x11.2.2.2]]⟩) (farkas_Check_1.fn x11 a3) ?_
    intro x12 hx12
    replace h := h x12 hx12
    refine awp_spine ?_
    obtain ⟨o3, o4, o5, o6, h⟩ := h
    refine awp_rc tab [1, 2, 7, 8, 9, 11, 12, 13, 14] [] [] [] [(0 : Int) ≤ x6 ∧ x6 < (a2.length : Int), 0 ≤ (32 : Int), -9223372036854775808 ≤ x12 * (Int.fdiv (gI a2 x6) (2 ^ (min (Int.toNat (32 : Int)) 64))) ∧ x12 * (Int.fdiv (gI a2 x6) (2 ^ (min (Int.toNat (32 : Int)) 64))) ≤ 9223372036854775807, -9223372036854775808 ≤ x4 + (x12 * (Int.fdiv (gI a2 x6) (2 ^ (min (Int.toNat (32 : Int)) 64)))) ∧ x4 + (x12 * (Int.fdiv (gI a2 x6) (2 ^ (min (Int.toNat (32 : Int)) 64)))) ≤ 9223372036854775807] ⟨57, [(1, .d (.sl (.int .i64)) a2), (2, .fn (.func 45) [] [.er [vi a3]]), (7, vi (x4 + (x12 * (Int.fdiv (gI a2 x6) (2 ^ (min (Int.toNat (32 : Int)) 64)))))), (8, vi x5), (9, vi x6), (11, vi x12), (12, .d (.sl t_api_Cond) a1), (13, vi (a1.length : Int)), (14, vi x6)], [.box [vi x11.1, vi x11.2.1, .d (.sl (.int .i64)) x11.2.2.1, vi x11.2.2.2]]⟩ (by kernel_rfl) (AllP.of (o3) (AllP.of (o4) (AllP.of (o5) (AllP.of (o6) trivial)))) ?_
    refine then_n (spine_c ?_)
    refine awp_abs (fun (x13 : Int) => ⟨57, [(1, .d (.sl (.int .i64)) a2), (2, .fn (.func 45) [] [.er [vi a3]]), (7, vi x13), (8, vi x5), (9, vi x6), (11, vi x12), (12, .d (.sl t_api_Cond) a1), (13, vi (a1.length : Int)), (14, vi x6)], [.box [vi x11.1, vi x11.2.1, .d (.sl (.int .i64)) x11.2.2.1, vi x11.2.2.2]]⟩) (x4 + (x12 * (Int.fdiv (gI a2 x6) (2 ^ (min (Int.toNat (32 : Int)) 64))))) ?_
    intro x13 hx13
    replace h := h x13 hx13
    obtain ⟨o7, o8, o9, h⟩ := h
    refine awp_rc tab [1, 2, 7, 8, 12, 13, 14] [] [] [] [(0 : Int) ≤ x6 ∧ x6 < (a2.length : Int), -9223372036854775808 ≤ x12 * (IntKind.wrap .i64 ((BitVec.ofInt 64 (gI a2 x6) &&& BitVec.ofInt 64 (4294967295 : Int)).toNat : Int)) ∧ x12 * (IntKind.wrap .i64 ((BitVec.ofInt 64 (gI a2 x6) &&& BitVec.ofInt 64 (4294967295 : Int)).toNat : Int)) ≤ 9223372036854775807, -9223372036854775808 ≤ x5 + (x12 * (IntKind.wrap .i64 ((BitVec.ofInt 64 (gI a2 x6) &&& BitVec.ofInt 64 (4294967295 : Int)).toNat : Int))) ∧ x5 + (x12 * (IntKind.wrap .i64 ((BitVec.ofInt 64 (gI a2 x6) &&& BitVec.ofInt 64 (4294967295 : Int)).toNat : Int))) ≤ 9223372036854775807] ⟨57, [(1, .d (.sl (.int .i64)) a2), (2, .fn (.func 45) [] [.er [vi a3]]), (7, vi x13), (8, vi (x5 + (x12 * (IntKind.wrap .i64 ((BitVec.ofInt 64 (gI a2 x6) &&& BitVec.ofInt 64 (4294967295 : Int)).toNat : Int))))), (12, .d (.sl t_api_Cond) a1), (13, vi (a1.length : Int)), (14, vi x6)], [.box [vi x11.1, vi x11.2.1, .d (.sl (.int .i64)) x11.2.2.1, vi x11.2.2.2]]⟩ (by kernel_rfl) (AllP.of (o7) (AllP.of (o8) (AllP.of (o9) trivial))) ?_
    refine then_n (spine_e (then_n (spine_e (then_n (spine_e (blk_n (then_n (spine_c ?_))))))))
    refine awp_abs (fun (x14 : Int) => ⟨57, [(1, .d (.sl (.int .i64)) a2), (2, .fn (.func 45) [] [.er [vi a3]]), (7, vi x13), (8, vi x14), (12, .d (.sl t_api_Cond) a1), (13, vi (a1.length : Int)), (14, vi x6)], [.box [vi x11.1, vi x11.2.1, .d (.sl (.int .i64)) x11.2.2.1, vi x11.2.2.2]]⟩) (x5 + (x12 * (IntKind.wrap .i64 ((BitVec.ofInt 64 (gI a2 x6) &&& BitVec.ofInt 64 (4294967295 : Int)).toNat : Int)))) ?_
    intro x14 hx14
    replace h := h x14 hx14
    obtain ⟨o10, h⟩ := h
    refine awp_rc tab [1, 2, 7, 8, 12, 13, 14] [] [] [] [-9223372036854775808 ≤ x6 + (1 : Int) ∧ x6 + (1 : Int) ≤ 9223372036854775807] ⟨57, [(1, .d (.sl (.int .i64)) a2), (2, .fn (.func 45) [] [.er [vi a3]]), (7, vi x13), (8, vi x14), (12, .d (.sl t_api_Cond) a1), (13, vi (a1.length : Int)), (14, vi (x6 + (1 : Int)))], [.box [vi x11.1, vi x11.2.1, .d (.sl (.int .i64)) x11.2.2.1, vi x11.2.2.2]]⟩ (by kernel_rfl) (AllP.of (o10) trivial) ?_
    refine then_n (spine_e (then_n (spine_e (then_n (spine_e (then_n (?_)))))))
    obtain ⟨m, hm, h⟩ := h
    exact ⟨m, hm, ⟨57, [(1, .d (.sl (.int .i64)) a2), (2, .fn (.func 45) [] [.er [vi a3]]), (7, vi x13), (8, vi x14), (12, .d (.sl t_api_Cond) a1), (13, vi (a1.length : Int)), (14, vi (x6 + (1 : Int)))], []⟩, wk_ghosts hk (l := [.keep [1, 2, 7, 8, 12, 13, 14], .keep [1, 2, 7, 8, 12, 13, 14], .cut 0, .keep [1, 2, 7, 8, 12, 13, 14]]) (by kernel_rfl), x13, x14, x6 + (1 : Int), h, rfl⟩
  · replace h := h.2 (of_decide_eq_false hb)
    refine awp_exit (then_x (then_x (then_x (blk_h (then_n (spine_c ?_))))))
    refine awp_spine ?_
    obtain ⟨o11, o12, h⟩ := h
    refine awp_rc tab [7, 8] [] [] [] [0 ≤ (32 : Int), -9223372036854775808 ≤ x4 + (Int.fdiv x5 (2 ^ (min (Int.toNat (32 : Int)) 64))) ∧ x4 + (Int.fdiv x5 (2 ^ (min (Int.toNat (32 : Int)) 64))) ≤ 9223372036854775807] ⟨57, [(7, vi (x4 + (Int.fdiv x5 (2 ^ (min (Int.toNat (32 : Int)) 64))))), (8, vi x5)], []⟩ (by kernel_rfl) (AllP.of (o11) (AllP.of (o12) trivial)) ?_
    refine then_n (spine_c ?_)
    refine awp_abs (fun (x15 : Int) => ⟨57, [(7, vi x15), (8, vi x5)], []⟩) (x4 + (Int.fdiv x5 (2 ^ (min (Int.toNat (32 : Int)) 64)))) ?_
    intro x15 hx15
    replace h := h x15 hx15
    refine awp_spine ?_
    refine awp_rc tab [7, 8] [] [] [] [] ⟨57, [(7, vi x15), (8, vi (IntKind.wrap .i64 ((BitVec.ofInt 64 x5 &&& BitVec.ofInt 64 (4294967295 : Int)).toNat : Int)))], []⟩ (by kernel_rfl) (trivial) ?_
    refine then_n (spine_c ?_)
    refine awp_abs (fun (x16 : Int) => ⟨57, [(7, vi x15), (8, vi x16)], []⟩) (IntKind.wrap .i64 ((BitVec.ofInt 64 x5 &&& BitVec.ofInt 64 (4294967295 : Int)).toNat : Int)) ?_
    intro x16 hx16
    replace h := h x16 hx16
    refine awp_spine ?_
    refine awp_block ?_
    refine awp_spine ?_
    refine awp_rc tab [7, 8, 47] [] [] [] [] ⟨57, [(7, vi x15), (8, vi x16), (47, vb (decide (x15 < (0 : Int))))], []⟩ (by kernel_rfl) (trivial) ?_
    refine then_n (spine_c ?_)
    refine awp_cond (b := decide (x15 < (0 : Int))) (by kernel_rfl) (fun hb => ?_) (fun hb => ?_)
    · replace h := h.1 (of_decide_eq_true hb)
      refine awp_spine ?_
      refine awp_rc tab [6] [] [] [] [] ⟨57, [(6, vi (-1))], []⟩ (by kernel_rfl) (trivial) ?_
      refine then_n (spine_c ?_)
      refine awp_ret (then_r (then_r (blk_r (then_r (then_r (then_r (then_r (then_r (then_r (?_))))))))))
      exact ret_r (m := 0) (r := vi (-1)) (objs := []) hk [.keep [6]] ⟨57, [(6, vi (-1))], []⟩ (by kernel_rfl) (by kernel_rfl) (Nat.le_refl 0) ⟨(-1), rfl, rfl, h⟩
    · replace h := h.2 (of_decide_eq_false hb)
      refine awp_spine ?_
      refine awp_rc tab [50] [] [] [] [(!(decide (x15 > (0 : Int)))) = true → (!(decide (x15 > (0 : Int)))) = true ∧ True, (decide (x15 > (0 : Int))) = false → (!(decide (x15 > (0 : Int)))) = true] ⟨57, [(50, vb ((decide (x15 > (0 : Int))) || (decide (x16 > (0 : Int)))))], []⟩ (by kernel_rfl) (AllP.of (fun hg => ⟨hg, trivial⟩) (AllP.of (fun hc => not_f hc) trivial)) ?_
      refine then_n (spine_c ?_)
      refine awp_cond (b := (decide (x15 > (0 : Int))) || (decide (x16 > (0 : Int)))) (by kernel_rfl) (fun hb => ?_) (fun hb => ?_)
      · replace h := h.1 (hb)
        refine awp_spine ?_
        refine awp_rc tab [6] [] [] [] [] ⟨57, [(6, vi (1 : Int))], []⟩ (by kernel_rfl) (trivial) ?_
        refine then_n (spine_c ?_)
        refine awp_ret (then_r (then_r (then_r (blk_r (then_r (then_r (then_r (then_r (then_r (then_r (?_)))))))))))
        exact ret_r (m := 0) (r := vi (1 : Int)) (objs := []) hk [.keep [6]] ⟨57, [(6, vi (1 : Int))], []⟩ (by kernel_rfl) (by kernel_rfl) (Nat.le_refl 0) ⟨1, rfl, rfl, h⟩
      · replace h := h.2 (hb)
        refine awp_skip (then_n (spine_e (then_n (spine_e (blk_n (then_n (spine_c ?_)))))))
        refine awp_spine ?_
        refine awp_rc tab [6] [] [] [] [] ⟨57, [(6, vi (0 : Int))], []⟩ (by kernel_rfl) (trivial) ?_
        refine then_n (spine_c ?_)
        refine awp_ret (then_r (then_r (then_r (then_r (then_r (then_r (then_r (?_))))))))
        exact ret_r (m := 0) (r := vi (0 : Int)) (objs := []) hk [.keep [6]] ⟨57, [(6, vi (0 : Int))], []⟩ (by kernel_rfl) (by kernel_rfl) (Nat.le_refl 0) ⟨0, rfl, rfl, h⟩
theorem ok_farkas_total__farkas_Check_1 (a1 : (List api_Cond)) (a2 : (List Int)) (a3 : Int) (h : farkas_total__farkas_Check_1.pre a1 a2 a3) : OkC prog 44 [.d (.sl t_api_Cond) a1, .d (.sl (.int .i64)) a2, .fn (.func 45) [] [.er [vi a3]]] (vi (farkas_total__farkas_Check_1.fn a1 a2 a3)) :=
  OkC.of call_farkas_total__farkas_Check_1 ((walk_farkas_total__farkas_Check_1 a1 a2 a3 _ (farkas_total__farkas_Check_1.spec a1 a2 a3 h)).mono fun r o ⟨x, hr, ho, hx⟩ => ⟨by rw [hr, hx], ho⟩) rfl rfl (fun _ => rfl)

noncomputable abbrev Bfarkas_Check_2 : Code := bodyOf Try.f46
theorem call_farkas_Check_2 : CallOk prog 46 := ⟨_, Try.func46, by kernel_rfl, by kernel_rfl⟩
theorem walk_farkas_Check_2 (a1 : api_Cond) (Q : Int → Prop) (h : farkas_Check_2.wp a1 Q) : VCalls prog 46 [.agg [vi a1.1, vi a1.2.1, .d (.sl (.int .i64)) a1.2.2.1, vi a1.2.2.2]] [] (fun r o => ∃ x, r = vi x ∧ o = [] ∧ Q x) := by
  refine vcalls_body tab Try.func46 (c := (spine (subC [0] Bfarkas_Check_2) [(spine (subC [1, 0] Bfarkas_Check_2) [.ret])])) (by kernel_rfl) (Nat.le_of_ble_eq_true (by kernel_rfl)) fun cx hd hi hk => ?_
  show AWp prog cx _ _ ⟨6, [(0, .agg [vi a1.1, vi a1.2.1, .d (.sl (.int .i64)) a1.2.2.1, vi a1.2.2.2])], []⟩
  replace hk : cx.E.len = 0 := hk
  unfold farkas_Check_2.wp at h
  refine awp_spine ?_
  refine awp_rc tab [1] [] [] [0] [] ⟨6, [(1, .er [vi a1.1, vi a1.2.1, .d (.sl (.int .i64)) a1.2.2.1, vi a1.2.2.2])], []⟩ (by kernel_rfl) (trivial) ?_
  refine then_n (spine_c ?_)
  refine awp_spine ?_
  refine awp_rc tab [2] [] [] [] [] ⟨6, [(2, vi a1.2.2.2)], []⟩ (by kernel_rfl) (trivial) ?_
  refine then_n (spine_c ?_)
  refine awp_ret (then_r (then_r (?_)))
  exact ret_r (m := 0) (r := vi a1.2.2.2) (objs := []) hk [.keep [2]] ⟨6, [(2, vi a1.2.2.2)], []⟩ (by kernel_rfl) (by kernel_rfl) (Nat.le_refl 0) ⟨a1.2.2.2, rfl, rfl, h⟩
theorem ok_farkas_Check_2 (a1 : api_Cond) : OkC prog 46 [.agg [vi a1.1, vi a1.2.1, .d (.sl (.int .i64)) a1.2.2.1, vi a1.2.2.2]] (vi (farkas_Check_2.fn a1)) :=
  OkC.of call_farkas_Check_2 ((walk_farkas_Check_2 a1 _ (farkas_Check_2.spec a1)).mono fun r o ⟨x, hr, ho, hx⟩ => ⟨by rw [hr, hx], ho⟩) rfl rfl (fun _ => rfl)

noncomputable abbrev Bfarkas_total__farkas_Check_2 : Code := bodyOf Try.f44
theorem call_farkas_total__farkas_Check_2 : CallOk prog 44 := ⟨_, Try.func44, by kernel_rfl, by kernel_rfl⟩
theorem walk_farkas_total__farkas_Check_2 (a1 : (List api_Cond)) (a2 : (List Int)) (Q : Int → Prop) (h : farkas_total__farkas_Check_2.wp a1 a2 Q) : VCalls prog 44 [.d (.sl t_api_Cond) a1, .d (.sl (.int .i64)) a2, .fn (.func 46) [] []] [] (fun r o => ∃ x, r = vi x ∧ o = [] ∧ Q x) := by
  refine vcalls_body tab Try.func44 (c := (spine (subC [0] Bfarkas_total__farkas_Check_2) [(spine (subC [1, 0] Bfarkas_total__farkas_Check_2) [(spine (subC [1, 1, 0, 0] Bfarkas_total__farkas_Check_2) [(.block 0 (.loop (spine (subC [1, 1, 0, 1, 0, 0, 0] Bfarkas_total__farkas_Check_2) [(spine (.cond (.tmp 15) .skip (.exit 0)) [(spine (.block 1 (spine (subC [1, 1, 0, 1, 0, 0, 1, 1, 0, 0, 0] Bfarkas_total__farkas_Check_2) [(spine (subC [1, 1, 0, 1, 0, 0, 1, 1, 0, 0, 1, 0] Bfarkas_total__farkas_Check_2) [(spine (subC [1, 1, 0, 1, 0, 0, 1, 1, 0, 0, 1, 1, 0] Bfarkas_total__farkas_Check_2) [(subC [1, 1, 0, 1, 0, 0, 1, 1, 0, 0, 1, 1, 1] Bfarkas_total__farkas_Check_2)])])])) [(subC [1, 1, 0, 1, 0, 0, 1, 1, 1] Bfarkas_total__farkas_Check_2)])])]))), (spine (subC [1, 1, 1, 0] Bfarkas_total__farkas_Check_2) [(spine (subC [1, 1, 1, 1, 0] Bfarkas_total__farkas_Check_2) [(spine (.block 2 (spine (subC [1, 1, 1, 1, 1, 0, 0, 0] Bfarkas_total__farkas_Check_2) [(.cond (.tmp 47) (spine (subC [1, 1, 1, 1, 1, 0, 0, 1, 0, 0] Bfarkas_total__farkas_Check_2) [.ret]) (spine (subC [1, 1, 1, 1, 1, 0, 0, 1, 1, 0] Bfarkas_total__farkas_Check_2) [(.cond (.tmp 50) (spine (subC [1, 1, 1, 1, 1, 0, 0, 1, 1, 1, 0, 0] Bfarkas_total__farkas_Check_2) [.ret]) .skip)]))])) [(spine (subC [1, 1, 1, 1, 1, 1, 0] Bfarkas_total__farkas_Check_2) [.ret])])])])])])])) (by kernel_rfl) (Nat.le_of_ble_eq_true (by kernel_rfl)) fun cx hd hi hk => ?_
  show AWp prog cx _ _ ⟨57, [(0, .d (.sl t_api_Cond) a1), (1, .d (.sl (.int .i64)) a2), (2, .fn (.func 46) [] [])], []⟩
  replace hk : cx.E.len = 0 := hk
  unfold farkas_total__farkas_Check_2.wp at h
  refine awp_spine ?_
  refine awp_rc tab [0, 1, 2] [] [] [] [] ⟨57, [(0, .d (.sl t_api_Cond) a1), (1, .d (.sl (.int .i64)) a2), (2, .fn (.func 46) [] [])], []⟩ (by kernel_rfl) (trivial) ?_
  refine then_n (spine_c ?_)
  refine awp_spine ?_
  refine awp_rc tab [0, 1, 2, 7, 8] [] [] [] [] ⟨57, [(0, .d (.sl t_api_Cond) a1), (1, .d (.sl (.int .i64)) a2), (2, .fn (.func 46) [] []), (7, vi (0 : Int)), (8, vi (0 : Int))], []⟩ (by kernel_rfl) (trivial) ?_
  refine then_n (spine_c ?_)
  refine awp_spine ?_
  refine awp_rc tab [1, 2, 7, 8, 12, 13, 14] [] [] [] [] ⟨57, [(1, .d (.sl (.int .i64)) a2), (2, .fn (.func 46) [] []), (7, vi (0 : Int)), (8, vi (0 : Int)), (12, .d (.sl t_api_Cond) a1), (13, vi (a1.length : Int)), (14, vi (0 : Int))], []⟩ (by kernel_rfl) (trivial) ?_
  refine then_n (spine_c ?_)
  refine awp_len 12 [] (T := t_api_Cond) (l := a1) (by kernel_rfl) fun hl => ?_
  replace h := h hl
  refine awp_block ?_
  obtain ⟨I10, ⟨n10a, hz10⟩, hI10⟩ := h
  refine awp_loopN (fun n s => ∃ (x4 : Int) (x5 : Int) (x6 : Int), I10 n x4 x5 x6 ∧ s = ⟨57, [(1, .d (.sl (.int .i64)) a2), (2, .fn (.func 46) [] []), (7, vi x4), (8, vi x5), (12, .d (.sl t_api_Cond) a1), (13, vi (a1.length : Int)), (14, vi x6)], []⟩) (n := n10a) (s0 := ⟨57, [(1, .d (.sl (.int .i64)) a2), (2, .fn (.func 46) [] []), (7, vi (0 : Int)), (8, vi (0 : Int)), (12, .d (.sl t_api_Cond) a1), (13, vi (a1.length : Int)), (14, vi (0 : Int))], []⟩) (wk_ghosts hk (l := [.keep [1, 2, 7, 8, 12, 13, 14], .keep [1, 2, 7, 8, 12, 13, 14], .keep [1, 2, 7, 8, 12, 13, 14], .keep [1, 2, 7, 8, 12, 13, 14]]) (by kernel_rfl)) ⟨0, 0, 0, hz10, rfl⟩ ?_
  rintro n10 s ⟨x4, x5, x6, hx10, rfl⟩
  have h := hI10 n10 x4 x5 x6 hx10
  refine awp_spine ?_
  refine awp_rc tab [1, 2, 7, 8, 12, 13, 14, 15] [] [] [] [] ⟨57, [(1, .d (.sl (.int .i64)) a2), (2, .fn (.func 46) [] []), (7, vi x4), (8, vi x5), (12, .d (.sl t_api_Cond) a1), (13, vi (a1.length : Int)), (14, vi x6), (15, vb (decide (x6 < (a1.length : Int))))], []⟩ (by kernel_rfl) (trivial) ?_
  refine then_n (spine_c ?_)
  refine awp_spine ?_
  refine awp_cond (b := decide (x6 < (a1.length : Int))) (by kernel_rfl) (fun hb => ?_) (fun hb => ?_)
  · replace h := h.1 (of_decide_eq_true hb)
    refine awp_skip (then_n (spine_c ?_))
    refine awp_spine ?_
    refine awp_block ?_
    refine awp_spine ?_
    obtain ⟨o1, h⟩ := h
    refine awp_rc tab [1, 2, 7, 8, 9, 10, 12, 13, 14] [] [] [] [(0 : Int) ≤ x6 ∧ x6 < (a1.length : Int)] ⟨57, [(1, .d (.sl (.int .i64)) a2), (2, .fn (.func 46) [] []), (7, vi x4), (8, vi x5), (9, vi x6), (10, .ref 0 0 0), (12, .d (.sl t_api_Cond) a1), (13, vi (a1.length : Int)), (14, vi x6)], [.box [vi ((a1.getD (Int.toNat x6) d_api_Cond).1), vi ((a1.getD (Int.toNat x6) d_api_Cond).2.1), .d (.sl (.int .i64)) (((a1.getD (Int.toNat x6) d_api_Cond).2.2).1), vi (((a1.getD (Int.toNat x6) d_api_Cond).2.2).2)]]⟩ (by kernel_rfl) (AllP.of (o1) trivial) ?_
    refine then_n (spine_c ?_)
    refine awp_abs (fun (x11 : api_Cond) => ⟨57, [(1, .d (.sl (.int .i64)) a2), (2, .fn (.func 46) [] []), (7, vi x4), (8, vi x5), (9, vi x6), (10, .ref 0 0 0), (12, .d (.sl t_api_Cond) a1), (13, vi (a1.length : Int)), (14, vi x6)], [.box [vi x11.1, vi x11.2.1, .d (.sl (.int .i64)) x11.2.2.1, vi x11.2.2.2]]⟩) (a1.getD (Int.toNat x6) d_api_Cond) ?_
    intro x11 hx11
    replace h := h x11 hx11
    refine awp_spine ?_
    refine awp_rc tab [1, 2, 7, 8, 9, 11, 12, 13, 14] [] [(2, .dat (vi (farkas_Check_2.fn x11)))] [] [OkC prog 46 [.agg [vi x11.1, vi x11.2.1, .d (.sl (.int .i64)) x11.2.2.1, vi x11.2.2.2]] (vi (farkas_Check_2.fn x11))] ⟨57, [(1, .d (.sl (.int .i64)) a2), (2, .fn (.func 46) [] []), (7, vi x4), (8, vi x5), (9, vi x6), (11, vi (farkas_Check_2.fn x11)), (12, .d (.sl t_api_Cond) a1), (13, vi (a1.length : Int)), (14, vi x6)], [.box [vi x11.1, vi x11.2.1, .d (.sl (.int .i64)) x11.2.2.1, vi x11.2.2.2]]⟩ (by kernel_rfl) (AllP.of (ok_farkas_Check_2 x11) trivial) ?_
    refine then_n (spine_c ?_)
    refine awp_abs (fun (x12 : Int) => ⟨57, [(1, .d (.sl (.int .i64)) a2), (2, .fn (.func 46) [] []), (7, vi x4), (8, vi x5), (9, vi x6), (11, vi x12), (12, .d (.sl t_api_Cond) a1), (13, vi (a1.length : Int)), (14, vi x6)], [.box [vi x11.1, vi x11.2.1, .d (.sl (.int .i64)) x11.2.2.1, vi x11.2.2.2]]⟩) (farkas_Check_2.fn x11) ?_
    intro x12 hx12
    replace h := h x12 hx12
    refine awp_spine ?_
    obtain ⟨o2, o3, o4, o5, h⟩ := h
    refine awp_rc tab [1, 2, 7, 8, 9, 11, 12, 13, 14] [] [] [] [(0 : Int) ≤ x6 ∧ x6 < (a2.length : Int), 0 ≤ (32 : Int), -9223372036854775808 ≤ x12 * (Int.fdiv (gI a2 x6) (2 ^ (min (Int.toNat (32 : Int)) 64))) ∧ x12 * (Int.fdiv (gI a2 x6) (2 ^ (min (Int.toNat (32 : Int)) 64))) ≤ 9223372036854775807, -9223372036854775808 ≤ x4 + (x12 * (Int.fdiv (gI a2 x6) (2 ^ (min (Int.toNat (32 : Int)) 64)))) ∧ x4 + (x12 * (Int.fdiv (gI a2 x6) (2 ^ (min (Int.toNat (32 : Int)) 64)))) ≤ 9223372036854775807] ⟨57, [(1, .d (.sl (.int .i64)) a2), (2, .fn (.func 46) [] []), (7, vi (x4 + (x12 * (Int.fdiv (gI a2 x6) (2 ^ (min (Int.toNat (32 : Int)) 64)))))), (8, vi x5), (9, vi x6), (11, vi x12), (12, .d (.sl t_api_Cond) a1), (13, vi (a1.length : Int)), (14, vi x6)], [.box [vi x11.1, vi x11.2.1, .d (.sl (.int .i64)) x11.2.2.1, vi x11.2.2.2]]⟩ (by kernel_rfl) (AllP.of (o2) (AllP.of (o3) (AllP.of (o4) (AllP.of (o5) trivial)))) ?_
    refine then_n (spine_c ?_)
    refine awp_abs (fun (x13 : Int) => ⟨57, [(1, .d (.sl (.int .i64)) a2), (2, .fn (.func 46) [] []), (7, vi x13), (8, vi x5), (9, vi x6), (11, vi x12), (12, .d (.sl t_api_Cond) a1), (13, vi (a1.length : Int)), (14, vi x6)], [.box [vi x11.1, vi x11.2.1, .d (.sl (.int .i64)) x11.2.2.1, vi x11.2.2.2]]⟩) (x4 + (x12 * (Int.fdiv (gI a2 x6) (2 ^ (min (Int.toNat (32 : Int)) 64))))) ?_
    intro x13 hx13
    replace h := h x13 hx13
    obtain ⟨o6, o7, o8, h⟩ := h
    refine awp_rc tab [1, 2, 7, 8, 12, 13, 14] [] [] [] [(0 : Int) ≤ x6 ∧ x6 < (a2.length : Int), -9223372036854775808 ≤ x12 * (IntKind.wrap .i64 ((BitVec.ofInt 64 (gI a2 x6) &&& BitVec.ofInt 64 (4294967295 : Int)).toNat : Int)) ∧ x12 * (IntKind.wrap .i64 ((BitVec.ofInt 64 (gI a2 x6) &&& BitVec.ofInt 64 (4294967295 : Int)).toNat : Int)) ≤ 9223372036854775807, -9223372036854775808 ≤ x5 + (x12 * (IntKind.wrap .i64 ((BitVec.ofInt 64 (gI a2 x6) &&& BitVec.ofInt 64 (4294967295 : Int)).toNat : Int))) ∧ x5 + (x12 * (IntKind.wrap .i64 ((BitVec.ofInt 64 (gI a2 x6) &&& BitVec.ofInt 64 (4294967295 : Int)).toNat : Int))) ≤ 9223372036854775807] ⟨57, [(1, .d (.sl (.int .i64)) a2), (2, .fn (.func 46) [] []), (7, vi x13), (8, vi (x5 + (x12 * (IntKind.wrap .i64 ((BitVec.ofInt 64 (gI a2 x6) &&& BitVec.ofInt 64 (4294967295 : Int)).toNat : Int))))), (12, .d (.sl t_api_Cond) a1), (13, vi (a1.length : Int)), (14, vi x6)], [.box [vi x11.1, vi x11.2.1, .d (.sl (.int .i64)) x11.2.2.1, vi x11.2.2.2]]⟩ (by kernel_rfl) (AllP.of (o6) (AllP.of (o7) (AllP.of (o8) trivial))) ?_
    refine then_n (spine_e (then_n (spine_e (then_n (spine_e (blk_n (then_n (spine_c ?_))))))))
    refine awp_abs (fun (x14 : Int) => ⟨57, [(1, .d (.sl (.int .i64)) a2), (2, .fn (.func 46) [] []), (7, vi x13), (8, vi x14), (12, .d (.sl t_api_Cond) a1), (13, vi (a1.length : Int)), (14, vi x6)], [.box [vi x11.1, vi x11.2.1, .d (.sl (.int .i64)) x11.2.2.1, vi x11.2.2.2]]⟩) (x5 + (x12 * (IntKind.wrap .i64 ((BitVec.ofInt 64 (gI a2 x6) &&& BitVec.ofInt 64 (4294967295 : Int)).toNat : Int)))) ?_
    intro x14 hx14
    replace h := h x14 hx14
    obtain ⟨o9, h⟩ := h
    refine awp_rc tab [1, 2, 7, 8, 12, 13, 14] [] [] [] [-9223372036854775808 ≤ x6 + (1 : Int) ∧ x6 + (1 : Int) ≤ 9223372036854775807] ⟨57, [(1, .d (.sl (.int .i64)) a2), (2, .fn (.func 46) [] []), (7, vi x13), (8, vi x14), (12, .d (.sl t_api_Cond) a1), (13, vi (a1.length : Int)), (14, vi (x6 + (1 : Int)))], [.box [vi x11.1, vi x11.2.1, .d (.sl (.int .i64)) x11.2.2.1, vi x11.2.2.2]]⟩ (by kernel_rfl) (AllP.of (o9) trivial) ?_
    refine then_n (spine_e (then_n (spine_e (then_n (spine_e (then_n (?_)))))))
    obtain ⟨m, hm, h⟩ := h
    exact ⟨m, hm, ⟨57, [(1, .d (.sl (.int .i64)) a2), (2, .fn (.func 46) [] []), (7, vi x13), (8, vi x14), (12, .d (.sl t_api_Cond) a1), (13, vi (a1.length : Int)), (14, vi (x6 + (1 : Int)))], []⟩, wk_ghosts hk (l := [.keep [1, 2, 7, 8, 12, 13, 14], .keep [1, 2, 7, 8, 12, 13, 14], .cut 0, .keep [1, 2, 7, 8, 12, 13, 14]]) (by kernel_rfl), x13, x14, x6 + (1 : Int), h, rfl⟩
  · replace h := h.2 (of_decide_eq_false hb)
    refine awp_exit (then_x (then_x (then_x (blk_h (then_n (spine_c ?_))))))
    refine awp_spine ?_
    obtain ⟨o10, o11, h⟩ := h
    refine awp_rc tab [7, 8] [] [] [] [0 ≤ (32 : Int), -9223372036854775808 ≤ x4 + (Int.fdiv x5 (2 ^ (min (Int.toNat (32 : Int)) 64))) ∧ x4 + (Int.fdiv x5 (2 ^ (min (Int.toNat (32 : Int)) 64))) ≤ 9223372036854775807] ⟨57, [(7, vi (x4 + (Int.fdiv x5 (2 ^ (min (Int.toNat (32 : Int)) 64))))), (8, vi x5)], []⟩ (by kernel_rfl) (AllP.of (o10) (AllP.of (o11) trivial)) ?_
    refine then_n (spine_c ?_)
    refine awp_abs (fun (x15 : Int) => ⟨57, [(7, vi x15), (8, vi x5)], []⟩) (x4 + (Int.fdiv x5 (2 ^ (min (Int.toNat (32 : Int)) 64)))) ?_
    intro x15 hx15
    replace h := h x15 hx15
    refine awp_spine ?_
    refine awp_rc tab [7, 8] [] [] [] [] ⟨57, [(7, vi x15), (8, vi (IntKind.wrap .i64 ((BitVec.ofInt 64 x5 &&& BitVec.ofInt 64 (4294967295 : Int)).toNat : Int)))], []⟩ (by kernel_rfl) (trivial) ?_
    refine then_n (spine_c ?_)
    refine awp_abs (fun (x16 : Int) => ⟨57, [(7, vi x15), (8, vi x16)], []⟩) (IntKind.wrap .i64 ((BitVec.ofInt 64 x5 &&& BitVec.ofInt 64 (4294967295 : Int)).toNat : Int)) ?_
    intro x16 hx16
    replace h := h x16 hx16
    refine awp_spine ?_
    refine awp_block ?_
    refine awp_spine ?_
    refine awp_rc tab [7, 8, 47] [] [] [] [] ⟨57, [(7, vi x15), (8, vi x16), (47, vb (decide (x15 < (0 : Int))))], []⟩ (by kernel_rfl) (trivial) ?_
    refine then_n (spine_c ?_)
    refine awp_cond (b := decide (x15 < (0 : Int))) (by kernel_rfl) (fun hb => ?_) (fun hb => ?_)
    · replace h := h.1 (of_decide_eq_true hb)
      refine awp_spine ?_
      refine awp_rc tab [6] [] [] [] [] ⟨57, [(6, vi (-1))], []⟩ (by kernel_rfl) (trivial) ?_
      refine then_n (spine_c ?_)
      refine awp_ret (then_r (then_r (blk_r (then_r (then_r (then_r (then_r (then_r (then_r (?_))))))))))
      exact ret_r (m := 0) (r := vi (-1)) (objs := []) hk [.keep [6]] ⟨57, [(6, vi (-1))], []⟩ (by kernel_rfl) (by kernel_rfl) (Nat.le_refl 0) ⟨(-1), rfl, rfl, h⟩
    · replace h := h.2 (of_decide_eq_false hb)
      refine awp_spine ?_
      refine awp_rc tab [50] [] [] [] [(!(decide (x15 > (0 : Int)))) = true → (!(decide (x15 > (0 : Int)))) = true ∧ True, (decide (x15 > (0 : Int))) = false → (!(decide (x15 > (0 : Int)))) = true] ⟨57, [(50, vb ((decide (x15 > (0 : Int))) || (decide (x16 > (0 : Int)))))], []⟩ (by kernel_rfl) (AllP.of (fun hg => ⟨hg, trivial⟩) (AllP.of (fun hc => not_f hc) trivial)) ?_
      refine then_n (spine_c ?_)
      refine awp_cond (b := (decide (x15 > (0 : Int))) || (decide (x16 > (0 : Int)))) (by kernel_rfl) (fun hb => ?_) (fun hb => ?_)
      · replace h := h.1 (hb)
        refine awp_spine ?_
        refine awp_rc tab [6] [] [] [] [] ⟨57, [(6, vi (1 : Int))], []⟩ (by kernel_rfl) (trivial) ?_
        refine then_n (spine_c ?_)
        refine awp_ret (then_r (then_r (then_r (blk_r (then_r (then_r (then_r (then_r (then_r (then_r (?_)))))))))))
        exact ret_r (m := 0) (r := vi (1 : Int)) (objs := []) hk [.keep [6]] ⟨57, [(6, vi (1 : Int))], []⟩ (by kernel_rfl) (by kernel_rfl) (Nat.le_refl 0) ⟨1, rfl, rfl, h⟩
      · replace h := h.2 (hb)
        refine awp_skip (then_n (spine_e (then_n (spine_e (blk_n (then_n (spine_c ?_)))))))
        refine awp_spine ?_
        refine awp_rc tab [6] [] [] [] [] ⟨57, [(6, vi (0 : Int))], []⟩ (by kernel_rfl) (trivial) ?_
        refine then_n (spine_c ?_)
        refine awp_ret (then_r (then_r (then_r (then_r (then_r (then_r (then_r (?_))))))))
        exact ret_r (m := 0) (r := vi (0 : Int)) (objs := []) hk [.keep [6]] ⟨57, [(6, vi (0 : Int))], []⟩ (by kernel_rfl) (by kernel_rfl) (Nat.le_refl 0) ⟨0, rfl, rfl, h⟩
theorem ok_farkas_total__farkas_Check_2 (a1 : (List api_Cond)) (a2 : (List Int)) (h : farkas_total__farkas_Check_2.pre a1 a2) : OkC prog 44 [.d (.sl t_api_Cond) a1, .d (.sl (.int .i64)) a2, .fn (.func 46) [] []] (vi (farkas_total__farkas_Check_2.fn a1 a2)) :=
  OkC.of call_farkas_total__farkas_Check_2 ((walk_farkas_total__farkas_Check_2 a1 a2 _ (farkas_total__farkas_Check_2.spec a1 a2 h)).mono fun r o ⟨x, hr, ho, hx⟩ => ⟨by rw [hr, hx], ho⟩) rfl rfl (fun _ => rfl)

noncomputable abbrev Bfarkas_Check : Code := bodyOf Try.f20
theorem call_farkas_Check : CallOk prog 20 := ⟨_, Try.func20, by kernel_rfl, by kernel_rfl⟩
theorem walk_farkas_Check (a1 : (List api_Cond)) (a2 : Int) (a3 : (List Int)) (Q : Bool × Int → Prop) (h : farkas_Check.wp a1 a2 a3 Q) : VCalls prog 20 [.d (.sl t_api_Cond) a1, vi a2, .d (.sl (.int .i64)) a3] [] (fun r o => ∃ x, r = .tup [vb x.1, vi x.2] ∧ o = [] ∧ Q x) := by
  refine vcalls_body tab Try.func20 (c := (spine (subC [0] Bfarkas_Check) [(spine (subC [1, 0, 0] Bfarkas_Check) [(spine (subC [1, 0, 1, 0] Bfarkas_Check) [(.cond (.tmp 16) (spine (subC [1, 0, 1, 1, 0, 0] Bfarkas_Check) [.ret]) .skip)]), (spine (subC [1, 1, 0, 0] Bfarkas_Check) [(.cond (.tmp 22) (spine (subC [1, 1, 0, 1, 0, 0] Bfarkas_Check) [.ret]) .skip), (spine (subC [1, 1, 1, 0, 0] Bfarkas_Check) [(.block 0 (.loop (spine (subC [1, 1, 1, 0, 1, 0, 0, 0] Bfarkas_Check) [(spine (.cond (.tmp 26) .skip (.exit 0)) [(spine (.block 1 (spine (subC [1, 1, 1, 0, 1, 0, 0, 1, 1, 0, 0, 0] Bfarkas_Check) [(spine (subC [1, 1, 1, 0, 1, 0, 0, 1, 1, 0, 0, 1, 0] Bfarkas_Check) [(.cond (.tmp 51) (spine (subC [1, 1, 1, 0, 1, 0, 0, 1, 1, 0, 0, 1, 1, 0, 0] Bfarkas_Check) [.ret]) .skip)])])) [(subC [1, 1, 1, 0, 1, 0, 0, 1, 1, 1] Bfarkas_Check)])])]))), (spine (subC [1, 1, 1, 1, 0, 0] Bfarkas_Check) [(.block 2 (.loop (spine (subC [1, 1, 1, 1, 0, 1, 0, 0, 0] Bfarkas_Check) [(spine (.cond (.tmp 55) .skip (.exit 2)) [(spine (.block 3 (spine (subC [1, 1, 1, 1, 0, 1, 0, 0, 1, 1, 0, 0, 0] Bfarkas_Check) [(spine (subC [1, 1, 1, 1, 0, 1, 0, 0, 1, 1, 0, 0, 1, 0] Bfarkas_Check) [(.cond (.tmp 61) (spine (subC [1, 1, 1, 1, 0, 1, 0, 0, 1, 1, 0, 0, 1, 1, 0, 0] Bfarkas_Check) [.ret]) .skip)])])) [(subC [1, 1, 1, 1, 0, 1, 0, 0, 1, 1, 1] Bfarkas_Check)])])]))), (spine (subC [1, 1, 1, 1, 1, 0] Bfarkas_Check) [.ret])])])])])])) (by kernel_rfl) (Nat.le_of_ble_eq_true (by kernel_rfl)) fun cx hd hi hk => ?_
  show AWp prog cx _ _ ⟨67, [(0, .d (.sl t_api_Cond) a1), (1, vi a2), (2, .d (.sl (.int .i64)) a3)], []⟩
  replace hk : cx.E.len = 0 := hk
  unfold farkas_Check.wp at h
  refine awp_spine ?_
  refine awp_rc tab [0, 1, 2] [] [] [] [] ⟨67, [(0, .d (.sl t_api_Cond) a1), (1, vi a2), (2, .d (.sl (.int .i64)) a3)], []⟩ (by kernel_rfl) (trivial) ?_
  refine then_n (spine_c ?_)
  refine awp_spine ?_
  refine awp_rc tab [0, 1, 2, 8] [] [(2, .dat (vi (farkas_asked.fn a1 a2)))] [] [OkC prog 25 [.d (.sl t_api_Cond) a1, vi a2] (vi (farkas_asked.fn a1 a2))] ⟨67, [(0, .d (.sl t_api_Cond) a1), (1, vi a2), (2, .d (.sl (.int .i64)) a3), (8, vi (farkas_asked.fn a1 a2))], []⟩ (by kernel_rfl) (AllP.of (ok_farkas_asked a1 a2) trivial) ?_
  refine then_n (spine_c ?_)
  refine awp_abs (fun (x1 : Int) => ⟨67, [(0, .d (.sl t_api_Cond) a1), (1, vi a2), (2, .d (.sl (.int .i64)) a3), (8, vi x1)], []⟩) (farkas_asked.fn a1 a2) ?_
  intro x1 hx1
  replace h := h x1 hx1
  refine awp_spine ?_
  refine awp_rc tab [0, 1, 2, 8, 16] [] [] [] [] ⟨67, [(0, .d (.sl t_api_Cond) a1), (1, vi a2), (2, .d (.sl (.int .i64)) a3), (8, vi x1), (16, vb (x1 != (0 : Int)))], []⟩ (by kernel_rfl) (trivial) ?_
  refine then_n (spine_c ?_)
  refine awp_cond (b := x1 != (0 : Int)) (by kernel_rfl) (fun hb => ?_) (fun hb => ?_)
  · replace h := h.1 (bne_iff_ne.mp hb)
    refine awp_spine ?_
    refine awp_rc tab [6, 7] [] [] [] [] ⟨67, [(6, vb false), (7, vi x1)], []⟩ (by kernel_rfl) (trivial) ?_
    refine then_n (spine_c ?_)
    refine awp_ret (then_r (then_r (then_r (then_r (?_)))))
    exact ret_r (m := 0) (r := .tup [vb ((false, x1).1), vi ((false, x1).2)]) (objs := []) hk [.keep [6, 7]] ⟨67, [(6, vb false), (7, vi x1)], []⟩ (by kernel_rfl) (by kernel_rfl) (Nat.le_refl 0) ⟨(false, x1), rfl, rfl, h⟩
  · replace h := h.2 (bne_f hb)
    refine awp_skip (then_n (spine_e (then_n (spine_c ?_))))
    refine awp_spine ?_
    refine awp_rc tab [0, 1, 2, 22] [] [] [] [] ⟨67, [(0, .d (.sl t_api_Cond) a1), (1, vi a2), (2, .d (.sl (.int .i64)) a3), (22, vb ((a3.length : Int) != (a1.length : Int)))], []⟩ (by kernel_rfl) (trivial) ?_
    refine then_n (spine_c ?_)
    refine awp_len 0 [] (T := t_api_Cond) (l := a1) (by kernel_rfl) fun hl => ?_
    replace h := h hl
    refine awp_len 2 [] (T := (.int .i64)) (l := a3) (by kernel_rfl) fun hl => ?_
    replace h := h hl
    refine awp_cond (b := (a3.length : Int) != (a1.length : Int)) (by kernel_rfl) (fun hb => ?_) (fun hb => ?_)
    · replace h := h.1 (bne_iff_ne.mp hb)
      refine awp_spine ?_
      refine awp_rc tab [6, 7] [] [] [] [] ⟨67, [(6, vb false), (7, vi (2 : Int))], []⟩ (by kernel_rfl) (trivial) ?_
      refine then_n (spine_c ?_)
      refine awp_ret (then_r (then_r (then_r (then_r (?_)))))
      exact ret_r (m := 0) (r := .tup [vb ((false, 2).1), vi ((false, 2).2)]) (objs := []) hk [.keep [6, 7]] ⟨67, [(6, vb false), (7, vi (2 : Int))], []⟩ (by kernel_rfl) (by kernel_rfl) (Nat.le_refl 0) ⟨(false, 2), rfl, rfl, h⟩
    · replace h := h.2 (bne_f hb)
      refine awp_skip (then_n (spine_c ?_))
      refine awp_spine ?_
      refine awp_rc tab [0, 1, 2, 23, 24, 25] [] [] [] [] ⟨67, [(0, .d (.sl t_api_Cond) a1), (1, vi a2), (2, .d (.sl (.int .i64)) a3), (23, .d (.sl t_api_Cond) a1), (24, vi (a1.length : Int)), (25, vi (0 : Int))], []⟩ (by kernel_rfl) (trivial) ?_
      refine then_n (spine_c ?_)
      refine awp_len 0 [] (T := t_api_Cond) (l := a1) (by kernel_rfl) fun hl => ?_
      replace h := h hl
      refine awp_block ?_
      obtain ⟨I5, ⟨n5a, hz5⟩, hI5⟩ := h
      refine awp_loopN (fun n s => ∃ (x3 : Int), I5 n x3 ∧ s = ⟨67, [(0, .d (.sl t_api_Cond) a1), (1, vi a2), (2, .d (.sl (.int .i64)) a3), (23, .d (.sl t_api_Cond) a1), (24, vi (a1.length : Int)), (25, vi x3)], []⟩) (n := n5a) (s0 := ⟨67, [(0, .d (.sl t_api_Cond) a1), (1, vi a2), (2, .d (.sl (.int .i64)) a3), (23, .d (.sl t_api_Cond) a1), (24, vi (a1.length : Int)), (25, vi (0 : Int))], []⟩) (wk_ghosts hk (l := [.keep [0, 1, 2, 23, 24, 25], .keep [0, 1, 2, 23, 24, 25], .keep [0, 1, 2, 23, 24, 25], .keep [0, 1, 2, 23, 24, 25]]) (by kernel_rfl)) ⟨0, hz5, rfl⟩ ?_
      rintro n5 s ⟨x3, hx5, rfl⟩
      have h := hI5 n5 x3 hx5
      refine awp_spine ?_
      refine awp_rc tab [0, 1, 2, 23, 24, 25, 26] [] [] [] [] ⟨67, [(0, .d (.sl t_api_Cond) a1), (1, vi a2), (2, .d (.sl (.int .i64)) a3), (23, .d (.sl t_api_Cond) a1), (24, vi (a1.length : Int)), (25, vi x3), (26, vb (decide (x3 < (a1.length : Int))))], []⟩ (by kernel_rfl) (trivial) ?_
      refine then_n (spine_c ?_)
      refine awp_spine ?_
      refine awp_cond (b := decide (x3 < (a1.length : Int))) (by kernel_rfl) (fun hb => ?_) (fun hb => ?_)
      · replace h := h.1 (of_decide_eq_true hb)
        refine awp_skip (then_n (spine_c ?_))
        refine awp_spine ?_
        refine awp_block ?_
        refine awp_spine ?_
        obtain ⟨o1, h⟩ := h
        refine awp_rc tab [0, 1, 2, 9, 10, 23, 24, 25] [] [] [] [(0 : Int) ≤ x3 ∧ x3 < (a1.length : Int)] ⟨67, [(0, .d (.sl t_api_Cond) a1), (1, vi a2), (2, .d (.sl (.int .i64)) a3), (9, vi x3), (10, .ref 0 0 0), (23, .d (.sl t_api_Cond) a1), (24, vi (a1.length : Int)), (25, vi x3)], [.box [vi ((a1.getD (Int.toNat x3) d_api_Cond).1), vi ((a1.getD (Int.toNat x3) d_api_Cond).2.1), .d (.sl (.int .i64)) (((a1.getD (Int.toNat x3) d_api_Cond).2.2).1), vi (((a1.getD (Int.toNat x3) d_api_Cond).2.2).2)]]⟩ (by kernel_rfl) (AllP.of (o1) trivial) ?_
        refine then_n (spine_c ?_)
        refine awp_abs (fun (x6 : api_Cond) => ⟨67, [(0, .d (.sl t_api_Cond) a1), (1, vi a2), (2, .d (.sl (.int .i64)) a3), (9, vi x3), (10, .ref 0 0 0), (23, .d (.sl t_api_Cond) a1), (24, vi (a1.length : Int)), (25, vi x3)], [.box [vi x6.1, vi x6.2.1, .d (.sl (.int .i64)) x6.2.2.1, vi x6.2.2.2]]⟩) (a1.getD (Int.toNat x3) d_api_Cond) ?_
        intro x6 hx6
        replace h := h x6 hx6
        refine awp_spine ?_
        obtain ⟨o2, o3, h⟩ := h
        refine awp_rc tab [0, 1, 2, 23, 24, 25, 51] [] [] [] [(x6.1 == (0 : Int)) = true → (x6.1 == (0 : Int)) = true ∧ ((x6.1 == (0 : Int)) = true ∧ ((0 : Int) ≤ x3 ∧ x3 < (a3.length : Int))), (x6.1 == (0 : Int)) = true → (x6.1 == (0 : Int)) = true ∧ True, (x6.1 == (0 : Int)) = true → (x6.1 == (0 : Int)) = true ∧ True, (x6.1 == (0 : Int)) = true → (x6.1 == (0 : Int)) = true, (!((x6.1 == (0 : Int)) && (decide ((gI a3 x3) < (0 : Int))))) = true → (!((x6.1 == (0 : Int)) && (decide ((gI a3 x3) < (0 : Int))))) = true ∧ True, (!((x6.1 == (0 : Int)) && (decide ((gI a3 x3) < (0 : Int))))) = true → (!((x6.1 == (0 : Int)) && (decide ((gI a3 x3) < (0 : Int))))) = true ∧ True, (!((x6.1 == (0 : Int)) && (decide ((gI a3 x3) < (0 : Int))))) = true → (!((x6.1 == (0 : Int)) && (decide ((gI a3 x3) < (0 : Int))))) = true ∧ True, ((!((x6.1 == (0 : Int)) && (decide ((gI a3 x3) < (0 : Int))))) && (x6.1 == (2 : Int))) = true → ((!((x6.1 == (0 : Int)) && (decide ((gI a3 x3) < (0 : Int))))) && (x6.1 == (2 : Int))) = true ∧ (((!((x6.1 == (0 : Int)) && (decide ((gI a3 x3) < (0 : Int))))) && (x6.1 == (2 : Int))) = true ∧ ((0 : Int) ≤ x3 ∧ x3 < (a3.length : Int))), ((!((x6.1 == (0 : Int)) && (decide ((gI a3 x3) < (0 : Int))))) && (x6.1 == (2 : Int))) = true → ((!((x6.1 == (0 : Int)) && (decide ((gI a3 x3) < (0 : Int))))) && (x6.1 == (2 : Int))) = true ∧ True, ((!((x6.1 == (0 : Int)) && (decide ((gI a3 x3) < (0 : Int))))) && (x6.1 == (2 : Int))) = true → ((!((x6.1 == (0 : Int)) && (decide ((gI a3 x3) < (0 : Int))))) && (x6.1 == (2 : Int))) = true ∧ True, (!((x6.1 == (0 : Int)) && (decide ((gI a3 x3) < (0 : Int))))) = true → (!((x6.1 == (0 : Int)) && (decide ((gI a3 x3) < (0 : Int))))) = true ∧ ((x6.1 == (2 : Int)) = true → ((!((x6.1 == (0 : Int)) && (decide ((gI a3 x3) < (0 : Int))))) && (x6.1 == (2 : Int))) = true), ((x6.1 == (0 : Int)) && (decide ((gI a3 x3) < (0 : Int)))) = false → (!((x6.1 == (0 : Int)) && (decide ((gI a3 x3) < (0 : Int))))) = true] ⟨67, [(0, .d (.sl t_api_Cond) a1), (1, vi a2), (2, .d (.sl (.int .i64)) a3), (23, .d (.sl t_api_Cond) a1), (24, vi (a1.length : Int)), (25, vi x3), (51, vb (((x6.1 == (0 : Int)) && (decide ((gI a3 x3) < (0 : Int)))) || ((x6.1 == (2 : Int)) && ((gI a3 x3) != (0 : Int)))))], [.box [vi x6.1, vi x6.2.1, .d (.sl (.int .i64)) x6.2.2.1, vi x6.2.2.2]]⟩ (by kernel_rfl) (AllP.of (fun hg => ⟨hg, hg, (o2 hg)⟩) (AllP.of (fun hg => ⟨hg, trivial⟩) (AllP.of (fun hg => ⟨hg, trivial⟩) (AllP.of (fun hc => hc) (AllP.of (fun hg => ⟨hg, trivial⟩) (AllP.of (fun hg => ⟨hg, trivial⟩) (AllP.of (fun hg => ⟨hg, trivial⟩) (AllP.of (fun hg => ⟨hg, hg, (o3 hg)⟩) (AllP.of (fun hg => ⟨hg, trivial⟩) (AllP.of (fun hg => ⟨hg, trivial⟩) (AllP.of (fun hg => ⟨hg, fun hc => and_t hg hc⟩) (AllP.of (fun hc => not_f hc) trivial)))))))))))) ?_
        refine then_n (spine_c ?_)
        refine awp_cond (b := ((x6.1 == (0 : Int)) && (decide ((gI a3 x3) < (0 : Int)))) || ((x6.1 == (2 : Int)) && ((gI a3 x3) != (0 : Int)))) (by kernel_rfl) (fun hb => ?_) (fun hb => ?_)
        · replace h := h.1 (hb)
          refine awp_spine ?_
          refine awp_rc tab [6, 7] [] [] [] [] ⟨67, [(6, vb false), (7, vi (0 : Int))], [.box [vi x6.1, vi x6.2.1, .d (.sl (.int .i64)) x6.2.2.1, vi x6.2.2.2]]⟩ (by kernel_rfl) (trivial) ?_
          refine then_n (spine_c ?_)
          refine awp_ret (then_r (then_r (then_r (blk_r (then_r (then_r (then_r (then_r (blk_r (then_r (then_r (then_r (then_r (?_))))))))))))))
          exact ret_r (m := 0) (r := .tup [vb ((false, 0).1), vi ((false, 0).2)]) (objs := []) hk [.keep [6, 7]] ⟨67, [(6, vb false), (7, vi (0 : Int))], [.box [vi x6.1, vi x6.2.1, .d (.sl (.int .i64)) x6.2.2.1, vi x6.2.2.2]]⟩ (by kernel_rfl) (by kernel_rfl) (Nat.le_refl 0) ⟨(false, 0), rfl, rfl, h⟩
        · replace h := h.2 (hb)
          refine awp_skip (then_n (spine_e (then_n (spine_e (blk_n (then_n (spine_c ?_)))))))
          obtain ⟨o4, h⟩ := h
          refine awp_rc tab [0, 1, 2, 23, 24, 25] [] [] [] [-9223372036854775808 ≤ x3 + (1 : Int) ∧ x3 + (1 : Int) ≤ 9223372036854775807] ⟨67, [(0, .d (.sl t_api_Cond) a1), (1, vi a2), (2, .d (.sl (.int .i64)) a3), (23, .d (.sl t_api_Cond) a1), (24, vi (a1.length : Int)), (25, vi (x3 + (1 : Int)))], [.box [vi x6.1, vi x6.2.1, .d (.sl (.int .i64)) x6.2.2.1, vi x6.2.2.2]]⟩ (by kernel_rfl) (AllP.of (o4) trivial) ?_
          refine then_n (spine_e (then_n (spine_e (then_n (spine_e (then_n (?_)))))))
          obtain ⟨m, hm, h⟩ := h
          exact ⟨m, hm, ⟨67, [(0, .d (.sl t_api_Cond) a1), (1, vi a2), (2, .d (.sl (.int .i64)) a3), (23, .d (.sl t_api_Cond) a1), (24, vi (a1.length : Int)), (25, vi (x3 + (1 : Int)))], []⟩, wk_ghosts hk (l := [.keep [0, 1, 2, 23, 24, 25], .keep [0, 1, 2, 23, 24, 25], .cut 0, .keep [0, 1, 2, 23, 24, 25]]) (by kernel_rfl), x3 + (1 : Int), h, rfl⟩
      · replace h := h.2 (of_decide_eq_false hb)
        refine awp_exit (then_x (then_x (then_x (blk_h (then_n (spine_c ?_))))))
        refine awp_spine ?_
        refine awp_rc tab [0, 2, 53, 54] [] [] [] [] ⟨67, [(0, .d (.sl t_api_Cond) a1), (2, .d (.sl (.int .i64)) a3), (53, vi a2), (54, vi (0 : Int))], []⟩ (by kernel_rfl) (trivial) ?_
        refine then_n (spine_c ?_)
        refine awp_block ?_
        obtain ⟨I10, ⟨n10a, hz10⟩, hI10⟩ := h
        refine awp_loopN (fun n s => ∃ (x8 : Int), I10 n x8 ∧ s = ⟨67, [(0, .d (.sl t_api_Cond) a1), (2, .d (.sl (.int .i64)) a3), (53, vi a2), (54, vi x8)], []⟩) (n := n10a) (s0 := ⟨67, [(0, .d (.sl t_api_Cond) a1), (2, .d (.sl (.int .i64)) a3), (53, vi a2), (54, vi (0 : Int))], []⟩) (wk_ghosts hk (l := [.keep [0, 2, 53, 54], .keep [0, 2, 53, 54], .keep [0, 2, 53, 54], .keep [0, 2, 53, 54]]) (by kernel_rfl)) ⟨0, hz10, rfl⟩ ?_
        rintro n10 s ⟨x8, hx10, rfl⟩
        have h := hI10 n10 x8 hx10
        refine awp_spine ?_
        refine awp_rc tab [0, 2, 53, 54, 55] [] [] [] [] ⟨67, [(0, .d (.sl t_api_Cond) a1), (2, .d (.sl (.int .i64)) a3), (53, vi a2), (54, vi x8), (55, vb (decide (x8 < a2)))], []⟩ (by kernel_rfl) (trivial) ?_
        refine then_n (spine_c ?_)
        refine awp_spine ?_
        refine awp_cond (b := decide (x8 < a2)) (by kernel_rfl) (fun hb => ?_) (fun hb => ?_)
        · replace h := h.1 (of_decide_eq_true hb)
          refine awp_skip (then_n (spine_c ?_))
          refine awp_spine ?_
          refine awp_block ?_
          refine awp_spine ?_
          refine awp_rc tab [0, 2, 11, 53, 54] [] [] [] [] ⟨67, [(0, .d (.sl t_api_Cond) a1), (2, .d (.sl (.int .i64)) a3), (11, .ref 0 0 0), (53, vi a2), (54, vi x8)], [.box [vi x8]]⟩ (by kernel_rfl) (trivial) ?_
          refine then_n (spine_c ?_)
          refine awp_spine ?_
          obtain ⟨o5, h⟩ := h
          refine awp_rc tab [0, 2, 53, 54, 61] [] [(3, .dat (vi (farkas_total__farkas_Check_1.fn a1 a3 x8)))] [] [OkA prog 44 [.d (.sl t_api_Cond) a1, .d (.sl (.int .i64)) a3, .fn (.func 45) [] [.ref 0 0 0]] [.box [vi x8]] (vi (farkas_total__farkas_Check_1.fn a1 a3 x8))] ⟨67, [(0, .d (.sl t_api_Cond) a1), (2, .d (.sl (.int .i64)) a3), (53, vi a2), (54, vi x8), (61, vb ((farkas_total__farkas_Check_1.fn a1 a3 x8) != (0 : Int)))], [.box [vi x8]]⟩ (by kernel_rfl) (AllP.of (OkC.lent 1 (by kernel_rfl) rfl rfl (ok_farkas_total__farkas_Check_1 a1 a3 x8 (o5))) trivial) ?_
          refine then_n (spine_c ?_)
          refine awp_abs (fun (x11 : Int) => ⟨67, [(0, .d (.sl t_api_Cond) a1), (2, .d (.sl (.int .i64)) a3), (53, vi a2), (54, vi x8), (61, vb (x11 != (0 : Int)))], [.box [vi x8]]⟩) (farkas_total__farkas_Check_1.fn a1 a3 x8) ?_
          intro x11 hx11
          replace h := h x11 hx11
          refine awp_cond (b := x11 != (0 : Int)) (by kernel_rfl) (fun hb => ?_) (fun hb => ?_)
          · replace h := h.1 (bne_iff_ne.mp hb)
            refine awp_spine ?_
            refine awp_rc tab [6, 7] [] [] [] [] ⟨67, [(6, vb false), (7, vi (0 : Int))], [.box [vi x8]]⟩ (by kernel_rfl) (trivial) ?_
            refine then_n (spine_c ?_)
            refine awp_ret (then_r (then_r (then_r (blk_r (then_r (then_r (then_r (then_r (blk_r (then_r (then_r (then_r (then_r (then_r (?_)))))))))))))))
            exact ret_r (m := 0) (r := .tup [vb ((false, 0).1), vi ((false, 0).2)]) (objs := []) hk [.keep [6, 7]] ⟨67, [(6, vb false), (7, vi (0 : Int))], [.box [vi x8]]⟩ (by kernel_rfl) (by kernel_rfl) (Nat.le_refl 0) ⟨(false, 0), rfl, rfl, h⟩
          · replace h := h.2 (bne_f hb)
            refine awp_skip (then_n (spine_e (then_n (spine_e (blk_n (then_n (spine_c ?_)))))))
            obtain ⟨o6, h⟩ := h
            refine awp_rc tab [0, 2, 53, 54] [] [] [] [-9223372036854775808 ≤ x8 + (1 : Int) ∧ x8 + (1 : Int) ≤ 9223372036854775807] ⟨67, [(0, .d (.sl t_api_Cond) a1), (2, .d (.sl (.int .i64)) a3), (53, vi a2), (54, vi (x8 + (1 : Int)))], [.box [vi x8]]⟩ (by kernel_rfl) (AllP.of (o6) trivial) ?_
            refine then_n (spine_e (then_n (spine_e (then_n (spine_e (then_n (?_)))))))
            obtain ⟨m, hm, h⟩ := h
            exact ⟨m, hm, ⟨67, [(0, .d (.sl t_api_Cond) a1), (2, .d (.sl (.int .i64)) a3), (53, vi a2), (54, vi (x8 + (1 : Int)))], []⟩, wk_ghosts hk (l := [.keep [0, 2, 53, 54], .keep [0, 2, 53, 54], .cut 0, .keep [0, 2, 53, 54]]) (by kernel_rfl), x8 + (1 : Int), h, rfl⟩
        · replace h := h.2 (of_decide_eq_false hb)
          refine awp_exit (then_x (then_x (then_x (blk_h (then_n (spine_c ?_))))))
          refine awp_spine ?_
          obtain ⟨o7, h⟩ := h
          refine awp_rc tab [6, 7] [] [(2, .dat (vi (farkas_total__farkas_Check_2.fn a1 a3)))] [] [OkC prog 44 [.d (.sl t_api_Cond) a1, .d (.sl (.int .i64)) a3, .fn (.func 46) [] []] (vi (farkas_total__farkas_Check_2.fn a1 a3))] ⟨67, [(6, vb (decide ((farkas_total__farkas_Check_2.fn a1 a3) < (0 : Int)))), (7, vi (0 : Int))], []⟩ (by kernel_rfl) (AllP.of (ok_farkas_total__farkas_Check_2 a1 a3 (o7)) trivial) ?_
          refine then_n (spine_c ?_)
          refine awp_abs (fun (x12 : Int) => ⟨67, [(6, vb (decide (x12 < (0 : Int)))), (7, vi (0 : Int))], []⟩) (farkas_total__farkas_Check_2.fn a1 a3) ?_
          intro x12 hx12
          replace h := h x12 hx12
          refine awp_ret (then_r (then_r (then_r (then_r (then_r (then_r (?_)))))))
          exact ret_r (m := 0) (r := .tup [vb ((decide (x12 < (0 : Int)), 0).1), vi ((decide (x12 < (0 : Int)), 0).2)]) (objs := []) hk [.keep [6, 7]] ⟨67, [(6, vb (decide (x12 < (0 : Int)))), (7, vi (0 : Int))], []⟩ (by kernel_rfl) (by kernel_rfl) (Nat.le_refl 0) ⟨(decide (x12 < (0 : Int)), 0), rfl, rfl, h⟩
theorem ok_farkas_Check (a1 : (List api_Cond)) (a2 : Int) (a3 : (List Int)) (h : farkas_Check.pre a1 a2 a3) : OkC prog 20 [.d (.sl t_api_Cond) a1, vi a2, .d (.sl (.int .i64)) a3] (.tup [vb ((farkas_Check.fn a1 a2 a3).1), vi ((farkas_Check.fn a1 a2 a3).2)]) :=
  OkC.of call_farkas_Check ((walk_farkas_Check a1 a2 a3 _ (farkas_Check.spec a1 a2 a3 h)).mono fun r o ⟨x, hr, ho, hx⟩ => ⟨by rw [hr, hx], ho⟩) rfl rfl (fun _ => rfl)

noncomputable abbrev Bfarkas_first : Code := bodyOf Try.f55
theorem call_farkas_first : CallOk prog 55 := ⟨_, Try.func55, by kernel_rfl, by kernel_rfl⟩
theorem walk_farkas_first (a1 : (List api_Cond)) (a2 : Int) (Q : farkas_table → Prop) (h : farkas_first.wp a1 a2 Q) : VCalls prog 55 [.d (.sl t_api_Cond) a1, vi a2] [] (fun r o => ∃ x, r = .agg [vi x.1, .d (.sl t_farkas_row) x.2] ∧ o = [] ∧ Q x) := by
  refine vcalls_body tab Try.func55 (c := (spine (subC [0] Bfarkas_first) [(spine (subC [1, 0] Bfarkas_first) [(spine (subC [1, 1, 0, 0] Bfarkas_first) [(.block 0 (.loop (spine (subC [1, 1, 0, 1, 0, 0, 0] Bfarkas_first) [(spine (.cond (.tmp 14) .skip (.exit 0)) [(spine (.block 1 (spine (subC [1, 1, 0, 1, 0, 0, 1, 1, 0, 0, 0] Bfarkas_first) [(spine (subC [1, 1, 0, 1, 0, 0, 1, 1, 0, 0, 1, 0, 0] Bfarkas_first) [(.cond (.tmp 20) (.exit 1) .skip), (spine (subC [1, 1, 0, 1, 0, 0, 1, 1, 0, 0, 1, 1, 0] Bfarkas_first) [(spine (subC [1, 1, 0, 1, 0, 0, 1, 1, 0, 0, 1, 1, 1, 0] Bfarkas_first) [(spine (subC [1, 1, 0, 1, 0, 0, 1, 1, 0, 0, 1, 1, 1, 1, 0] Bfarkas_first) [(subC [1, 1, 0, 1, 0, 0, 1, 1, 0, 0, 1, 1, 1, 1, 1] Bfarkas_first)])])])])])) [(subC [1, 1, 0, 1, 0, 0, 1, 1, 1] Bfarkas_first)])])]))), (spine (subC [1, 1, 1, 0] Bfarkas_first) [.ret])])])])) (by kernel_rfl) (Nat.le_of_ble_eq_true (by kernel_rfl)) fun cx hd hi hk => ?_
  show AWp prog cx _ _ ⟨56, [(0, .d (.sl t_api_Cond) a1), (1, vi a2)], []⟩
  replace hk : cx.E.len = 0 := hk
  unfold farkas_first.wp at h
  refine awp_spine ?_
  refine awp_rc tab [0, 1, 4] [] [] [] [] ⟨56, [(0, .d (.sl t_api_Cond) a1), (1, vi a2), (4, .ref 0 0 0)], [.box [vi (0 : Int), .nils]]⟩ (by kernel_rfl) (trivial) ?_
  refine then_n (spine_c ?_)
  refine awp_spine ?_
  refine awp_rc tab [0, 1, 4, 5] [] [] [] [] ⟨56, [(0, .d (.sl t_api_Cond) a1), (1, vi a2), (4, .ref 0 0 0), (5, .ref 1 0 0)], [.box [vi (0 : Int), .nils], .box [vi a2, .nils]]⟩ (by kernel_rfl) (trivial) ?_
  refine then_n (spine_c ?_)
  refine awp_spine ?_
  refine awp_rc tab [0, 1, 4, 5, 11, 12, 13] [] [] [] [] ⟨56, [(0, .d (.sl t_api_Cond) a1), (1, vi a2), (4, .ref 0 0 0), (5, .ref 1 0 0), (11, .d (.sl t_api_Cond) a1), (12, vi (a1.length : Int)), (13, vi (0 : Int))], [.box [vi (0 : Int), .nils], .box [vi a2, .nils]]⟩ (by kernel_rfl) (trivial) ?_
  refine then_n (spine_c ?_)
  refine awp_len 0 [] (T := t_api_Cond) (l := a1) (by kernel_rfl) fun hl => ?_
  replace h := h hl
  refine awp_block ?_
  obtain ⟨I7, ⟨n7a, hz7⟩, hI7⟩ := h
  refine awp_loopN (fun n s => ∃ (x3 : Int) (x4 : (List farkas_row)), I7 n x3 x4 ∧ s = ⟨56, [(0, .d (.sl t_api_Cond) a1), (1, vi a2), (4, .ref 0 0 0), (5, .ref 1 0 0), (11, .d (.sl t_api_Cond) a1), (12, vi (a1.length : Int)), (13, vi x3)], [.box [vi (0 : Int), .nils], .box [vi a2, .osl 2 0], .row t_farkas_row x4 0]⟩) (n := n7a) (s0 := ⟨56, [(0, .d (.sl t_api_Cond) a1), (1, vi a2), (4, .ref 0 0 0), (5, .ref 1 0 0), (11, .d (.sl t_api_Cond) a1), (12, vi (a1.length : Int)), (13, vi (0 : Int))], [.box [vi (0 : Int), .nils], .box [vi a2, .osl 2 0], .row t_farkas_row ([] : List farkas_row) 0]⟩) (wk_ghosts hk (l := [.keep [0, 1, 4, 5, 11, 12, 13], .adoptBox 1 1 t_farkas_row, .keep [0, 1, 4, 5, 11, 12, 13], .keep [0, 1, 4, 5, 11, 12, 13], .keep [0, 1, 4, 5, 11, 12, 13]]) (by kernel_rfl)) ⟨0, ([] : List farkas_row), hz7, rfl⟩ ?_
  rintro n7 s ⟨x3, x4, hx7, rfl⟩
  have h := hI7 n7 x3 x4 hx7
  refine awp_spine ?_
  refine awp_rc tab [0, 1, 4, 5, 11, 12, 13, 14] [] [] [] [] ⟨56, [(0, .d (.sl t_api_Cond) a1), (1, vi a2), (4, .ref 0 0 0), (5, .ref 1 0 0), (11, .d (.sl t_api_Cond) a1), (12, vi (a1.length : Int)), (13, vi x3), (14, vb (decide (x3 < (a1.length : Int))))], [.box [vi (0 : Int), .nils], .box [vi a2, .osl 2 0], .row t_farkas_row x4 0]⟩ (by kernel_rfl) (trivial) ?_
  refine then_n (spine_c ?_)
  refine awp_spine ?_
  refine awp_cond (b := decide (x3 < (a1.length : Int))) (by kernel_rfl) (fun hb => ?_) (fun hb => ?_)
  · replace h := h.1 (of_decide_eq_true hb)
    refine awp_skip (then_n (spine_c ?_))
    refine awp_spine ?_
    refine awp_block ?_
    refine awp_spine ?_
    obtain ⟨o1, h⟩ := h
    refine awp_rc tab [0, 1, 4, 5, 6, 7, 11, 12, 13] [] [] [] [(0 : Int) ≤ x3 ∧ x3 < (a1.length : Int)] ⟨56, [(0, .d (.sl t_api_Cond) a1), (1, vi a2), (4, .ref 0 0 0), (5, .ref 1 0 0), (6, vi x3), (7, .ref 3 0 0), (11, .d (.sl t_api_Cond) a1), (12, vi (a1.length : Int)), (13, vi x3)], [.box [vi (0 : Int), .nils], .box [vi a2, .osl 2 0], .row t_farkas_row x4 0, .box [vi ((a1.getD (Int.toNat x3) d_api_Cond).1), vi ((a1.getD (Int.toNat x3) d_api_Cond).2.1), .d (.sl (.int .i64)) (((a1.getD (Int.toNat x3) d_api_Cond).2.2).1), vi (((a1.getD (Int.toNat x3) d_api_Cond).2.2).2)]]⟩ (by kernel_rfl) (AllP.of (o1) trivial) ?_
    refine then_n (spine_c ?_)
    refine awp_abs (fun (x8 : api_Cond) => ⟨56, [(0, .d (.sl t_api_Cond) a1), (1, vi a2), (4, .ref 0 0 0), (5, .ref 1 0 0), (6, vi x3), (7, .ref 3 0 0), (11, .d (.sl t_api_Cond) a1), (12, vi (a1.length : Int)), (13, vi x3)], [.box [vi (0 : Int), .nils], .box [vi a2, .osl 2 0], .row t_farkas_row x4 0, .box [vi x8.1, vi x8.2.1, .d (.sl (.int .i64)) x8.2.2.1, vi x8.2.2.2]]⟩) (a1.getD (Int.toNat x3) d_api_Cond) ?_
    intro x8 hx8
    replace h := h x8 hx8
    refine awp_spine ?_
    refine awp_rc tab [0, 1, 4, 5, 6, 7, 11, 12, 13, 20] [] [] [] [] ⟨56, [(0, .d (.sl t_api_Cond) a1), (1, vi a2), (4, .ref 0 0 0), (5, .ref 1 0 0), (6, vi x3), (7, .ref 3 0 0), (11, .d (.sl t_api_Cond) a1), (12, vi (a1.length : Int)), (13, vi x3), (20, vb (x8.1 == (2 : Int)))], [.box [vi (0 : Int), .nils], .box [vi a2, .osl 2 0], .row t_farkas_row x4 0, .box [vi x8.1, vi x8.2.1, .d (.sl (.int .i64)) x8.2.2.1, vi x8.2.2.2]]⟩ (by kernel_rfl) (trivial) ?_
    refine then_n (spine_c ?_)
    refine awp_cond (b := x8.1 == (2 : Int)) (by kernel_rfl) (fun hb => ?_) (fun hb => ?_)
    · replace h := h.1 (eq_of_beq hb)
      refine awp_exit (then_x (then_x (blk_h (then_n (spine_c ?_)))))
      obtain ⟨o2, h⟩ := h
      refine awp_rc tab [0, 1, 4, 5, 11, 12, 13] [] [] [] [-9223372036854775808 ≤ x3 + (1 : Int) ∧ x3 + (1 : Int) ≤ 9223372036854775807] ⟨56, [(0, .d (.sl t_api_Cond) a1), (1, vi a2), (4, .ref 0 0 0), (5, .ref 1 0 0), (11, .d (.sl t_api_Cond) a1), (12, vi (a1.length : Int)), (13, vi (x3 + (1 : Int)))], [.box [vi (0 : Int), .nils], .box [vi a2, .osl 2 0], .row t_farkas_row x4 0, .box [vi x8.1, vi x8.2.1, .d (.sl (.int .i64)) x8.2.2.1, vi x8.2.2.2]]⟩ (by kernel_rfl) (AllP.of (o2) trivial) ?_
      refine then_n (spine_e (then_n (spine_e (then_n (spine_e (then_n (?_)))))))
      obtain ⟨m, hm, h⟩ := h
      exact ⟨m, hm, ⟨56, [(0, .d (.sl t_api_Cond) a1), (1, vi a2), (4, .ref 0 0 0), (5, .ref 1 0 0), (11, .d (.sl t_api_Cond) a1), (12, vi (a1.length : Int)), (13, vi (x3 + (1 : Int)))], [.box [vi (0 : Int), .nils], .box [vi a2, .osl 2 0], .row t_farkas_row x4 0]⟩, wk_ghosts hk (l := [.keep [0, 1, 4, 5, 11, 12, 13], .keep [0, 1, 4, 5, 11, 12, 13], .cut 3, .keep [0, 1, 4, 5, 11, 12, 13]]) (by kernel_rfl), x3 + (1 : Int), x4, h, rfl⟩
    · replace h := h.2 (ne_of_beq_false hb)
      refine awp_skip (then_n (spine_c ?_))
      refine awp_spine ?_
      obtain ⟨o3, o4, o5, h⟩ := h
      refine awp_rc tab [0, 1, 4, 5, 6, 7, 8, 11, 12, 13] [] [] [] [-9223372036854775808 ≤ a2 + (1 : Int) ∧ a2 + (1 : Int) ≤ 9223372036854775807, -9223372036854775808 ≤ (a2 + (1 : Int)) + (a1.length : Int) ∧ (a2 + (1 : Int)) + (a1.length : Int) ≤ 9223372036854775807, (0 : Int) ≤ ((a2 + (1 : Int)) + (a1.length : Int)) ∧ ((a2 + (1 : Int)) + (a1.length : Int)) ≤ ((a2 + (1 : Int)) + (a1.length : Int)) ∧ ((a2 + (1 : Int)) + (a1.length : Int)) * 8 ≤ 140737488355328 ∧ ((a2 + (1 : Int)) + (a1.length : Int)) ≤ 9223372036854775807] ⟨56, [(0, .d (.sl t_api_Cond) a1), (1, vi a2), (4, .ref 0 0 0), (5, .ref 1 0 0), (6, vi x3), (7, .ref 3 0 0), (8, .osl 4 0), (11, .d (.sl t_api_Cond) a1), (12, vi (a1.length : Int)), (13, vi x3)], [.box [vi (0 : Int), .nils], .box [vi a2, .osl 2 0], .row t_farkas_row x4 0, .box [vi x8.1, vi x8.2.1, .d (.sl (.int .i64)) x8.2.2.1, vi x8.2.2.2], .row (.int .i64) (List.replicate (Int.toNat ((a2 + (1 : Int)) + (a1.length : Int))) (0 : Int)) 0]⟩ (by kernel_rfl) (AllP.of (o3) (AllP.of (o4) (AllP.of (o5) trivial))) ?_
      refine then_n (spine_c ?_)
      refine awp_abs (fun (x9 : (List Int)) => ⟨56, [(0, .d (.sl t_api_Cond) a1), (1, vi a2), (4, .ref 0 0 0), (5, .ref 1 0 0), (6, vi x3), (7, .ref 3 0 0), (8, .osl 4 0), (11, .d (.sl t_api_Cond) a1), (12, vi (a1.length : Int)), (13, vi x3)], [.box [vi (0 : Int), .nils], .box [vi a2, .osl 2 0], .row t_farkas_row x4 0, .box [vi x8.1, vi x8.2.1, .d (.sl (.int .i64)) x8.2.2.1, vi x8.2.2.2], .row (.int .i64) x9 0]⟩) (List.replicate (Int.toNat ((a2 + (1 : Int)) + (a1.length : Int))) (0 : Int)) ?_
      intro x9 hx9
      replace h := h x9 hx9
      refine awp_len 0 [] (T := t_api_Cond) (l := a1) (by kernel_rfl) fun hl => ?_
      replace h := h hl
      refine awp_spine ?_
      refine awp_rc tab [0, 1, 4, 5, 6, 7, 8, 11, 12, 13] [] [] [] [] ⟨56, [(0, .d (.sl t_api_Cond) a1), (1, vi a2), (4, .ref 0 0 0), (5, .ref 1 0 0), (6, vi x3), (7, .ref 3 0 0), (8, .osl 4 0), (11, .d (.sl t_api_Cond) a1), (12, vi (a1.length : Int)), (13, vi x3)], [.box [vi (0 : Int), .nils], .box [vi a2, .osl 2 0], .row t_farkas_row x4 0, .box [vi x8.1, vi x8.2.1, .d (.sl (.int .i64)) x8.2.2.1, vi x8.2.2.2], .row (.int .i64) (x8.2.2.1.take (min x8.2.2.1.length x9.length) ++ x9.drop (min x8.2.2.1.length x9.length)) 0]⟩ (by kernel_rfl) (trivial) ?_
      refine then_n (spine_c ?_)
      refine awp_abs (fun (x10 : (List Int)) => ⟨56, [(0, .d (.sl t_api_Cond) a1), (1, vi a2), (4, .ref 0 0 0), (5, .ref 1 0 0), (6, vi x3), (7, .ref 3 0 0), (8, .osl 4 0), (11, .d (.sl t_api_Cond) a1), (12, vi (a1.length : Int)), (13, vi x3)], [.box [vi (0 : Int), .nils], .box [vi a2, .osl 2 0], .row t_farkas_row x4 0, .box [vi x8.1, vi x8.2.1, .d (.sl (.int .i64)) x8.2.2.1, vi x8.2.2.2], .row (.int .i64) x10 0]⟩) (x8.2.2.1.take (min x8.2.2.1.length x9.length) ++ x9.drop (min x8.2.2.1.length x9.length)) ?_
      intro x10 hx10
      replace h := h x10 hx10
      refine awp_spine ?_
      obtain ⟨o6, o7, o8, o9, o10, o11, h⟩ := h
      refine awp_rc tab [0, 1, 4, 5, 7, 8, 11, 12, 13] [] [] [] [-9223372036854775808 ≤ a2 + (1 : Int) ∧ a2 + (1 : Int) ≤ 9223372036854775807, -9223372036854775808 ≤ (a2 + (1 : Int)) + x3 ∧ (a2 + (1 : Int)) + x3 ≤ 9223372036854775807, (0 : Int) ≤ a2 ∧ a2 < (x10.length : Int), Int.toNat a2 < x10.length, (0 : Int) ≤ ((a2 + (1 : Int)) + x3) ∧ ((a2 + (1 : Int)) + x3) < ((x10.set (Int.toNat a2) x8.2.2.2).length : Int), Int.toNat ((a2 + (1 : Int)) + x3) < (x10.set (Int.toNat a2) x8.2.2.2).length] ⟨56, [(0, .d (.sl t_api_Cond) a1), (1, vi a2), (4, .ref 0 0 0), (5, .ref 1 0 0), (7, .ref 3 0 0), (8, .osl 4 0), (11, .d (.sl t_api_Cond) a1), (12, vi (a1.length : Int)), (13, vi x3)], [.box [vi (0 : Int), .nils], .box [vi a2, .osl 2 0], .row t_farkas_row x4 0, .box [vi x8.1, vi x8.2.1, .d (.sl (.int .i64)) x8.2.2.1, vi x8.2.2.2], .row (.int .i64) ((x10.set (Int.toNat a2) x8.2.2.2).set (Int.toNat ((a2 + (1 : Int)) + x3)) (1 : Int)) 0]⟩ (by kernel_rfl) (AllP.of (o6) (AllP.of (o7) (AllP.of (o8) (AllP.of (o9) (AllP.of (o10) (AllP.of (o11) trivial)))))) ?_
      refine then_n (spine_c ?_)
      refine awp_abs (fun (x11 : (List Int)) => ⟨56, [(0, .d (.sl t_api_Cond) a1), (1, vi a2), (4, .ref 0 0 0), (5, .ref 1 0 0), (7, .ref 3 0 0), (8, .osl 4 0), (11, .d (.sl t_api_Cond) a1), (12, vi (a1.length : Int)), (13, vi x3)], [.box [vi (0 : Int), .nils], .box [vi a2, .osl 2 0], .row t_farkas_row x4 0, .box [vi x8.1, vi x8.2.1, .d (.sl (.int .i64)) x8.2.2.1, vi x8.2.2.2], .row (.int .i64) x11 0]⟩) ((x10.set (Int.toNat a2) x8.2.2.2).set (Int.toNat ((a2 + (1 : Int)) + x3)) (1 : Int)) ?_
      intro x11 hx11
      replace h := h x11 hx11
      refine awp_gh hk [.freeze 4, .keep [0, 1, 4, 5, 7, 8, 11, 12, 13]] ⟨56, [(0, .d (.sl t_api_Cond) a1), (1, vi a2), (4, .ref 0 0 0), (5, .ref 1 0 0), (7, .ref 3 0 0), (8, .d (.sl (.int .i64)) x11), (11, .d (.sl t_api_Cond) a1), (12, vi (a1.length : Int)), (13, vi x3)], [.box [vi (0 : Int), .nils], .box [vi a2, .osl 2 0], .row t_farkas_row x4 0, .box [vi x8.1, vi x8.2.1, .d (.sl (.int .i64)) x8.2.2.1, vi x8.2.2.2], .dead]⟩ (by kernel_rfl) ?_
      obtain ⟨o12, h⟩ := h
      refine awp_rc tab [0, 1, 4, 5, 11, 12, 13] [] [] [7] [1 * 2 ≤ 16777216, (x4.length + [(x8.1 == (1 : Int), x11)].length) * 32 ≤ 140737488355328 ∧ x4.length + [(x8.1 == (1 : Int), x11)].length ≤ 9223372036854775807] ⟨56, [(0, .d (.sl t_api_Cond) a1), (1, vi a2), (4, .ref 0 0 0), (5, .ref 1 0 0), (11, .d (.sl t_api_Cond) a1), (12, vi (a1.length : Int)), (13, vi x3)], [.box [vi (0 : Int), .nils], .box [vi a2, .osl 2 1], .row t_farkas_row (x4 ++ [(x8.1 == (1 : Int), x11)]) 1, .box [vi x8.1, vi x8.2.1, .d (.sl (.int .i64)) x8.2.2.1, vi x8.2.2.2], .dead]⟩ (by kernel_rfl) (AllP.of (by decide) (AllP.of (o12) trivial)) ?_
      refine then_n (spine_e (then_n (spine_e (then_n (spine_e (then_n (spine_e (then_n (spine_e (blk_n (then_n (spine_c ?_))))))))))))
      refine awp_abs (fun (x12 : (List farkas_row)) => ⟨56, [(0, .d (.sl t_api_Cond) a1), (1, vi a2), (4, .ref 0 0 0), (5, .ref 1 0 0), (11, .d (.sl t_api_Cond) a1), (12, vi (a1.length : Int)), (13, vi x3)], [.box [vi (0 : Int), .nils], .box [vi a2, .osl 2 1], .row t_farkas_row x12 1, .box [vi x8.1, vi x8.2.1, .d (.sl (.int .i64)) x8.2.2.1, vi x8.2.2.2], .dead]⟩) (x4 ++ [(x8.1 == (1 : Int), x11)]) ?_
      intro x12 hx12
      replace h := h x12 hx12
      obtain ⟨o13, h⟩ := h
      refine awp_rc tab [0, 1, 4, 5, 11, 12, 13] [] [] [] [-9223372036854775808 ≤ x3 + (1 : Int) ∧ x3 + (1 : Int) ≤ 9223372036854775807] ⟨56, [(0, .d (.sl t_api_Cond) a1), (1, vi a2), (4, .ref 0 0 0), (5, .ref 1 0 0), (11, .d (.sl t_api_Cond) a1), (12, vi (a1.length : Int)), (13, vi (x3 + (1 : Int)))], [.box [vi (0 : Int), .nils], .box [vi a2, .osl 2 1], .row t_farkas_row x12 1, .box [vi x8.1, vi x8.2.1, .d (.sl (.int .i64)) x8.2.2.1, vi x8.2.2.2], .dead]⟩ (by kernel_rfl) (AllP.of (o13) trivial) ?_
      refine then_n (spine_e (then_n (spine_e (then_n (spine_e (then_n (?_)))))))
      obtain ⟨m, hm, h⟩ := h
      exact ⟨m, hm, ⟨56, [(0, .d (.sl t_api_Cond) a1), (1, vi a2), (4, .ref 0 0 0), (5, .ref 1 0 0), (11, .d (.sl t_api_Cond) a1), (12, vi (a1.length : Int)), (13, vi (x3 + (1 : Int)))], [.box [vi (0 : Int), .nils], .box [vi a2, .osl 2 0], .row t_farkas_row x12 0]⟩, wk_ghosts hk (l := [.keep [0, 1, 4, 5, 11, 12, 13], .keep [0, 1, 4, 5, 11, 12, 13], .cut 3, .reset 2, .keep [0, 1, 4, 5, 11, 12, 13]]) (by kernel_rfl), x3 + (1 : Int), x12, h, rfl⟩
  · replace h := h.2 (of_decide_eq_false hb)
    refine awp_exit (then_x (then_x (then_x (blk_h (then_n (spine_c ?_))))))
    refine awp_spine ?_
    refine awp_rc tab [4] [] [] [] [] ⟨56, [(4, .ref 0 0 0)], [.box [vi a2, .osl 2 0], .box [vi a2, .osl 2 0], .row t_farkas_row x4 0]⟩ (by kernel_rfl) (trivial) ?_
    refine then_n (spine_c ?_)
    refine awp_ret (then_r (then_r (then_r (then_r (?_)))))
    exact ret_r (m := 0) (r := .agg [vi ((a2, x4).1), .d (.sl t_farkas_row) ((a2, x4).2)]) (objs := []) hk [.keep [4], .freeze 2] ⟨56, [(4, .ref 0 0 0)], [.box [vi a2, .d (.sl t_farkas_row) x4], .box [vi a2, .d (.sl t_farkas_row) x4], .dead]⟩ (by kernel_rfl) (by kernel_rfl) (Nat.le_refl 0) ⟨(a2, x4), rfl, rfl, h⟩
theorem ok_farkas_first (a1 : (List api_Cond)) (a2 : Int) (h : farkas_first.pre a1 a2) : OkC prog 55 [.d (.sl t_api_Cond) a1, vi a2] (.agg [vi ((farkas_first.fn a1 a2).1), .d (.sl t_farkas_row) ((farkas_first.fn a1 a2).2)]) :=
  OkC.of call_farkas_first ((walk_farkas_first a1 a2 _ (farkas_first.spec a1 a2 h)).mono fun r o ⟨x, hr, ho, hx⟩ => ⟨by rw [hr, hx], ho⟩) rfl rfl (fun _ => rfl)

end Go.Proofs.Ytlncingakpelbaa
