/- Part of a proof that a law of the program holds for every input: printed by a program of this work. No conditions. -/
import Derived.Test.YtlncingakpelbaaK1
namespace Go.Proofs.Ytlncingakpelbaa
open Go
set_option linter.unusedVariables false
set_option maxHeartbeats 4000000

noncomputable abbrev Bslices_ContainsFunc_Sapi_Cond_api_Cond__farkas_asked_2 : Code := bodyOf Try.f51
theorem call_slices_ContainsFunc_Sapi_Cond_api_Cond__farkas_asked_2 : CallOk prog 51 := ⟨_, Try.func51, by kernel_rfl, by kernel_rfl⟩
theorem walk_slices_ContainsFunc_Sapi_Cond_api_Cond__farkas_asked_2 (a1 : (List api_Cond)) (a2 : Int) (Q : Bool → Prop) (h : slices_ContainsFunc_Sapi_Cond_api_Cond__farkas_asked_2.wp a1 a2 Q) : VCalls prog 51 [.d (.sl t_api_Cond) a1, .fn (.func 54) [] [.er [vi a2]]] [] (fun r o => ∃ x, r = vb x ∧ o = [] ∧ Q x) := by
  refine vcalls_body tab Try.func51 (c := (spine (subC [0] Bslices_ContainsFunc_Sapi_Cond_api_Cond__farkas_asked_2) [(spine (subC [1, 0] Bslices_ContainsFunc_Sapi_Cond_api_Cond__farkas_asked_2) [.ret])])) (by kernel_rfl) (Nat.le_of_ble_eq_true (by kernel_rfl)) fun cx hd hi hk => ?_
  show AWp prog cx _ _ ⟨9, [(0, .d (.sl t_api_Cond) a1), (1, .fn (.func 54) [] [.er [vi a2]])], []⟩
  replace hk : cx.E.len = 0 := hk
  unfold slices_ContainsFunc_Sapi_Cond_api_Cond__farkas_asked_2.wp at h
  refine awp_spine ?_
  refine awp_rc tab [0, 1] [] [] [] [] ⟨9, [(0, .d (.sl t_api_Cond) a1), (1, .fn (.func 54) [] [.er [vi a2]])], []⟩ (by kernel_rfl) (trivial) ?_
  refine then_n (spine_c ?_)
  refine awp_spine ?_
  refine awp_rc tab [4] [] [(2, .dat (vi (slices_IndexFunc_Sapi_Cond_api_Cond__farkas_asked_2.fn a1 a2)))] [] [OkC prog 76 [.d (.sl t_api_Cond) a1, .fn (.func 54) [] [.er [vi a2]]] (vi (slices_IndexFunc_Sapi_Cond_api_Cond__farkas_asked_2.fn a1 a2))] ⟨9, [(4, vb (decide ((slices_IndexFunc_Sapi_Cond_api_Cond__farkas_asked_2.fn a1 a2) ≥ (0 : Int))))], []⟩ (by kernel_rfl) (AllP.of (ok_slices_IndexFunc_Sapi_Cond_api_Cond__farkas_asked_2 a1 a2) trivial) ?_
  refine then_n (spine_c ?_)
  refine awp_abs (fun (x1 : Int) => ⟨9, [(4, vb (decide (x1 ≥ (0 : Int))))], []⟩) (slices_IndexFunc_Sapi_Cond_api_Cond__farkas_asked_2.fn a1 a2) ?_
  intro x1 hx1
  replace h := h x1 hx1
  refine awp_ret (then_r (then_r (?_)))
  exact ret_r (m := 0) (r := vb (decide (x1 ≥ (0 : Int)))) (objs := []) hk [.keep [4]] ⟨9, [(4, vb (decide (x1 ≥ (0 : Int))))], []⟩ (by kernel_rfl) (by kernel_rfl) (Nat.le_refl 0) ⟨decide (x1 ≥ (0 : Int)), rfl, rfl, h⟩
theorem ok_slices_ContainsFunc_Sapi_Cond_api_Cond__farkas_asked_2 (a1 : (List api_Cond)) (a2 : Int) : OkC prog 51 [.d (.sl t_api_Cond) a1, .fn (.func 54) [] [.er [vi a2]]] (vb (slices_ContainsFunc_Sapi_Cond_api_Cond__farkas_asked_2.fn a1 a2)) :=
  OkC.of call_slices_ContainsFunc_Sapi_Cond_api_Cond__farkas_asked_2 ((walk_slices_ContainsFunc_Sapi_Cond_api_Cond__farkas_asked_2 a1 a2 _ (slices_ContainsFunc_Sapi_Cond_api_Cond__farkas_asked_2.spec a1 a2)).mono fun r o ⟨x, hr, ho, hx⟩ => ⟨by rw [hr, hx], ho⟩) rfl rfl (fun _ => rfl)

noncomputable abbrev Bfarkas_asked : Code := bodyOf Try.f25
theorem call_farkas_asked : CallOk prog 25 := ⟨_, Try.func25, by kernel_rfl, by kernel_rfl⟩
theorem walk_farkas_asked (a1 : (List api_Cond)) (a2 : Int) (Q : Int → Prop) (h : farkas_asked.wp a1 a2 Q) : VCalls prog 25 [.d (.sl t_api_Cond) a1, vi a2] [] (fun r o => ∃ x, r = vi x ∧ o = [] ∧ Q x) := by
  refine vcalls_body tab Try.func25 (c := (spine (subC [0] Bfarkas_asked) [(spine (.block 0 (spine (subC [1, 0, 0, 0] Bfarkas_asked) [(.cond (.tmp 5) (spine (subC [1, 0, 0, 1, 0, 0] Bfarkas_asked) [.ret]) (spine (subC [1, 0, 0, 1, 1, 0] Bfarkas_asked) [(.cond (.tmp 12) (spine (subC [1, 0, 0, 1, 1, 1, 0, 0] Bfarkas_asked) [.ret]) (spine (subC [1, 0, 0, 1, 1, 1, 1, 0] Bfarkas_asked) [(.cond (.tmp 16) (spine (subC [1, 0, 0, 1, 1, 1, 1, 1, 0, 0] Bfarkas_asked) [.ret]) (spine (subC [1, 0, 0, 1, 1, 1, 1, 1, 1, 0] Bfarkas_asked) [(.cond (.tmp 19) (spine (subC [1, 0, 0, 1, 1, 1, 1, 1, 1, 1, 0, 0] Bfarkas_asked) [.ret]) .skip)]))]))]))])) [(spine (subC [1, 1, 0] Bfarkas_asked) [.ret])])])) (by kernel_rfl) (Nat.le_of_ble_eq_true (by kernel_rfl)) fun cx hd hi hk => ?_
  show AWp prog cx _ _ ⟨23, [(0, .d (.sl t_api_Cond) a1), (1, vi a2)], []⟩
  replace hk : cx.E.len = 0 := hk
  unfold farkas_asked.wp at h
  refine awp_spine ?_
  refine awp_rc tab [0, 3] [] [] [0] [] ⟨23, [(0, .d (.sl t_api_Cond) a1), (3, .er [vi a2])], []⟩ (by kernel_rfl) (trivial) ?_
  refine then_n (spine_c ?_)
  refine awp_spine ?_
  refine awp_block ?_
  refine awp_spine ?_
  refine awp_rc tab [0, 3, 5] [] [] [] [(!(decide (a2 < (0 : Int)))) = true → (!(decide (a2 < (0 : Int)))) = true ∧ True, (decide (a2 < (0 : Int))) = false → (!(decide (a2 < (0 : Int)))) = true] ⟨23, [(0, .d (.sl t_api_Cond) a1), (3, .er [vi a2]), (5, vb ((decide (a2 < (0 : Int))) || (decide (a2 > (12 : Int)))))], []⟩ (by kernel_rfl) (AllP.of (fun hg => ⟨hg, trivial⟩) (AllP.of (fun hc => not_f hc) trivial)) ?_
  refine then_n (spine_c ?_)
  refine awp_cond (b := (decide (a2 < (0 : Int))) || (decide (a2 > (12 : Int)))) (by kernel_rfl) (fun hb => ?_) (fun hb => ?_)
  · replace h := h.1 (hb)
    refine awp_spine ?_
    refine awp_rc tab [4] [] [] [] [] ⟨23, [(4, vi (6 : Int))], []⟩ (by kernel_rfl) (trivial) ?_
    refine then_n (spine_c ?_)
    refine awp_ret (then_r (then_r (blk_r (then_r (then_r (?_))))))
    exact ret_r (m := 0) (r := vi (6 : Int)) (objs := []) hk [.keep [4]] ⟨23, [(4, vi (6 : Int))], []⟩ (by kernel_rfl) (by kernel_rfl) (Nat.le_refl 0) ⟨6, rfl, rfl, h⟩
  · replace h := h.2 (hb)
    refine awp_spine ?_
    refine awp_rc tab [0, 3, 12] [] [] [] [] ⟨23, [(0, .d (.sl t_api_Cond) a1), (3, .er [vi a2]), (12, vb (decide ((a1.length : Int) > (96 : Int))))], []⟩ (by kernel_rfl) (trivial) ?_
    refine then_n (spine_c ?_)
    refine awp_len 0 [] (T := t_api_Cond) (l := a1) (by kernel_rfl) fun hl => ?_
    replace h := h hl
    refine awp_cond (b := decide ((a1.length : Int) > (96 : Int))) (by kernel_rfl) (fun hb => ?_) (fun hb => ?_)
    · replace h := h.1 (of_decide_eq_true hb)
      refine awp_spine ?_
      refine awp_rc tab [4] [] [] [] [] ⟨23, [(4, vi (3 : Int))], []⟩ (by kernel_rfl) (trivial) ?_
      refine then_n (spine_c ?_)
      refine awp_ret (then_r (then_r (then_r (blk_r (then_r (then_r (?_)))))))
      exact ret_r (m := 0) (r := vi (3 : Int)) (objs := []) hk [.keep [4]] ⟨23, [(4, vi (3 : Int))], []⟩ (by kernel_rfl) (by kernel_rfl) (Nat.le_refl 0) ⟨3, rfl, rfl, h⟩
    · replace h := h.2 (of_decide_eq_false hb)
      refine awp_spine ?_
      refine awp_rc tab [0, 3, 16] [] [(1, .dat (vb (slices_ContainsFunc_Sapi_Cond_api_Cond__farkas_asked_1.fn a1)))] [] [OkC prog 51 [.d (.sl t_api_Cond) a1, .fn (.func 52) [] []] (vb (slices_ContainsFunc_Sapi_Cond_api_Cond__farkas_asked_1.fn a1))] ⟨23, [(0, .d (.sl t_api_Cond) a1), (3, .er [vi a2]), (16, vb (slices_ContainsFunc_Sapi_Cond_api_Cond__farkas_asked_1.fn a1))], []⟩ (by kernel_rfl) (AllP.of (ok_slices_ContainsFunc_Sapi_Cond_api_Cond__farkas_asked_1 a1) trivial) ?_
      refine then_n (spine_c ?_)
      refine awp_cond (b := slices_ContainsFunc_Sapi_Cond_api_Cond__farkas_asked_1.fn a1) (by kernel_rfl) (fun hb => ?_) (fun hb => ?_)
      · replace h := h.1 (hb)
        refine awp_spine ?_
        refine awp_rc tab [4] [] [] [] [] ⟨23, [(4, vi (1 : Int))], []⟩ (by kernel_rfl) (trivial) ?_
        refine then_n (spine_c ?_)
        refine awp_ret (then_r (then_r (then_r (then_r (blk_r (then_r (then_r (?_))))))))
        exact ret_r (m := 0) (r := vi (1 : Int)) (objs := []) hk [.keep [4]] ⟨23, [(4, vi (1 : Int))], []⟩ (by kernel_rfl) (by kernel_rfl) (Nat.le_refl 0) ⟨1, rfl, rfl, h⟩
      · replace h := h.2 (hb)
        refine awp_spine ?_
        refine awp_rc tab [19] [] [(2, .dat (vb (slices_ContainsFunc_Sapi_Cond_api_Cond__farkas_asked_2.fn a1 a2)))] [] [OkC prog 51 [.d (.sl t_api_Cond) a1, .fn (.func 54) [] [.er [vi a2]]] (vb (slices_ContainsFunc_Sapi_Cond_api_Cond__farkas_asked_2.fn a1 a2))] ⟨23, [(19, vb (slices_ContainsFunc_Sapi_Cond_api_Cond__farkas_asked_2.fn a1 a2))], []⟩ (by kernel_rfl) (AllP.of (ok_slices_ContainsFunc_Sapi_Cond_api_Cond__farkas_asked_2 a1 a2) trivial) ?_
        refine then_n (spine_c ?_)
        refine awp_cond (b := slices_ContainsFunc_Sapi_Cond_api_Cond__farkas_asked_2.fn a1 a2) (by kernel_rfl) (fun hb => ?_) (fun hb => ?_)
        · replace h := h.1 (hb)
          refine awp_spine ?_
          refine awp_rc tab [4] [] [] [] [] ⟨23, [(4, vi (2 : Int))], []⟩ (by kernel_rfl) (trivial) ?_
          refine then_n (spine_c ?_)
          refine awp_ret (then_r (then_r (then_r (then_r (then_r (blk_r (then_r (then_r (?_)))))))))
          exact ret_r (m := 0) (r := vi (2 : Int)) (objs := []) hk [.keep [4]] ⟨23, [(4, vi (2 : Int))], []⟩ (by kernel_rfl) (by kernel_rfl) (Nat.le_refl 0) ⟨2, rfl, rfl, h⟩
        · replace h := h.2 (hb)
          refine awp_skip (then_n (spine_e (then_n (spine_e (then_n (spine_e (then_n (spine_e (blk_n (then_n (spine_c ?_)))))))))))
          refine awp_spine ?_
          refine awp_rc tab [4] [] [] [] [] ⟨23, [(4, vi (0 : Int))], []⟩ (by kernel_rfl) (trivial) ?_
          refine then_n (spine_c ?_)
          refine awp_ret (then_r (then_r (then_r (?_))))
          exact ret_r (m := 0) (r := vi (0 : Int)) (objs := []) hk [.keep [4]] ⟨23, [(4, vi (0 : Int))], []⟩ (by kernel_rfl) (by kernel_rfl) (Nat.le_refl 0) ⟨0, rfl, rfl, h⟩
theorem ok_farkas_asked (a1 : (List api_Cond)) (a2 : Int) : OkC prog 25 [.d (.sl t_api_Cond) a1, vi a2] (vi (farkas_asked.fn a1 a2)) :=
  OkC.of call_farkas_asked ((walk_farkas_asked a1 a2 _ (farkas_asked.spec a1 a2)).mono fun r o ⟨x, hr, ho, hx⟩ => ⟨by rw [hr, hx], ho⟩) rfl rfl (fun _ => rfl)

noncomputable abbrev Bfarkas_first : Code := bodyOf Try.f55
theorem call_farkas_first : CallOk prog 55 := ⟨_, Try.func55, by kernel_rfl, by kernel_rfl⟩
theorem walk_farkas_first (a1 : (List api_Cond)) (a2 : Int) (Q : farkas_table → Prop) (h : farkas_first.wp a1 a2 Q) : VCalls prog 55 [.d (.sl t_api_Cond) a1, vi a2] [] (fun r o => ∃ x, r = .agg [vi x.1, .d (.sl t_farkas_row) x.2] ∧ o = [] ∧ Q x) := by
  refine vcalls_body tab Try.func55 (c := (spine (subC [0] Bfarkas_first) [(spine (subC [1, 0] Bfarkas_first) [(spine (subC [1, 1, 0, 0] Bfarkas_first) [(.block 0 (.loop (spine (subC [1, 1, 0, 1, 0, 0, 0] Bfarkas_first) [(spine (.cond (.tmp 14) .skip (.exit 0)) [(spine (.block 1 (spine (subC [1, 1, 0, 1, 0, 0, 1, 1, 0, 0, 0] Bfarkas_first) [(spine (subC [1, 1, 0, 1, 0, 0, 1, 1, 0, 0, 1, 0, 0] Bfarkas_first) [(.cond (.tmp 20) (.exit 1) .skip), (spine (subC [1, 1, 0, 1, 0, 0, 1, 1, 0, 0, 1, 1, 0] Bfarkas_first) [(spine (subC [1, 1, 0, 1, 0, 0, 1, 1, 0, 0, 1, 1, 1, 0] Bfarkas_first) [(spine (subC [1, 1, 0, 1, 0, 0, 1, 1, 0, 0, 1, 1, 1, 1, 0] Bfarkas_first) [(subC [1, 1, 0, 1, 0, 0, 1, 1, 0, 0, 1, 1, 1, 1, 1] Bfarkas_first)])])])])])) [(subC [1, 1, 0, 1, 0, 0, 1, 1, 1] Bfarkas_first)])])]))), (spine (subC [1, 1, 1, 0] Bfarkas_first) [.ret])])])])) (by kernel_rfl) (Nat.le_of_ble_eq_true (by kernel_rfl)) fun cx hd hi hk => ?_
  show AWp prog cx _ _ ⟨56, [(0, .d (.sl t_api_Cond) a1), (1, vi a2)], []⟩
  replace hk : cx.E.len = 0 := hk
  unfold farkas_first.wp at h
  refine awp_spine ?_
  refine awp_rc tab [0, 1, 4] [] [] [] [] ⟨56, [(0, .d (.sl t_api_Cond) a1), (1, vi a2), (4, .ref 0 0 0)], [.box [vi (0 : Int), .nils]]⟩ (by kernel_rfl) (trivial) ?_
  refine then_n (spine_c ?_)
  refine awp_spine ?_
  refine awp_rc tab [0, 1, 4, 5] [] [] [] [] ⟨56, [(0, .d (.sl t_api_Cond) a1), (1, vi a2), (4, .ref 0 0 0), (5, .ref 1 0 0)], [.box [vi (0 : Int), .nils], .box [vi a2, .nils]]⟩ (by kernel_rfl) (trivial) ?_
  refine then_n (spine_c ?_)
  refine awp_spine ?_
  refine awp_rc tab [0, 1, 4, 5, 11, 12, 13] [] [] [] [] ⟨56, [(0, .d (.sl t_api_Cond) a1), (1, vi a2), (4, .ref 0 0 0), (5, .ref 1 0 0), (11, .d (.sl t_api_Cond) a1), (12, vi (a1.length : Int)), (13, vi (0 : Int))], [.box [vi (0 : Int), .nils], .box [vi a2, .nils]]⟩ (by kernel_rfl) (trivial) ?_
  refine then_n (spine_c ?_)
  refine awp_len 0 [] (T := t_api_Cond) (l := a1) (by kernel_rfl) fun hl => ?_
  replace h := h hl
  refine awp_block ?_
  obtain ⟨I7, ⟨n7a, hz7⟩, hI7⟩ := h
  refine awp_loopN (fun n s => ∃ (x3 : Int) (x4 : (List farkas_row)), I7 n x3 x4 ∧ s = ⟨56, [(0, .d (.sl t_api_Cond) a1), (1, vi a2), (4, .ref 0 0 0), (5, .ref 1 0 0), (11, .d (.sl t_api_Cond) a1), (12, vi (a1.length : Int)), (13, vi x3)], [.box [vi (0 : Int), .nils], .box [vi a2, .osl 2 0], .row t_farkas_row x4 0]⟩) (n := n7a) (s0 := ⟨56, [(0, .d (.sl t_api_Cond) a1), (1, vi a2), (4, .ref 0 0 0), (5, .ref 1 0 0), (11, .d (.sl t_api_Cond) a1), (12, vi (a1.length : Int)), (13, vi (0 : Int))], [.box [vi (0 : Int), .nils], .box [vi a2, .osl 2 0], .row t_farkas_row ([] : List farkas_row) 0]⟩) (wk_ghosts hk (l := [.keep [0, 1, 4, 5, 11, 12, 13], .adoptBox 1 1 t_farkas_row, .keep [0, 1, 4, 5, 11, 12, 13], .keep [0, 1, 4, 5, 11, 12, 13], .keep [0, 1, 4, 5, 11, 12, 13]]) (by kernel_rfl)) ⟨0, ([] : List farkas_row), hz7, rfl⟩ ?_
  rintro n7 s ⟨x3, x4, hx7, rfl⟩
  have h := hI7 n7 x3 x4 hx7
  refine awp_spine ?_
  refine awp_rc tab [0, 1, 4, 5, 11, 12, 13, 14] [] [] [] [] ⟨56, [(0, .d (.sl t_api_Cond) a1), (1, vi a2), (4, .ref 0 0 0), (5, .ref 1 0 0), (11, .d (.sl t_api_Cond) a1), (12, vi (a1.length : Int)), (13, vi x3), (14, vb (decide (x3 < (a1.length : Int))))], [.box [vi (0 : Int), .nils], .box [vi a2, .osl 2 0], .row t_farkas_row x4 0]⟩ (by kernel_rfl) (trivial) ?_
  refine then_n (spine_c ?_)
  refine awp_spine ?_
  refine awp_cond (b := decide (x3 < (a1.length : Int))) (by kernel_rfl) (fun hb => ?_) (fun hb => ?_)
  · replace h := h.1 (of_decide_eq_true hb)
    refine awp_skip (then_n (spine_c ?_))
    refine awp_spine ?_
    refine awp_block ?_
    refine awp_spine ?_
    obtain ⟨o1, h⟩ := h
    refine awp_rc tab [0, 1, 4, 5, 6, 7, 11, 12, 13] [] [] [] [(0 : Int) ≤ x3 ∧ x3 < (a1.length : Int)] ⟨56, [(0, .d (.sl t_api_Cond) a1), (1, vi a2), (4, .ref 0 0 0), (5, .ref 1 0 0), (6, vi x3), (7, .ref 3 0 0), (11, .d (.sl t_api_Cond) a1), (12, vi (a1.length : Int)), (13, vi x3)], [.box [vi (0 : Int), .nils], .box [vi a2, .osl 2 0], .row t_farkas_row x4 0, .box [vi ((a1.getD (Int.toNat x3) d_api_Cond).1), vi ((a1.getD (Int.toNat x3) d_api_Cond).2.1), .d (.sl (.int .i64)) (((a1.getD (Int.toNat x3) d_api_Cond).2.2).1), vi (((a1.getD (Int.toNat x3) d_api_Cond).2.2).2)]]⟩ (by kernel_rfl) (AllP.of (o1) trivial) ?_
    refine then_n (spine_c ?_)
    refine awp_abs (fun (x8 : api_Cond) => ⟨56, [(0, .d (.sl t_api_Cond) a1), (1, vi a2), (4, .ref 0 0 0), (5, .ref 1 0 0), (6, vi x3), (7, .ref 3 0 0), (11, .d (.sl t_api_Cond) a1), (12, vi (a1.length : Int)), (13, vi x3)], [.box [vi (0 : Int), .nils], .box [vi a2, .osl 2 0], .row t_farkas_row x4 0, .box [vi x8.1, vi x8.2.1, .d (.sl (.int .i64)) x8.2.2.1, vi x8.2.2.2]]⟩) (a1.getD (Int.toNat x3) d_api_Cond) ?_
    intro x8 hx8
    replace h := h x8 hx8
    refine awp_spine ?_
    refine awp_rc tab [0, 1, 4, 5, 6, 7, 11, 12, 13, 20] [] [] [] [] ⟨56, [(0, .d (.sl t_api_Cond) a1), (1, vi a2), (4, .ref 0 0 0), (5, .ref 1 0 0), (6, vi x3), (7, .ref 3 0 0), (11, .d (.sl t_api_Cond) a1), (12, vi (a1.length : Int)), (13, vi x3), (20, vb (x8.1 == (2 : Int)))], [.box [vi (0 : Int), .nils], .box [vi a2, .osl 2 0], .row t_farkas_row x4 0, .box [vi x8.1, vi x8.2.1, .d (.sl (.int .i64)) x8.2.2.1, vi x8.2.2.2]]⟩ (by kernel_rfl) (trivial) ?_
    refine then_n (spine_c ?_)
    refine awp_cond (b := x8.1 == (2 : Int)) (by kernel_rfl) (fun hb => ?_) (fun hb => ?_)
    · replace h := h.1 (eq_of_beq hb)
      refine awp_exit (then_x (then_x (blk_h (then_n (spine_c ?_)))))
      obtain ⟨o2, h⟩ := h
      refine awp_rc tab [0, 1, 4, 5, 11, 12, 13] [] [] [] [-9223372036854775808 ≤ x3 + (1 : Int) ∧ x3 + (1 : Int) ≤ 9223372036854775807] ⟨56, [(0, .d (.sl t_api_Cond) a1), (1, vi a2), (4, .ref 0 0 0), (5, .ref 1 0 0), (11, .d (.sl t_api_Cond) a1), (12, vi (a1.length : Int)), (13, vi (x3 + (1 : Int)))], [.box [vi (0 : Int), .nils], .box [vi a2, .osl 2 0], .row t_farkas_row x4 0, .box [vi x8.1, vi x8.2.1, .d (.sl (.int .i64)) x8.2.2.1, vi x8.2.2.2]]⟩ (by kernel_rfl) (AllP.of (o2) trivial) ?_
      refine then_n (spine_e (then_n (spine_e (then_n (spine_e (then_n (?_)))))))
      obtain ⟨m, hm, h⟩ := h
      exact ⟨m, hm, ⟨56, [(0, .d (.sl t_api_Cond) a1), (1, vi a2), (4, .ref 0 0 0), (5, .ref 1 0 0), (11, .d (.sl t_api_Cond) a1), (12, vi (a1.length : Int)), (13, vi (x3 + (1 : Int)))], [.box [vi (0 : Int), .nils], .box [vi a2, .osl 2 0], .row t_farkas_row x4 0]⟩, wk_ghosts hk (l := [.keep [0, 1, 4, 5, 11, 12, 13], .keep [0, 1, 4, 5, 11, 12, 13], .cut 3, .keep [0, 1, 4, 5, 11, 12, 13]]) (by kernel_rfl), x3 + (1 : Int), x4, h, rfl⟩
    · replace h := h.2 (ne_of_beq_false hb)
      refine awp_skip (then_n (spine_c ?_))
      refine awp_spine ?_
      obtain ⟨o3, o4, o5, h⟩ := h
      refine awp_rc tab [0, 1, 4, 5, 6, 7, 8, 11, 12, 13] [] [] [] [-9223372036854775808 ≤ a2 + (1 : Int) ∧ a2 + (1 : Int) ≤ 9223372036854775807, -9223372036854775808 ≤ (a2 + (1 : Int)) + (a1.length : Int) ∧ (a2 + (1 : Int)) + (a1.length : Int) ≤ 9223372036854775807, (0 : Int) ≤ ((a2 + (1 : Int)) + (a1.length : Int)) ∧ ((a2 + (1 : Int)) + (a1.length : Int)) ≤ ((a2 + (1 : Int)) + (a1.length : Int)) ∧ ((a2 + (1 : Int)) + (a1.length : Int)) * 8 ≤ 140737488355328 ∧ ((a2 + (1 : Int)) + (a1.length : Int)) ≤ 9223372036854775807] ⟨56, [(0, .d (.sl t_api_Cond) a1), (1, vi a2), (4, .ref 0 0 0), (5, .ref 1 0 0), (6, vi x3), (7, .ref 3 0 0), (8, .osl 4 0), (11, .d (.sl t_api_Cond) a1), (12, vi (a1.length : Int)), (13, vi x3)], [.box [vi (0 : Int), .nils], .box [vi a2, .osl 2 0], .row t_farkas_row x4 0, .box [vi x8.1, vi x8.2.1, .d (.sl (.int .i64)) x8.2.2.1, vi x8.2.2.2], .row (.int .i64) (List.replicate (Int.toNat ((a2 + (1 : Int)) + (a1.length : Int))) (0 : Int)) 0]⟩ (by kernel_rfl) (AllP.of (o3) (AllP.of (o4) (AllP.of (o5) trivial))) ?_
      refine then_n (spine_c ?_)
      refine awp_abs (fun (x9 : (List Int)) => ⟨56, [(0, .d (.sl t_api_Cond) a1), (1, vi a2), (4, .ref 0 0 0), (5, .ref 1 0 0), (6, vi x3), (7, .ref 3 0 0), (8, .osl 4 0), (11, .d (.sl t_api_Cond) a1), (12, vi (a1.length : Int)), (13, vi x3)], [.box [vi (0 : Int), .nils], .box [vi a2, .osl 2 0], .row t_farkas_row x4 0, .box [vi x8.1, vi x8.2.1, .d (.sl (.int .i64)) x8.2.2.1, vi x8.2.2.2], .row (.int .i64) x9 0]⟩) (List.replicate (Int.toNat ((a2 + (1 : Int)) + (a1.length : Int))) (0 : Int)) ?_
      intro x9 hx9
      replace h := h x9 hx9
      refine awp_len 0 [] (T := t_api_Cond) (l := a1) (by kernel_rfl) fun hl => ?_
      replace h := h hl
      refine awp_spine ?_
      refine awp_rc tab [0, 1, 4, 5, 6, 7, 8, 11, 12, 13] [] [] [] [] ⟨56, [(0, .d (.sl t_api_Cond) a1), (1, vi a2), (4, .ref 0 0 0), (5, .ref 1 0 0), (6, vi x3), (7, .ref 3 0 0), (8, .osl 4 0), (11, .d (.sl t_api_Cond) a1), (12, vi (a1.length : Int)), (13, vi x3)], [.box [vi (0 : Int), .nils], .box [vi a2, .osl 2 0], .row t_farkas_row x4 0, .box [vi x8.1, vi x8.2.1, .d (.sl (.int .i64)) x8.2.2.1, vi x8.2.2.2], .row (.int .i64) (x8.2.2.1.take (min x8.2.2.1.length x9.length) ++ x9.drop (min x8.2.2.1.length x9.length)) 0]⟩ (by kernel_rfl) (trivial) ?_
      refine then_n (spine_c ?_)
      refine awp_abs (fun (x10 : (List Int)) => ⟨56, [(0, .d (.sl t_api_Cond) a1), (1, vi a2), (4, .ref 0 0 0), (5, .ref 1 0 0), (6, vi x3), (7, .ref 3 0 0), (8, .osl 4 0), (11, .d (.sl t_api_Cond) a1), (12, vi (a1.length : Int)), (13, vi x3)], [.box [vi (0 : Int), .nils], .box [vi a2, .osl 2 0], .row t_farkas_row x4 0, .box [vi x8.1, vi x8.2.1, .d (.sl (.int .i64)) x8.2.2.1, vi x8.2.2.2], .row (.int .i64) x10 0]⟩) (x8.2.2.1.take (min x8.2.2.1.length x9.length) ++ x9.drop (min x8.2.2.1.length x9.length)) ?_
      intro x10 hx10
      replace h := h x10 hx10
      refine awp_spine ?_
      obtain ⟨o6, o7, o8, o9, o10, o11, h⟩ := h
      refine awp_rc tab [0, 1, 4, 5, 7, 8, 11, 12, 13] [] [] [] [-9223372036854775808 ≤ a2 + (1 : Int) ∧ a2 + (1 : Int) ≤ 9223372036854775807, -9223372036854775808 ≤ (a2 + (1 : Int)) + x3 ∧ (a2 + (1 : Int)) + x3 ≤ 9223372036854775807, (0 : Int) ≤ a2 ∧ a2 < (x10.length : Int), Int.toNat a2 < x10.length, (0 : Int) ≤ ((a2 + (1 : Int)) + x3) ∧ ((a2 + (1 : Int)) + x3) < ((x10.set (Int.toNat a2) x8.2.2.2).length : Int), Int.toNat ((a2 + (1 : Int)) + x3) < (x10.set (Int.toNat a2) x8.2.2.2).length] ⟨56, [(0, .d (.sl t_api_Cond) a1), (1, vi a2), (4, .ref 0 0 0), (5, .ref 1 0 0), (7, .ref 3 0 0), (8, .osl 4 0), (11, .d (.sl t_api_Cond) a1), (12, vi (a1.length : Int)), (13, vi x3)], [.box [vi (0 : Int), .nils], .box [vi a2, .osl 2 0], .row t_farkas_row x4 0, .box [vi x8.1, vi x8.2.1, .d (.sl (.int .i64)) x8.2.2.1, vi x8.2.2.2], .row (.int .i64) ((x10.set (Int.toNat a2) x8.2.2.2).set (Int.toNat ((a2 + (1 : Int)) + x3)) (1 : Int)) 0]⟩ (by kernel_rfl) (AllP.of (o6) (AllP.of (o7) (AllP.of (o8) (AllP.of (o9) (AllP.of (o10) (AllP.of (o11) trivial)))))) ?_
      refine then_n (spine_c ?_)
      refine awp_abs (fun (x11 : (List Int)) => ⟨56, [(0, .d (.sl t_api_Cond) a1), (1, vi a2), (4, .ref 0 0 0), (5, .ref 1 0 0), (7, .ref 3 0 0), (8, .osl 4 0), (11, .d (.sl t_api_Cond) a1), (12, vi (a1.length : Int)), (13, vi x3)], [.box [vi (0 : Int), .nils], .box [vi a2, .osl 2 0], .row t_farkas_row x4 0, .box [vi x8.1, vi x8.2.1, .d (.sl (.int .i64)) x8.2.2.1, vi x8.2.2.2], .row (.int .i64) x11 0]⟩) ((x10.set (Int.toNat a2) x8.2.2.2).set (Int.toNat ((a2 + (1 : Int)) + x3)) (1 : Int)) ?_
      intro x11 hx11
      replace h := h x11 hx11
      refine awp_gh hk [.freeze 4, .keep [0, 1, 4, 5, 7, 8, 11, 12, 13]] ⟨56, [(0, .d (.sl t_api_Cond) a1), (1, vi a2), (4, .ref 0 0 0), (5, .ref 1 0 0), (7, .ref 3 0 0), (8, .d (.sl (.int .i64)) x11), (11, .d (.sl t_api_Cond) a1), (12, vi (a1.length : Int)), (13, vi x3)], [.box [vi (0 : Int), .nils], .box [vi a2, .osl 2 0], .row t_farkas_row x4 0, .box [vi x8.1, vi x8.2.1, .d (.sl (.int .i64)) x8.2.2.1, vi x8.2.2.2], .dead]⟩ (by kernel_rfl) ?_
      obtain ⟨o12, h⟩ := h
      refine awp_rc tab [0, 1, 4, 5, 11, 12, 13] [] [] [7] [1 * 2 ≤ 16777216, (x4.length + [(x8.1 == (1 : Int), x11)].length) * 32 ≤ 140737488355328 ∧ x4.length + [(x8.1 == (1 : Int), x11)].length ≤ 9223372036854775807] ⟨56, [(0, .d (.sl t_api_Cond) a1), (1, vi a2), (4, .ref 0 0 0), (5, .ref 1 0 0), (11, .d (.sl t_api_Cond) a1), (12, vi (a1.length : Int)), (13, vi x3)], [.box [vi (0 : Int), .nils], .box [vi a2, .osl 2 1], .row t_farkas_row (x4 ++ [(x8.1 == (1 : Int), x11)]) 1, .box [vi x8.1, vi x8.2.1, .d (.sl (.int .i64)) x8.2.2.1, vi x8.2.2.2], .dead]⟩ (by kernel_rfl) (AllP.of (by decide) (AllP.of (o12) trivial)) ?_
      refine then_n (spine_e (then_n (spine_e (then_n (spine_e (then_n (spine_e (then_n (spine_e (blk_n (then_n (spine_c ?_))))))))))))
      refine awp_abs (fun (x12 : (List farkas_row)) => ⟨56, [(0, .d (.sl t_api_Cond) a1), (1, vi a2), (4, .ref 0 0 0), (5, .ref 1 0 0), (11, .d (.sl t_api_Cond) a1), (12, vi (a1.length : Int)), (13, vi x3)], [.box [vi (0 : Int), .nils], .box [vi a2, .osl 2 1], .row t_farkas_row x12 1, .box [vi x8.1, vi x8.2.1, .d (.sl (.int .i64)) x8.2.2.1, vi x8.2.2.2], .dead]⟩) (x4 ++ [(x8.1 == (1 : Int), x11)]) ?_
      intro x12 hx12
      replace h := h x12 hx12
      obtain ⟨o13, h⟩ := h
      refine awp_rc tab [0, 1, 4, 5, 11, 12, 13] [] [] [] [-9223372036854775808 ≤ x3 + (1 : Int) ∧ x3 + (1 : Int) ≤ 9223372036854775807] ⟨56, [(0, .d (.sl t_api_Cond) a1), (1, vi a2), (4, .ref 0 0 0), (5, .ref 1 0 0), (11, .d (.sl t_api_Cond) a1), (12, vi (a1.length : Int)), (13, vi (x3 + (1 : Int)))], [.box [vi (0 : Int), .nils], .box [vi a2, .osl 2 1], .row t_farkas_row x12 1, .box [vi x8.1, vi x8.2.1, .d (.sl (.int .i64)) x8.2.2.1, vi x8.2.2.2], .dead]⟩ (by kernel_rfl) (AllP.of (o13) trivial) ?_
      refine then_n (spine_e (then_n (spine_e (then_n (spine_e (then_n (?_)))))))
      obtain ⟨m, hm, h⟩ := h
      exact ⟨m, hm, ⟨56, [(0, .d (.sl t_api_Cond) a1), (1, vi a2), (4, .ref 0 0 0), (5, .ref 1 0 0), (11, .d (.sl t_api_Cond) a1), (12, vi (a1.length : Int)), (13, vi (x3 + (1 : Int)))], [.box [vi (0 : Int), .nils], .box [vi a2, .osl 2 0], .row t_farkas_row x12 0]⟩, wk_ghosts hk (l := [.keep [0, 1, 4, 5, 11, 12, 13], .keep [0, 1, 4, 5, 11, 12, 13], .cut 3, .reset 2, .keep [0, 1, 4, 5, 11, 12, 13]]) (by kernel_rfl), x3 + (1 : Int), x12, h, rfl⟩
  · replace h := h.2 (of_decide_eq_false hb)
    refine awp_exit (then_x (then_x (then_x (blk_h (then_n (spine_c ?_))))))
    refine awp_spine ?_
    refine awp_rc tab [4] [] [] [] [] ⟨56, [(4, .ref 0 0 0)], [.box [vi a2, .osl 2 0], .box [vi a2, .osl 2 0], .row t_farkas_row x4 0]⟩ (by kernel_rfl) (trivial) ?_
    refine then_n (spine_c ?_)
    refine awp_ret (then_r (then_r (then_r (then_r (?_)))))
    exact ret_r (m := 0) (r := .agg [vi ((a2, x4).1), .d (.sl t_farkas_row) ((a2, x4).2)]) (objs := []) hk [.keep [4], .freeze 2] ⟨56, [(4, .ref 0 0 0)], [.box [vi a2, .d (.sl t_farkas_row) x4], .box [vi a2, .d (.sl t_farkas_row) x4], .dead]⟩ (by kernel_rfl) (by kernel_rfl) (Nat.le_refl 0) ⟨(a2, x4), rfl, rfl, h⟩
theorem ok_farkas_first (a1 : (List api_Cond)) (a2 : Int) (h : farkas_first.pre a1 a2) : OkC prog 55 [.d (.sl t_api_Cond) a1, vi a2] (.agg [vi ((farkas_first.fn a1 a2).1), .d (.sl t_farkas_row) ((farkas_first.fn a1 a2).2)]) :=
  OkC.of call_farkas_first ((walk_farkas_first a1 a2 _ (farkas_first.spec a1 a2 h)).mono fun r o ⟨x, hr, ho, hx⟩ => ⟨by rw [hr, hx], ho⟩) rfl rfl (fun _ => rfl)

noncomputable abbrev Bfarkas_vector_int_by : Code := bodyOf Try.f99
theorem call_farkas_vector_int_by : CallOk prog 99 := ⟨_, Try.func99, by kernel_rfl, by kernel_rfl⟩
theorem walk_farkas_vector_int_by (a1 : (List Int)) (a2 : Int) (Q : (List Int) → Prop) (h : farkas_vector_int_by.wp a1 a2 Q) : VCalls prog 99 [.d (.sl (.int .i64)) a1, vi a2] [] (fun r o => ∃ x, r = .d (.sl (.int .i64)) x ∧ o = [] ∧ Q x) := by
  refine vcalls_body tab Try.func99 (c := (spine (subC [0] Bfarkas_vector_int_by) [(spine (subC [1, 0] Bfarkas_vector_int_by) [(spine (subC [1, 1, 0] Bfarkas_vector_int_by) [(spine (subC [1, 1, 1, 0, 0] Bfarkas_vector_int_by) [(.block 0 (.loop (spine (subC [1, 1, 1, 0, 1, 0, 0, 0] Bfarkas_vector_int_by) [(spine (.cond (.tmp 16) .skip (.exit 0)) [(spine (.block 1 (spine (subC [1, 1, 1, 0, 1, 0, 0, 1, 1, 0, 0, 0] Bfarkas_vector_int_by) [(subC [1, 1, 1, 0, 1, 0, 0, 1, 1, 0, 0, 1] Bfarkas_vector_int_by)])) [(subC [1, 1, 1, 0, 1, 0, 0, 1, 1, 1] Bfarkas_vector_int_by)])])]))), (spine (subC [1, 1, 1, 1, 0] Bfarkas_vector_int_by) [.ret])])])])])) (by kernel_rfl) (Nat.le_of_ble_eq_true (by kernel_rfl)) fun cx hd hi hk => ?_
  show AWp prog cx _ _ ⟨27, [(0, .d (.sl (.int .i64)) a1), (1, vi a2)], []⟩
  replace hk : cx.E.len = 0 := hk
  unfold farkas_vector_int_by.wp at h
  refine awp_spine ?_
  refine awp_rc tab [0, 1] [] [] [] [] ⟨27, [(0, .d (.sl (.int .i64)) a1), (1, vi a2)], []⟩ (by kernel_rfl) (trivial) ?_
  refine then_n (spine_c ?_)
  refine awp_spine ?_
  obtain ⟨o1, h⟩ := h
  refine awp_rc tab [0, 1, 5] [] [] [] [(0 : Int) ≤ (a1.length : Int) ∧ (a1.length : Int) ≤ (a1.length : Int) ∧ (a1.length : Int) * 8 ≤ 140737488355328 ∧ (a1.length : Int) ≤ 9223372036854775807] ⟨27, [(0, .d (.sl (.int .i64)) a1), (1, vi a2), (5, .osl 0 0)], [.row (.int .i64) (List.replicate (Int.toNat (a1.length : Int)) (0 : Int)) 0]⟩ (by kernel_rfl) (AllP.of (o1) trivial) ?_
  refine then_n (spine_c ?_)
  refine awp_abs (fun (x1 : (List Int)) => ⟨27, [(0, .d (.sl (.int .i64)) a1), (1, vi a2), (5, .osl 0 0)], [.row (.int .i64) x1 0]⟩) (List.replicate (Int.toNat (a1.length : Int)) (0 : Int)) ?_
  intro x1 hx1
  replace h := h x1 hx1
  refine awp_len 0 [] (T := (.int .i64)) (l := a1) (by kernel_rfl) fun hl => ?_
  replace h := h hl
  refine awp_spine ?_
  refine awp_rc tab [1, 5] [] [] [] [] ⟨27, [(1, vi a2), (5, .osl 0 0)], [.row (.int .i64) (a1.take (min a1.length x1.length) ++ x1.drop (min a1.length x1.length)) 0]⟩ (by kernel_rfl) (trivial) ?_
  refine then_n (spine_c ?_)
  refine awp_abs (fun (x2 : (List Int)) => ⟨27, [(1, vi a2), (5, .osl 0 0)], [.row (.int .i64) x2 0]⟩) (a1.take (min a1.length x1.length) ++ x1.drop (min a1.length x1.length)) ?_
  intro x2 hx2
  replace h := h x2 hx2
  refine awp_spine ?_
  refine awp_rc tab [1, 5, 14, 15] [] [] [] [] ⟨27, [(1, vi a2), (5, .osl 0 0), (14, vi (x2.length : Int)), (15, vi (0 : Int))], [.row (.int .i64) x2 0]⟩ (by kernel_rfl) (trivial) ?_
  refine then_n (spine_c ?_)
  refine awp_block ?_
  obtain ⟨I9, ⟨n9a, hz9⟩, hI9⟩ := h
  refine awp_loopN (fun n s => ∃ (x5 : Int) (x6 : (List Int)), I9 n x5 x6 ∧ s = ⟨27, [(1, vi a2), (5, .osl 0 0), (14, vi (x2.length : Int)), (15, vi x5)], [.row (.int .i64) x6 0]⟩) (n := n9a) (s0 := ⟨27, [(1, vi a2), (5, .osl 0 0), (14, vi (x2.length : Int)), (15, vi (0 : Int))], [.row (.int .i64) x2 0]⟩) (wk_ghosts hk (l := [.keep [1, 5, 14, 15], .keep [1, 5, 14, 15], .keep [1, 5, 14, 15], .keep [1, 5, 14, 15]]) (by kernel_rfl)) ⟨0, x2, hz9, rfl⟩ ?_
  rintro n9 s ⟨x5, x6, hx9, rfl⟩
  have h := hI9 n9 x5 x6 hx9
  refine awp_spine ?_
  refine awp_rc tab [1, 5, 14, 15, 16] [] [] [] [] ⟨27, [(1, vi a2), (5, .osl 0 0), (14, vi (x2.length : Int)), (15, vi x5), (16, vb (decide (x5 < (x2.length : Int))))], [.row (.int .i64) x6 0]⟩ (by kernel_rfl) (trivial) ?_
  refine then_n (spine_c ?_)
  refine awp_spine ?_
  refine awp_cond (b := decide (x5 < (x2.length : Int))) (by kernel_rfl) (fun hb => ?_) (fun hb => ?_)
  · replace h := h.1 (of_decide_eq_true hb)
    refine awp_skip (then_n (spine_c ?_))
    refine awp_spine ?_
    refine awp_block ?_
    refine awp_spine ?_
    refine awp_rc tab [1, 5, 6, 14, 15] [] [] [] [] ⟨27, [(1, vi a2), (5, .osl 0 0), (6, vi x5), (14, vi (x2.length : Int)), (15, vi x5)], [.row (.int .i64) x6 0]⟩ (by kernel_rfl) (trivial) ?_
    refine then_n (spine_c ?_)
    obtain ⟨o2, o3, o4, o5, o6, h⟩ := h
    refine awp_rc tab [1, 5, 14, 15] [] [] [] [(0 : Int) ≤ x5 ∧ x5 < (x6.length : Int), Int.toNat x5 < x6.length, a2 ≠ 0 ∧ -9223372036854775808 ≤ Int.tdiv (x6.getD (Int.toNat x5) (0 : Int)) a2 ∧ Int.tdiv (x6.getD (Int.toNat x5) (0 : Int)) a2 ≤ 9223372036854775807, (0 : Int) ≤ x5 ∧ x5 < (x6.length : Int), Int.toNat x5 < x6.length] ⟨27, [(1, vi a2), (5, .osl 0 0), (14, vi (x2.length : Int)), (15, vi x5)], [.row (.int .i64) (x6.set (Int.toNat x5) (Int.tdiv (x6.getD (Int.toNat x5) (0 : Int)) a2)) 0]⟩ (by kernel_rfl) (AllP.of (o2) (AllP.of (o3) (AllP.of (o4) (AllP.of (o5) (AllP.of (o6) trivial))))) ?_
    refine then_n (spine_e (blk_n (then_n (spine_c ?_))))
    refine awp_abs (fun (x10 : (List Int)) => ⟨27, [(1, vi a2), (5, .osl 0 0), (14, vi (x2.length : Int)), (15, vi x5)], [.row (.int .i64) x10 0]⟩) (x6.set (Int.toNat x5) (Int.tdiv (x6.getD (Int.toNat x5) (0 : Int)) a2)) ?_
    intro x10 hx10
    replace h := h x10 hx10
    obtain ⟨o7, h⟩ := h
    refine awp_rc tab [1, 5, 14, 15] [] [] [] [-9223372036854775808 ≤ x5 + (1 : Int) ∧ x5 + (1 : Int) ≤ 9223372036854775807] ⟨27, [(1, vi a2), (5, .osl 0 0), (14, vi (x2.length : Int)), (15, vi (x5 + (1 : Int)))], [.row (.int .i64) x10 0]⟩ (by kernel_rfl) (AllP.of (o7) trivial) ?_
    refine then_n (spine_e (then_n (spine_e (then_n (spine_e (then_n (?_)))))))
    obtain ⟨m, hm, h⟩ := h
    exact ⟨m, hm, ⟨27, [(1, vi a2), (5, .osl 0 0), (14, vi (x2.length : Int)), (15, vi (x5 + (1 : Int)))], [.row (.int .i64) x10 0]⟩, wk_ghosts hk (l := [.keep [1, 5, 14, 15], .keep [1, 5, 14, 15], .keep [1, 5, 14, 15]]) (by kernel_rfl), x5 + (1 : Int), x10, h, rfl⟩
  · replace h := h.2 (of_decide_eq_false hb)
    refine awp_exit (then_x (then_x (then_x (blk_h (then_n (spine_c ?_))))))
    refine awp_spine ?_
    refine awp_rc tab [4] [] [] [] [] ⟨27, [(4, .osl 0 0)], [.row (.int .i64) x6 0]⟩ (by kernel_rfl) (trivial) ?_
    refine then_n (spine_c ?_)
    refine awp_ret (then_r (then_r (then_r (then_r (then_r (?_))))))
    exact ret_r (m := 0) (r := .d (.sl (.int .i64)) x6) (objs := []) hk [.keep [4], .freeze 0] ⟨27, [(4, .d (.sl (.int .i64)) x6)], [.dead]⟩ (by kernel_rfl) (by kernel_rfl) (Nat.le_refl 0) ⟨x6, rfl, rfl, h⟩
theorem ok_farkas_vector_int_by (a1 : (List Int)) (a2 : Int) (h : farkas_vector_int_by.pre a1 a2) : OkC prog 99 [.d (.sl (.int .i64)) a1, vi a2] (.d (.sl (.int .i64)) (farkas_vector_int_by.fn a1 a2)) :=
  OkC.of call_farkas_vector_int_by ((walk_farkas_vector_int_by a1 a2 _ (farkas_vector_int_by.spec a1 a2 h)).mono fun r o ⟨x, hr, ho, hx⟩ => ⟨by rw [hr, hx], ho⟩) rfl rfl (fun _ => rfl)

noncomputable abbrev Bnum_common : Code := bodyOf Try.f86
theorem call_num_common : CallOk prog 86 := ⟨_, Try.func86, by kernel_rfl, by kernel_rfl⟩
theorem walk_num_common (a1 : Int) (a2 : Int) (Q : Int → Prop) (h : num_common.wp a1 a2 Q) : VCalls prog 86 [.d (.int .u64) a1, .d (.int .u64) a2] [] (fun r o => ∃ x, r = .d (.int .u64) x ∧ o = [] ∧ Q x) := by
  refine vcalls_body tab Try.func86 (c := (spine (subC [0] Bnum_common) [(spine (.block 0 (.loop (spine (subC [1, 0, 0, 0, 0, 0] Bnum_common) [(.cond (.tmp 6) .skip (.exit 0)), (.block 1 (subC [1, 0, 0, 0, 1, 0] Bnum_common))]))) [(spine (subC [1, 1, 0] Bnum_common) [.ret])])])) (by kernel_rfl) (Nat.le_of_ble_eq_true (by kernel_rfl)) fun cx hd hi hk => ?_
  show AWp prog cx _ _ ⟨12, [(0, .d (.int .u64) a1), (1, .d (.int .u64) a2)], []⟩
  replace hk : cx.E.len = 0 := hk
  unfold num_common.wp at h
  refine awp_spine ?_
  refine awp_rc tab [0, 1] [] [] [] [] ⟨12, [(0, .d (.int .u64) a1), (1, .d (.int .u64) a2)], []⟩ (by kernel_rfl) (trivial) ?_
  refine then_n (spine_c ?_)
  refine awp_spine ?_
  refine awp_block ?_
  obtain ⟨I7, ⟨n7a, hz7⟩, hI7⟩ := h
  refine awp_loopN (fun n s => ∃ (x3 : Int) (x4 : Int), I7 n x3 x4 ∧ s = ⟨12, [(0, .d (.int .u64) x3), (1, .d (.int .u64) x4)], []⟩) (n := n7a) (s0 := ⟨12, [(0, .d (.int .u64) a1), (1, .d (.int .u64) a2)], []⟩) (wk_ghosts hk (l := [.keep [0, 1], .keep [0, 1], .keep [0, 1], .keep [0, 1]]) (by kernel_rfl)) ⟨a1, a2, hz7, rfl⟩ ?_
  rintro n7 s ⟨x3, x4, hx7, rfl⟩
  have h := hI7 n7 x3 x4 hx7
  refine awp_spine ?_
  refine awp_rc tab [0, 1, 6] [1] [] [] [] ⟨12, [(0, .d (.int .u64) x3), (1, .d (.int .u64) x4), (6, vb (decide (x4 > (0 : Int))))], []⟩ (by kernel_rfl) (trivial) ?_
  refine then_n (spine_c ?_)
  refine awp_cond (b := decide (x4 > (0 : Int))) (by kernel_rfl) (fun hb => ?_) (fun hb => ?_)
  · replace h := h.1 (of_decide_eq_true hb)
    refine awp_skip (then_n (spine_c ?_))
    refine awp_block ?_
    obtain ⟨o1, h⟩ := h
    refine awp_dr tab mixed [0, 1] [3] [] [] ⟨[[], [], [], [1, 2], [0, 1], [0, 1, 2, 3, 4]], [.d (.int .u64) x4, .d (.int .u64) x3, .d (.int .u64) x4, .d (.int .u64) (Int.tmod x3 x4), .d (.int .u64) x4, .d (.int .u64) (Int.tmod x3 x4)], [none, none, none, some (x4 ≠ 0), none, none], [], [([], [])]⟩ ⟨12, [(0, .d (.int .u64) x4), (1, .d (.int .u64) (Int.tmod x3 x4))], []⟩ (by kernel_rfl) (AllO.n (AllO.n (AllO.n (AllO.s (o1) (AllO.n (AllO.n (AllO.e))))))) ?_
    refine blk_n (then_n (spine_e (then_n (?_))))
    obtain ⟨m, hm, h⟩ := h
    exact ⟨m, hm, ⟨12, [(0, .d (.int .u64) x4), (1, .d (.int .u64) (Int.tmod x3 x4))], []⟩, wk_ghosts hk (l := [.keep [0, 1], .keep [0, 1], .keep [0, 1]]) (by kernel_rfl), x4, Int.tmod x3 x4, h, rfl⟩
  · replace h := h.2 (of_decide_eq_false hb)
    refine awp_exit (then_x (then_x (blk_h (then_n (spine_c ?_)))))
    refine awp_spine ?_
    refine awp_rc tab [4] [] [] [] [] ⟨12, [(4, .d (.int .u64) x3)], []⟩ (by kernel_rfl) (trivial) ?_
    refine then_n (spine_c ?_)
    refine awp_ret (then_r (then_r (then_r (?_))))
    exact ret_r (m := 0) (r := .d (.int .u64) x3) (objs := []) hk [.keep [4]] ⟨12, [(4, .d (.int .u64) x3)], []⟩ (by kernel_rfl) (by kernel_rfl) (Nat.le_refl 0) ⟨x3, rfl, rfl, h⟩
theorem ok_num_common (a1 : Int) (a2 : Int) (h : num_common.pre a1 a2) : OkC prog 86 [.d (.int .u64) a1, .d (.int .u64) a2] (.d (.int .u64) (num_common.fn a1 a2)) :=
  OkC.of call_num_common ((walk_num_common a1 a2 _ (num_common.spec a1 a2 h)).mono fun r o ⟨x, hr, ho, hx⟩ => ⟨by rw [hr, hx], ho⟩) rfl rfl (fun _ => rfl)

noncomputable abbrev Bnum_size : Code := bodyOf Try.f87
theorem call_num_size : CallOk prog 87 := ⟨_, Try.func87, by kernel_rfl, by kernel_rfl⟩
theorem walk_num_size (a1 : Int) (Q : Int → Prop) (h : num_size.wp a1 Q) : VCalls prog 87 [vi a1] [] (fun r o => ∃ x, r = .d (.int .u64) x ∧ o = [] ∧ Q x) := by
  refine vcalls_body tab Try.func87 (c := (spine (subC [0] Bnum_size) [(spine (subC [1, 0, 0] Bnum_size) [(.cond (.tmp 4) (spine (subC [1, 0, 1, 0, 0] Bnum_size) [.ret]) .skip), (spine (subC [1, 1, 0] Bnum_size) [.ret])])])) (by kernel_rfl) (Nat.le_of_ble_eq_true (by kernel_rfl)) fun cx hd hi hk => ?_
  show AWp prog cx _ _ ⟨10, [(0, vi a1)], []⟩
  replace hk : cx.E.len = 0 := hk
  unfold num_size.wp at h
  refine awp_spine ?_
  refine awp_rc tab [0] [] [] [] [] ⟨10, [(0, vi a1)], []⟩ (by kernel_rfl) (trivial) ?_
  refine then_n (spine_c ?_)
  refine awp_spine ?_
  refine awp_rc tab [0, 4] [] [] [] [] ⟨10, [(0, vi a1), (4, vb (decide (a1 < (0 : Int))))], []⟩ (by kernel_rfl) (trivial) ?_
  refine then_n (spine_c ?_)
  refine awp_cond (b := decide (a1 < (0 : Int))) (by kernel_rfl) (fun hb => ?_) (fun hb => ?_)
  · replace h := h.1 (of_decide_eq_true hb)
    refine awp_spine ?_
    refine awp_rc tab [2] [1, 2] [] [] [] ⟨10, [(2, .d (.int .u64) (IntKind.wrap .u64 (-(IntKind.wrap .u64 a1))))], []⟩ (by kernel_rfl) (trivial) ?_
    refine then_n (spine_c ?_)
    refine awp_abs (fun (x1 : Int) => ⟨10, [(2, .d (.int .u64) x1)], []⟩) (IntKind.wrap .u64 (-(IntKind.wrap .u64 a1))) ?_
    intro x1 hx1
    replace h := h x1 hx1
    refine awp_ret (then_r (then_r (then_r (?_))))
    exact ret_r (m := 0) (r := .d (.int .u64) x1) (objs := []) hk [.keep [2]] ⟨10, [(2, .d (.int .u64) x1)], []⟩ (by kernel_rfl) (by kernel_rfl) (Nat.le_refl 0) ⟨x1, rfl, rfl, h⟩
  · replace h := h.2 (of_decide_eq_false hb)
    refine awp_skip (then_n (spine_c ?_))
    refine awp_spine ?_
    refine awp_rc tab [2] [1] [] [] [] ⟨10, [(2, .d (.int .u64) (IntKind.wrap .u64 a1))], []⟩ (by kernel_rfl) (trivial) ?_
    refine then_n (spine_c ?_)
    refine awp_ret (then_r (then_r (then_r (?_))))
    exact ret_r (m := 0) (r := .d (.int .u64) (IntKind.wrap .u64 a1)) (objs := []) hk [.keep [2]] ⟨10, [(2, .d (.int .u64) (IntKind.wrap .u64 a1))], []⟩ (by kernel_rfl) (by kernel_rfl) (Nat.le_refl 0) ⟨IntKind.wrap .u64 a1, rfl, rfl, h⟩
theorem ok_num_size (a1 : Int) (h : num_size.pre a1) : OkC prog 87 [vi a1] (.d (.int .u64) (num_size.fn a1)) :=
  OkC.of call_num_size ((walk_num_size a1 _ (num_size.spec a1 h)).mono fun r o ⟨x, hr, ho, hx⟩ => ⟨by rw [hr, hx], ho⟩) rfl rfl (fun _ => rfl)

noncomputable abbrev Bnum_Gcd_1 : Code := bodyOf Try.f85
theorem call_num_Gcd_1 : CallOk prog 85 := ⟨_, Try.func85, by kernel_rfl, by kernel_rfl⟩
theorem walk_num_Gcd_1 (a1 : Int) (a2 : Int) (Q : Int → Prop) (h : num_Gcd_1.wp a1 a2 Q) : VCalls prog 85 [.d (.int .u64) a1, vi a2] [] (fun r o => ∃ x, r = .d (.int .u64) x ∧ o = [] ∧ Q x) := by
  refine vcalls_body tab Try.func85 (c := (spine (subC [0] Bnum_Gcd_1) [(spine (subC [1, 0] Bnum_Gcd_1) [.ret])])) (by kernel_rfl) (Nat.le_of_ble_eq_true (by kernel_rfl)) fun cx hd hi hk => ?_
  show AWp prog cx _ _ ⟨9, [(0, .d (.int .u64) a1), (1, vi a2)], []⟩
  replace hk : cx.E.len = 0 := hk
  unfold num_Gcd_1.wp at h
  refine awp_spine ?_
  refine awp_rc tab [0, 1] [] [] [] [] ⟨9, [(0, .d (.int .u64) a1), (1, vi a2)], []⟩ (by kernel_rfl) (trivial) ?_
  refine then_n (spine_c ?_)
  refine awp_spine ?_
  obtain ⟨o1, o2, h⟩ := h
  refine awp_rc tab [4] [] [(2, .dat (.d (.int .u64) (num_size.fn a2))), (3, .dat (.d (.int .u64) (num_common.fn a1 (num_size.fn a2))))] [] [OkC prog 87 [vi a2] (.d (.int .u64) (num_size.fn a2)), OkC prog 86 [.d (.int .u64) a1, .d (.int .u64) (num_size.fn a2)] (.d (.int .u64) (num_common.fn a1 (num_size.fn a2)))] ⟨9, [(4, .d (.int .u64) (num_common.fn a1 (num_size.fn a2)))], []⟩ (by kernel_rfl) (AllP.of (ok_num_size a2 (o1)) (AllP.of (ok_num_common a1 (num_size.fn a2) (o2)) trivial)) ?_
  refine then_n (spine_c ?_)
  refine awp_abs (fun (x1 : Int) => ⟨9, [(4, .d (.int .u64) (num_common.fn a1 x1))], []⟩) (num_size.fn a2) ?_
  intro x1 hx1
  replace h := h x1 hx1
  refine awp_abs (fun (x2 : Int) => ⟨9, [(4, .d (.int .u64) x2)], []⟩) (num_common.fn a1 x1) ?_
  intro x2 hx2
  replace h := h x2 hx2
  refine awp_ret (then_r (then_r (?_)))
  exact ret_r (m := 0) (r := .d (.int .u64) x2) (objs := []) hk [.keep [4]] ⟨9, [(4, .d (.int .u64) x2)], []⟩ (by kernel_rfl) (by kernel_rfl) (Nat.le_refl 0) ⟨x2, rfl, rfl, h⟩
theorem ok_num_Gcd_1 (a1 : Int) (a2 : Int) (h : num_Gcd_1.pre a1 a2) : OkC prog 85 [.d (.int .u64) a1, vi a2] (.d (.int .u64) (num_Gcd_1.fn a1 a2)) :=
  OkC.of call_num_Gcd_1 ((walk_num_Gcd_1 a1 a2 _ (num_Gcd_1.spec a1 a2 h)).mono fun r o ⟨x, hr, ho, hx⟩ => ⟨by rw [hr, hx], ho⟩) rfl rfl (fun _ => rfl)

noncomputable abbrev Bnum_fold_uint64__num_Gcd_1 : Code := bodyOf Try.f84
theorem call_num_fold_uint64__num_Gcd_1 : CallOk prog 84 := ⟨_, Try.func84, by kernel_rfl, by kernel_rfl⟩
theorem walk_num_fold_uint64__num_Gcd_1 (a1 : (List Int)) (a2 : Int) (Q : Int → Prop) (h : num_fold_uint64__num_Gcd_1.wp a1 a2 Q) : VCalls prog 84 [.d (.sl (.int .i64)) a1, .d (.int .u64) a2, .fn (.func 85) [] []] [] (fun r o => ∃ x, r = .d (.int .u64) x ∧ o = [] ∧ Q x) := by
  refine vcalls_body tab Try.func84 (c := (spine (subC [0] Bnum_fold_uint64__num_Gcd_1) [(spine (subC [1, 0, 0] Bnum_fold_uint64__num_Gcd_1) [(.block 0 (.loop (spine (subC [1, 0, 1, 0, 0, 0] Bnum_fold_uint64__num_Gcd_1) [(spine (.cond (.tmp 12) .skip (.exit 0)) [(spine (.block 1 (spine (subC [1, 0, 1, 0, 0, 1, 1, 0, 0, 0] Bnum_fold_uint64__num_Gcd_1) [(subC [1, 0, 1, 0, 0, 1, 1, 0, 0, 1] Bnum_fold_uint64__num_Gcd_1)])) [(subC [1, 0, 1, 0, 0, 1, 1, 1] Bnum_fold_uint64__num_Gcd_1)])])]))), (spine (subC [1, 1, 0] Bnum_fold_uint64__num_Gcd_1) [.ret])])])) (by kernel_rfl) (Nat.le_of_ble_eq_true (by kernel_rfl)) fun cx hd hi hk => ?_
  show AWp prog cx _ _ ⟨21, [(0, .d (.sl (.int .i64)) a1), (1, .d (.int .u64) a2), (2, .fn (.func 85) [] [])], []⟩
  replace hk : cx.E.len = 0 := hk
  unfold num_fold_uint64__num_Gcd_1.wp at h
  refine awp_spine ?_
  refine awp_rc tab [0, 1, 2] [] [] [] [] ⟨21, [(0, .d (.sl (.int .i64)) a1), (1, .d (.int .u64) a2), (2, .fn (.func 85) [] [])], []⟩ (by kernel_rfl) (trivial) ?_
  refine then_n (spine_c ?_)
  refine awp_spine ?_
  refine awp_rc tab [1, 2, 9, 10, 11] [] [] [] [] ⟨21, [(1, .d (.int .u64) a2), (2, .fn (.func 85) [] []), (9, .d (.sl (.int .i64)) a1), (10, vi (a1.length : Int)), (11, vi (0 : Int))], []⟩ (by kernel_rfl) (trivial) ?_
  refine then_n (spine_c ?_)
  refine awp_len 9 [] (T := (.int .i64)) (l := a1) (by kernel_rfl) fun hl => ?_
  replace h := h hl
  refine awp_block ?_
  obtain ⟨I7, ⟨n7a, hz7⟩, hI7⟩ := h
  refine awp_loopN (fun n s => ∃ (x3 : Int) (x4 : Int), I7 n x3 x4 ∧ s = ⟨21, [(1, .d (.int .u64) x3), (2, .fn (.func 85) [] []), (9, .d (.sl (.int .i64)) a1), (10, vi (a1.length : Int)), (11, vi x4)], []⟩) (n := n7a) (s0 := ⟨21, [(1, .d (.int .u64) a2), (2, .fn (.func 85) [] []), (9, .d (.sl (.int .i64)) a1), (10, vi (a1.length : Int)), (11, vi (0 : Int))], []⟩) (wk_ghosts hk (l := [.keep [1, 2, 9, 10, 11], .keep [1, 2, 9, 10, 11], .keep [1, 2, 9, 10, 11], .keep [1, 2, 9, 10, 11]]) (by kernel_rfl)) ⟨a2, 0, hz7, rfl⟩ ?_
  rintro n7 s ⟨x3, x4, hx7, rfl⟩
  have h := hI7 n7 x3 x4 hx7
  refine awp_spine ?_
  refine awp_rc tab [1, 2, 9, 10, 11, 12] [] [] [] [] ⟨21, [(1, .d (.int .u64) x3), (2, .fn (.func 85) [] []), (9, .d (.sl (.int .i64)) a1), (10, vi (a1.length : Int)), (11, vi x4), (12, vb (decide (x4 < (a1.length : Int))))], []⟩ (by kernel_rfl) (trivial) ?_
  refine then_n (spine_c ?_)
  refine awp_spine ?_
  refine awp_cond (b := decide (x4 < (a1.length : Int))) (by kernel_rfl) (fun hb => ?_) (fun hb => ?_)
  · replace h := h.1 (of_decide_eq_true hb)
    refine awp_skip (then_n (spine_c ?_))
    refine awp_spine ?_
    refine awp_block ?_
    refine awp_spine ?_
    obtain ⟨o1, h⟩ := h
    refine awp_rc tab [1, 2, 8, 9, 10, 11] [] [] [] [(0 : Int) ≤ x4 ∧ x4 < (a1.length : Int)] ⟨21, [(1, .d (.int .u64) x3), (2, .fn (.func 85) [] []), (8, vi (gI a1 x4)), (9, .d (.sl (.int .i64)) a1), (10, vi (a1.length : Int)), (11, vi x4)], []⟩ (by kernel_rfl) (AllP.of (o1) trivial) ?_
    refine then_n (spine_c ?_)
    obtain ⟨o2, h⟩ := h
    refine awp_rc tab [1, 2, 9, 10, 11] [] [(3, .dat (.d (.int .u64) (num_Gcd_1.fn x3 (gI a1 x4))))] [] [OkC prog 85 [.d (.int .u64) x3, vi (gI a1 x4)] (.d (.int .u64) (num_Gcd_1.fn x3 (gI a1 x4)))] ⟨21, [(1, .d (.int .u64) (num_Gcd_1.fn x3 (gI a1 x4))), (2, .fn (.func 85) [] []), (9, .d (.sl (.int .i64)) a1), (10, vi (a1.length : Int)), (11, vi x4)], []⟩ (by kernel_rfl) (AllP.of (ok_num_Gcd_1 x3 (gI a1 x4) (o2)) trivial) ?_
    refine then_n (spine_e (blk_n (then_n (spine_c ?_))))
    refine awp_abs (fun (x8 : Int) => ⟨21, [(1, .d (.int .u64) x8), (2, .fn (.func 85) [] []), (9, .d (.sl (.int .i64)) a1), (10, vi (a1.length : Int)), (11, vi x4)], []⟩) (num_Gcd_1.fn x3 (gI a1 x4)) ?_
    intro x8 hx8
    replace h := h x8 hx8
    obtain ⟨o3, h⟩ := h
    refine awp_rc tab [1, 2, 9, 10, 11] [] [] [] [-9223372036854775808 ≤ x4 + (1 : Int) ∧ x4 + (1 : Int) ≤ 9223372036854775807] ⟨21, [(1, .d (.int .u64) x8), (2, .fn (.func 85) [] []), (9, .d (.sl (.int .i64)) a1), (10, vi (a1.length : Int)), (11, vi (x4 + (1 : Int)))], []⟩ (by kernel_rfl) (AllP.of (o3) trivial) ?_
    refine then_n (spine_e (then_n (spine_e (then_n (spine_e (then_n (?_)))))))
    obtain ⟨m, hm, h⟩ := h
    exact ⟨m, hm, ⟨21, [(1, .d (.int .u64) x8), (2, .fn (.func 85) [] []), (9, .d (.sl (.int .i64)) a1), (10, vi (a1.length : Int)), (11, vi (x4 + (1 : Int)))], []⟩, wk_ghosts hk (l := [.keep [1, 2, 9, 10, 11], .keep [1, 2, 9, 10, 11], .keep [1, 2, 9, 10, 11]]) (by kernel_rfl), x8, x4 + (1 : Int), h, rfl⟩
  · replace h := h.2 (of_decide_eq_false hb)
    refine awp_exit (then_x (then_x (then_x (blk_h (then_n (spine_c ?_))))))
    refine awp_spine ?_
    refine awp_rc tab [6] [] [] [] [] ⟨21, [(6, .d (.int .u64) x3)], []⟩ (by kernel_rfl) (trivial) ?_
    refine then_n (spine_c ?_)
    refine awp_ret (then_r (then_r (then_r (?_))))
    exact ret_r (m := 0) (r := .d (.int .u64) x3) (objs := []) hk [.keep [6]] ⟨21, [(6, .d (.int .u64) x3)], []⟩ (by kernel_rfl) (by kernel_rfl) (Nat.le_refl 0) ⟨x3, rfl, rfl, h⟩
theorem ok_num_fold_uint64__num_Gcd_1 (a1 : (List Int)) (a2 : Int) (h : num_fold_uint64__num_Gcd_1.pre a1 a2) : OkC prog 84 [.d (.sl (.int .i64)) a1, .d (.int .u64) a2, .fn (.func 85) [] []] (.d (.int .u64) (num_fold_uint64__num_Gcd_1.fn a1 a2)) :=
  OkC.of call_num_fold_uint64__num_Gcd_1 ((walk_num_fold_uint64__num_Gcd_1 a1 a2 _ (num_fold_uint64__num_Gcd_1.spec a1 a2 h)).mono fun r o ⟨x, hr, ho, hx⟩ => ⟨by rw [hr, hx], ho⟩) rfl rfl (fun _ => rfl)

end Go.Proofs.Ytlncingakpelbaa
