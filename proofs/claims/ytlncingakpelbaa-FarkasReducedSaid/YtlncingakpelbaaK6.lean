/- Part of a proof that a law of the program holds for every input: printed by a program of this work. No conditions. -/
import Derived.Test.YtlncingakpelbaaK5
namespace Go.Proofs.Ytlncingakpelbaa
open Go
set_option linter.unusedVariables false
set_option maxHeartbeats 4000000

noncomputable abbrev Blaw09_ge : Code := bodyOf Try.f24
theorem call_law09_ge : CallOk prog 24 := ⟨_, Try.func24, by kernel_rfl, by kernel_rfl⟩
theorem walk_law09_ge (a1 : Int) (a2 : (List Int)) (Q : api_Cond → Prop) (h : law09_ge.wp a1 a2 Q) : VCalls prog 24 [vi a1, .d (.sl (.int .i64)) a2] [] (fun r o => ∃ x, r = .agg [vi x.1, vi x.2.1, .d (.sl (.int .i64)) x.2.2.1, vi x.2.2.2] ∧ o = [] ∧ Q x) := by
  refine vcalls_body tab Try.func24 (c := (spine (subC [0] Blaw09_ge) [(spine (subC [1, 0] Blaw09_ge) [.ret])])) (by kernel_rfl) (Nat.le_of_ble_eq_true (by kernel_rfl)) fun cx hd hi hk => ?_
  show AWp prog cx _ _ ⟨9, [(0, vi a1), (1, .d (.sl (.int .i64)) a2)], []⟩
  replace hk : cx.E.len = 0 := hk
  unfold law09_ge.wp at h
  refine awp_spine ?_
  refine awp_rc tab [0, 1, 4] [] [] [] [] ⟨9, [(0, vi a1), (1, .d (.sl (.int .i64)) a2), (4, .ref 0 0 0)], [.box [vi (0 : Int), vi (0 : Int), .nils, vi (0 : Int)]]⟩ (by kernel_rfl) (trivial) ?_
  refine then_n (spine_c ?_)
  refine awp_spine ?_
  refine awp_rc tab [4] [] [] [] [] ⟨9, [(4, .ref 0 0 0)], [.box [vi (0 : Int), vi (0 : Int), .d (.sl (.int .i64)) a2, vi a1]]⟩ (by kernel_rfl) (trivial) ?_
  refine then_n (spine_c ?_)
  refine awp_ret (then_r (then_r (?_)))
  exact ret_r (m := 0) (r := .agg [vi ((0, 0, (a2, a1)).1), vi ((0, 0, (a2, a1)).2.1), .d (.sl (.int .i64)) (((0, 0, (a2, a1)).2.2).1), vi (((0, 0, (a2, a1)).2.2).2)]) (objs := []) hk [.keep [4]] ⟨9, [(4, .ref 0 0 0)], [.box [vi (0 : Int), vi (0 : Int), .d (.sl (.int .i64)) a2, vi a1]]⟩ (by kernel_rfl) (by kernel_rfl) (Nat.le_refl 0) ⟨(0, 0, (a2, a1)), rfl, rfl, h⟩
theorem ok_law09_ge (a1 : Int) (a2 : (List Int)) (h : law09_ge.pre a1 a2) : OkC prog 24 [vi a1, .d (.sl (.int .i64)) a2] (.agg [vi ((law09_ge.fn a1 a2).1), vi ((law09_ge.fn a1 a2).2.1), .d (.sl (.int .i64)) (((law09_ge.fn a1 a2).2.2).1), vi (((law09_ge.fn a1 a2).2.2).2)]) :=
  OkC.of call_law09_ge ((walk_law09_ge a1 a2 _ (law09_ge.spec a1 a2 h)).mono fun r o ⟨x, hr, ho, hx⟩ => ⟨by rw [hr, hx], ho⟩) rfl rfl (fun _ => rfl)

noncomputable abbrev Bref02_Order : Code := bodyOf Try.f40
theorem call_ref02_Order : CallOk prog 40 := ⟨_, Try.func40, by kernel_rfl, by kernel_rfl⟩
theorem walk_ref02_Order (a1 : (List Int)) (a2 : (List Int)) (Q : Int → Prop) (h : ref02_Order.wp a1 a2 Q) : VCalls prog 40 [.d (.sl (.int .i64)) a1, .d (.sl (.int .i64)) a2] [] (fun r o => ∃ x, r = vi x ∧ o = [] ∧ Q x) := by
  refine vcalls_body tab Try.func40 (c := (spine (subC [0] Bref02_Order) [(spine (subC [1, 0, 0] Bref02_Order) [(.block 0 (.loop (spine (subC [1, 0, 1, 0, 0, 0] Bref02_Order) [(spine (.cond (.tmp 9) .skip (.exit 0)) [(spine (.block 1 (spine (subC [1, 0, 1, 0, 0, 1, 1, 0, 0, 0] Bref02_Order) [(.block 2 (spine (subC [1, 0, 1, 0, 0, 1, 1, 0, 0, 1, 0, 0] Bref02_Order) [(.cond (.tmp 11) (spine (subC [1, 0, 1, 0, 0, 1, 1, 0, 0, 1, 0, 1, 0, 0] Bref02_Order) [.ret]) (spine (subC [1, 0, 1, 0, 0, 1, 1, 0, 0, 1, 0, 1, 1, 0] Bref02_Order) [(.cond (.tmp 21) (spine (subC [1, 0, 1, 0, 0, 1, 1, 0, 0, 1, 0, 1, 1, 1, 0, 0] Bref02_Order) [.ret]) .skip)]))]))])) [(subC [1, 0, 1, 0, 0, 1, 1, 1] Bref02_Order)])])]))), (spine (subC [1, 1, 0] Bref02_Order) [.ret])])])) (by kernel_rfl) (Nat.le_of_ble_eq_true (by kernel_rfl)) fun cx hd hi hk => ?_
  show AWp prog cx _ _ ⟨32, [(0, .d (.sl (.int .i64)) a1), (1, .d (.sl (.int .i64)) a2)], []⟩
  replace hk : cx.E.len = 0 := hk
  unfold ref02_Order.wp at h
  refine awp_spine ?_
  refine awp_rc tab [0, 1] [] [] [] [] ⟨32, [(0, .d (.sl (.int .i64)) a1), (1, .d (.sl (.int .i64)) a2)], []⟩ (by kernel_rfl) (trivial) ?_
  refine then_n (spine_c ?_)
  refine awp_spine ?_
  refine awp_rc tab [0, 1, 7, 8] [] [] [] [] ⟨32, [(0, .d (.sl (.int .i64)) a1), (1, .d (.sl (.int .i64)) a2), (7, vi (a1.length : Int)), (8, vi (0 : Int))], []⟩ (by kernel_rfl) (trivial) ?_
  refine then_n (spine_c ?_)
  refine awp_len 0 [] (T := (.int .i64)) (l := a1) (by kernel_rfl) fun hl => ?_
  replace h := h hl
  refine awp_block ?_
  obtain ⟨I4, ⟨n4a, hz4⟩, hI4⟩ := h
  refine awp_loopN (fun n s => ∃ (x2 : Int), I4 n x2 ∧ s = ⟨32, [(0, .d (.sl (.int .i64)) a1), (1, .d (.sl (.int .i64)) a2), (7, vi (a1.length : Int)), (8, vi x2)], []⟩) (n := n4a) (s0 := ⟨32, [(0, .d (.sl (.int .i64)) a1), (1, .d (.sl (.int .i64)) a2), (7, vi (a1.length : Int)), (8, vi (0 : Int))], []⟩) (wk_ghosts hk (l := [.keep [0, 1, 7, 8], .keep [0, 1, 7, 8], .keep [0, 1, 7, 8], .keep [0, 1, 7, 8]]) (by kernel_rfl)) ⟨0, hz4, rfl⟩ ?_
  rintro n4 s ⟨x2, hx4, rfl⟩
  have h := hI4 n4 x2 hx4
  refine awp_spine ?_
  refine awp_rc tab [0, 1, 7, 8, 9] [] [] [] [] ⟨32, [(0, .d (.sl (.int .i64)) a1), (1, .d (.sl (.int .i64)) a2), (7, vi (a1.length : Int)), (8, vi x2), (9, vb (decide (x2 < (a1.length : Int))))], []⟩ (by kernel_rfl) (trivial) ?_
  refine then_n (spine_c ?_)
  refine awp_spine ?_
  refine awp_cond (b := decide (x2 < (a1.length : Int))) (by kernel_rfl) (fun hb => ?_) (fun hb => ?_)
  · replace h := h.1 (of_decide_eq_true hb)
    refine awp_skip (then_n (spine_c ?_))
    refine awp_spine ?_
    refine awp_block ?_
    refine awp_spine ?_
    refine awp_rc tab [0, 1, 5, 7, 8] [] [] [] [] ⟨32, [(0, .d (.sl (.int .i64)) a1), (1, .d (.sl (.int .i64)) a2), (5, vi x2), (7, vi (a1.length : Int)), (8, vi x2)], []⟩ (by kernel_rfl) (trivial) ?_
    refine then_n (spine_c ?_)
    refine awp_block ?_
    refine awp_spine ?_
    obtain ⟨o1, o2, h⟩ := h
    refine awp_dr tab mixed [0, 1, 5, 7, 8, 11] [] [] [] ⟨[[], [], [0, 1], [0, 1, 2], [], [], [4, 5], [4, 5, 6], [0, 1, 2, 3, 4, 5, 6, 7], [0, 1, 2, 3, 4, 5, 6, 7, 8]], [.d (.sl (.int .i64)) a1, vi x2, .er [vi (gI a1 x2)], vi (gI a1 x2), .d (.sl (.int .i64)) a2, vi x2, .er [vi (gI a2 x2)], vi (gI a2 x2), vb (decide ((gI a1 x2) < (gI a2 x2))), vb (decide ((gI a1 x2) < (gI a2 x2)))], [none, none, some ((0 : Int) ≤ x2 ∧ x2 < (a1.length : Int)), none, none, none, some ((0 : Int) ≤ x2 ∧ x2 < (a2.length : Int)), none, none, none], [], [([], [])]⟩ ⟨32, [(0, .d (.sl (.int .i64)) a1), (1, .d (.sl (.int .i64)) a2), (5, vi x2), (7, vi (a1.length : Int)), (8, vi x2), (11, vb (decide ((gI a1 x2) < (gI a2 x2))))], []⟩ (by kernel_rfl) (AllO.n (AllO.n (AllO.s (o1) (AllO.n (AllO.n (AllO.n (AllO.s (o2) (AllO.n (AllO.n (AllO.n (AllO.e))))))))))) ?_
    refine then_n (spine_c ?_)
    refine awp_cond (b := decide ((gI a1 x2) < (gI a2 x2))) (by kernel_rfl) (fun hb => ?_) (fun hb => ?_)
    · replace h := h.1 (of_decide_eq_true hb)
      refine awp_spine ?_
      refine awp_rc tab [4] [] [] [] [] ⟨32, [(4, vi (-1))], []⟩ (by kernel_rfl) (trivial) ?_
      refine then_n (spine_c ?_)
      refine awp_ret (then_r (then_r (blk_r (then_r (blk_r (then_r (then_r (then_r (then_r (blk_r (then_r (then_r (?_)))))))))))))
      exact ret_r (m := 0) (r := vi (-1)) (objs := []) hk [.keep [4]] ⟨32, [(4, vi (-1))], []⟩ (by kernel_rfl) (by kernel_rfl) (Nat.le_refl 0) ⟨(-1), rfl, rfl, h⟩
    · replace h := h.2 (of_decide_eq_false hb)
      refine awp_spine ?_
      obtain ⟨o3, o4, h⟩ := h
      refine awp_dr tab mixed [0, 1, 7, 8, 21] [] [] [] ⟨[[], [], [0, 1], [0, 1, 2], [], [], [4, 5], [4, 5, 6], [0, 1, 2, 3, 4, 5, 6, 7], [0, 1, 2, 3, 4, 5, 6, 7, 8]], [.d (.sl (.int .i64)) a1, vi x2, .er [vi (gI a1 x2)], vi (gI a1 x2), .d (.sl (.int .i64)) a2, vi x2, .er [vi (gI a2 x2)], vi (gI a2 x2), vb (decide ((gI a1 x2) > (gI a2 x2))), vb (decide ((gI a1 x2) > (gI a2 x2)))], [none, none, some ((0 : Int) ≤ x2 ∧ x2 < (a1.length : Int)), none, none, none, some ((0 : Int) ≤ x2 ∧ x2 < (a2.length : Int)), none, none, none], [], [([], [])]⟩ ⟨32, [(0, .d (.sl (.int .i64)) a1), (1, .d (.sl (.int .i64)) a2), (7, vi (a1.length : Int)), (8, vi x2), (21, vb (decide ((gI a1 x2) > (gI a2 x2))))], []⟩ (by kernel_rfl) (AllO.n (AllO.n (AllO.s (o3) (AllO.n (AllO.n (AllO.n (AllO.s (o4) (AllO.n (AllO.n (AllO.n (AllO.e))))))))))) ?_
      refine then_n (spine_c ?_)
      refine awp_cond (b := decide ((gI a1 x2) > (gI a2 x2))) (by kernel_rfl) (fun hb => ?_) (fun hb => ?_)
      · replace h := h.1 (of_decide_eq_true hb)
        refine awp_spine ?_
        refine awp_rc tab [4] [] [] [] [] ⟨32, [(4, vi (1 : Int))], []⟩ (by kernel_rfl) (trivial) ?_
        refine then_n (spine_c ?_)
        refine awp_ret (then_r (then_r (then_r (blk_r (then_r (blk_r (then_r (then_r (then_r (then_r (blk_r (then_r (then_r (?_))))))))))))))
        exact ret_r (m := 0) (r := vi (1 : Int)) (objs := []) hk [.keep [4]] ⟨32, [(4, vi (1 : Int))], []⟩ (by kernel_rfl) (by kernel_rfl) (Nat.le_refl 0) ⟨1, rfl, rfl, h⟩
      · replace h := h.2 (of_decide_eq_false hb)
        refine awp_skip (then_n (spine_e (then_n (spine_e (blk_n (then_n (spine_e (blk_n (then_n (spine_c ?_))))))))))
        obtain ⟨o5, h⟩ := h
        refine awp_rc tab [0, 1, 7, 8] [] [] [] [-9223372036854775808 ≤ x2 + (1 : Int) ∧ x2 + (1 : Int) ≤ 9223372036854775807] ⟨32, [(0, .d (.sl (.int .i64)) a1), (1, .d (.sl (.int .i64)) a2), (7, vi (a1.length : Int)), (8, vi (x2 + (1 : Int)))], []⟩ (by kernel_rfl) (AllP.of (o5) trivial) ?_
        refine then_n (spine_e (then_n (spine_e (then_n (spine_e (then_n (?_)))))))
        obtain ⟨m, hm, h⟩ := h
        exact ⟨m, hm, ⟨32, [(0, .d (.sl (.int .i64)) a1), (1, .d (.sl (.int .i64)) a2), (7, vi (a1.length : Int)), (8, vi (x2 + (1 : Int)))], []⟩, wk_ghosts hk (l := [.keep [0, 1, 7, 8], .keep [0, 1, 7, 8], .keep [0, 1, 7, 8]]) (by kernel_rfl), x2 + (1 : Int), h, rfl⟩
  · replace h := h.2 (of_decide_eq_false hb)
    refine awp_exit (then_x (then_x (then_x (blk_h (then_n (spine_c ?_))))))
    refine awp_spine ?_
    refine awp_rc tab [4] [] [] [] [] ⟨32, [(4, vi (0 : Int))], []⟩ (by kernel_rfl) (trivial) ?_
    refine then_n (spine_c ?_)
    refine awp_ret (then_r (then_r (then_r (?_))))
    exact ret_r (m := 0) (r := vi (0 : Int)) (objs := []) hk [.keep [4]] ⟨32, [(4, vi (0 : Int))], []⟩ (by kernel_rfl) (by kernel_rfl) (Nat.le_refl 0) ⟨0, rfl, rfl, h⟩
theorem ok_ref02_Order (a1 : (List Int)) (a2 : (List Int)) (h : ref02_Order.pre a1 a2) : OkC prog 40 [.d (.sl (.int .i64)) a1, .d (.sl (.int .i64)) a2] (vi (ref02_Order.fn a1 a2)) :=
  OkC.of call_ref02_Order ((walk_ref02_Order a1 a2 _ (ref02_Order.spec a1 a2 h)).mono fun r o ⟨x, hr, ho, hx⟩ => ⟨by rw [hr, hx], ho⟩) rfl rfl (fun _ => rfl)

noncomputable abbrev Blaw09_list : Code := bodyOf Try.f15
theorem call_law09_list : CallOk prog 15 := ⟨_, Try.func15, by kernel_rfl, by kernel_rfl⟩
theorem walk_law09_list (a1 : (List Int)) (a2 : (List Int)) (Q : Bool → Prop) (h : law09_list.wp a1 a2 Q) : VCalls prog 15 [.d (.sl (.int .i64)) a1, .d (.sl (.int .i64)) a2] [] (fun r o => ∃ x, r = vb x ∧ o = [] ∧ Q x) := by
  refine vcalls_body tab Try.func15 (c := (spine (subC [0] Blaw09_list) [(spine (subC [1, 0] Blaw09_list) [.ret])])) (by kernel_rfl) (Nat.le_of_ble_eq_true (by kernel_rfl)) fun cx hd hi hk => ?_
  show AWp prog cx _ _ ⟨16, [(0, .d (.sl (.int .i64)) a1), (1, .d (.sl (.int .i64)) a2)], []⟩
  replace hk : cx.E.len = 0 := hk
  unfold law09_list.wp at h
  refine awp_spine ?_
  refine awp_rc tab [0, 1] [] [] [] [] ⟨16, [(0, .d (.sl (.int .i64)) a1), (1, .d (.sl (.int .i64)) a2)], []⟩ (by kernel_rfl) (trivial) ?_
  refine then_n (spine_c ?_)
  refine awp_spine ?_
  obtain ⟨o1, h⟩ := h
  refine awp_rc tab [4] [] [(8, .dat (vi (ref02_Order.fn a1 a2)))] [] [((a1.length : Int) == (a2.length : Int)) = true → ((a1.length : Int) == (a2.length : Int)) = true ∧ (((a1.length : Int) == (a2.length : Int)) = true ∧ (OkC prog 40 [.d (.sl (.int .i64)) a1, .d (.sl (.int .i64)) a2] (vi (ref02_Order.fn a1 a2)))), ((a1.length : Int) == (a2.length : Int)) = true → ((a1.length : Int) == (a2.length : Int)) = true ∧ True, ((a1.length : Int) == (a2.length : Int)) = true → ((a1.length : Int) == (a2.length : Int)) = true] ⟨16, [(4, vb (((a1.length : Int) == (a2.length : Int)) && ((ref02_Order.fn a1 a2) == (0 : Int))))], []⟩ (by kernel_rfl) (AllP.of (fun hg => ⟨hg, hg, ok_ref02_Order a1 a2 ((o1 hg))⟩) (AllP.of (fun hg => ⟨hg, trivial⟩) (AllP.of (fun hc => hc) trivial))) ?_
  refine then_n (spine_c ?_)
  refine awp_abs (fun (x1 : Int) => ⟨16, [(4, vb (((a1.length : Int) == (a2.length : Int)) && (x1 == (0 : Int))))], []⟩) (ref02_Order.fn a1 a2) ?_
  intro x1 hx1
  replace h := h x1 hx1
  refine awp_ret (then_r (then_r (?_)))
  exact ret_r (m := 0) (r := vb (((a1.length : Int) == (a2.length : Int)) && (x1 == (0 : Int)))) (objs := []) hk [.keep [4]] ⟨16, [(4, vb (((a1.length : Int) == (a2.length : Int)) && (x1 == (0 : Int))))], []⟩ (by kernel_rfl) (by kernel_rfl) (Nat.le_refl 0) ⟨((a1.length : Int) == (a2.length : Int)) && (x1 == (0 : Int)), rfl, rfl, h⟩
theorem ok_law09_list (a1 : (List Int)) (a2 : (List Int)) (h : law09_list.pre a1 a2) : OkC prog 15 [.d (.sl (.int .i64)) a1, .d (.sl (.int .i64)) a2] (vb (law09_list.fn a1 a2)) :=
  OkC.of call_law09_list ((walk_law09_list a1 a2 _ (law09_list.spec a1 a2 h)).mono fun r o ⟨x, hr, ho, hx⟩ => ⟨by rw [hr, hx], ho⟩) rfl rfl (fun _ => rfl)

noncomputable abbrev Blaw09_awake : Code := bodyOf Try.f10
theorem call_law09_awake : CallOk prog 10 := ⟨_, Try.func10, by kernel_rfl, by kernel_rfl⟩
theorem walk_law09_awake (Q : Bool → Prop) (h : law09_awake.wp Q) : VCalls prog 10 [] [] (fun r o => ∃ x, r = vb x ∧ o = [] ∧ Q x) := by
  refine vcalls_body tab Try.func10 (c := (spine (subC [0] Blaw09_awake) [(spine (subC [1, 0] Blaw09_awake) [(spine (subC [1, 1, 0] Blaw09_awake) [(spine (subC [1, 1, 1, 0] Blaw09_awake) [(spine (subC [1, 1, 1, 1, 0] Blaw09_awake) [(spine (subC [1, 1, 1, 1, 1, 0] Blaw09_awake) [(spine (subC [1, 1, 1, 1, 1, 1, 0] Blaw09_awake) [.ret])])])])])])])) (by kernel_rfl) (Nat.le_of_ble_eq_true (by kernel_rfl)) fun cx hd hi hk => ?_
  show AWp prog cx _ _ ⟨77, [], []⟩
  replace hk : cx.E.len = 0 := hk
  unfold law09_awake.wp at h
  refine awp_spine ?_
  refine awp_rc tab [] [] [] [] [] ⟨77, [], []⟩ (by kernel_rfl) (trivial) ?_
  refine then_n (spine_c ?_)
  refine awp_spine ?_
  obtain ⟨o1, o2, h⟩ := h
  refine awp_rc tab [1, 2] [] [(1, .dat (.agg [vi ((law09_ge.fn (-3) [1]).1), vi ((law09_ge.fn (-3) [1]).2.1), .d (.sl (.int .i64)) (((law09_ge.fn (-3) [1]).2.2).1), vi (((law09_ge.fn (-3) [1]).2.2).2)])), (3, .dat (.agg [vi ((law09_ge.fn (2 : Int) [(-1)]).1), vi ((law09_ge.fn (2 : Int) [(-1)]).2.1), .d (.sl (.int .i64)) (((law09_ge.fn (2 : Int) [(-1)]).2.2).1), vi (((law09_ge.fn (2 : Int) [(-1)]).2.2).2)])), (5, .dat (.tup [.d (.sl (.int .i64)) ((farkas_Prove.fn [law09_ge.fn (-3) [1], law09_ge.fn (2 : Int) [(-1)]] (1 : Int)).1), vi ((farkas_Prove.fn [law09_ge.fn (-3) [1], law09_ge.fn (2 : Int) [(-1)]] (1 : Int)).2)]))] [0, 2, 4] [1 * 1 ≤ 16777216, OkC prog 24 [vi (-3), .d (.sl (.int .i64)) [1]] (.agg [vi ((law09_ge.fn (-3) [1]).1), vi ((law09_ge.fn (-3) [1]).2.1), .d (.sl (.int .i64)) (((law09_ge.fn (-3) [1]).2.2).1), vi (((law09_ge.fn (-3) [1]).2.2).2)]), 1 * 1 ≤ 16777216, OkC prog 24 [vi (2 : Int), .d (.sl (.int .i64)) [(-1)]] (.agg [vi ((law09_ge.fn (2 : Int) [(-1)]).1), vi ((law09_ge.fn (2 : Int) [(-1)]).2.1), .d (.sl (.int .i64)) (((law09_ge.fn (2 : Int) [(-1)]).2.2).1), vi (((law09_ge.fn (2 : Int) [(-1)]).2.2).2)]), 2 * 4 ≤ 16777216, OkC prog 11 [.d (.sl t_api_Cond) [law09_ge.fn (-3) [1], law09_ge.fn (2 : Int) [(-1)]], vi (1 : Int)] (.tup [.d (.sl (.int .i64)) ((farkas_Prove.fn [law09_ge.fn (-3) [1], law09_ge.fn (2 : Int) [(-1)]] (1 : Int)).1), vi ((farkas_Prove.fn [law09_ge.fn (-3) [1], law09_ge.fn (2 : Int) [(-1)]] (1 : Int)).2)])] ⟨77, [(1, .d (.sl (.int .i64)) ((farkas_Prove.fn [law09_ge.fn (-3) [1], law09_ge.fn (2 : Int) [(-1)]] (1 : Int)).1)), (2, vi ((farkas_Prove.fn [law09_ge.fn (-3) [1], law09_ge.fn (2 : Int) [(-1)]] (1 : Int)).2))], []⟩ (by kernel_rfl) (AllP.of (by decide) (AllP.of (ok_law09_ge (-3) [1] (o1)) (AllP.of (by decide) (AllP.of (ok_law09_ge (2 : Int) [(-1)] (o2)) (AllP.of (by decide) (AllP.of (ok_farkas_Prove [law09_ge.fn (-3) [1], law09_ge.fn (2 : Int) [(-1)]] (1 : Int)) trivial)))))) ?_
  refine then_n (spine_c ?_)
  refine awp_abs (fun (x1 : (List Int) × Int) => ⟨77, [(1, .d (.sl (.int .i64)) x1.1), (2, vi x1.2)], []⟩) (farkas_Prove.fn [law09_ge.fn (-3) [1], law09_ge.fn (2 : Int) [(-1)]] (1 : Int)) ?_
  intro x1 hx1
  replace h := h x1 hx1
  refine awp_abs (fun (x2 : (List Int)) => ⟨77, [(1, .d (.sl (.int .i64)) x2), (2, vi x1.2)], []⟩) (x1.1) ?_
  intro x2 hx2
  replace h := h x2 hx2
  refine awp_abs (fun (x3 : Int) => ⟨77, [(1, .d (.sl (.int .i64)) x2), (2, vi x3)], []⟩) (x1.2) ?_
  intro x3 hx3
  replace h := h x3 hx3
  refine awp_spine ?_
  refine awp_rc tab [1, 2, 3] [] [] [0] [1 * 1 ≤ 16777216, 1 * 4 ≤ 16777216] ⟨77, [(1, .d (.sl (.int .i64)) x2), (2, vi x3), (3, .osl 0 0)], [.row t_api_Cond [(1, 0, ([2], (-1)))] 0]⟩ (by kernel_rfl) (AllP.of (by decide) (AllP.of (by decide) trivial)) ?_
  refine then_n (spine_c ?_)
  refine awp_spine ?_
  refine awp_gh hk [.freeze 0, .keep [1, 2, 3]] ⟨77, [(1, .d (.sl (.int .i64)) x2), (2, vi x3), (3, .d (.sl t_api_Cond) [(1, 0, ([2], (-1)))])], [.dead]⟩ (by kernel_rfl) ?_
  refine awp_rc tab [1, 2, 3, 5] [] [(1, .dat (.tup [.d (.sl (.int .i64)) ((farkas_Prove.fn [(1, 0, ([2], (-1)))] (1 : Int)).1), vi ((farkas_Prove.fn [(1, 0, ([2], (-1)))] (1 : Int)).2)]))] [] [OkC prog 11 [.d (.sl t_api_Cond) [(1, 0, ([2], (-1)))], vi (1 : Int)] (.tup [.d (.sl (.int .i64)) ((farkas_Prove.fn [(1, 0, ([2], (-1)))] (1 : Int)).1), vi ((farkas_Prove.fn [(1, 0, ([2], (-1)))] (1 : Int)).2)])] ⟨77, [(1, .d (.sl (.int .i64)) x2), (2, vi x3), (3, .d (.sl t_api_Cond) [(1, 0, ([2], (-1)))]), (5, vi ((farkas_Prove.fn [(1, 0, ([2], (-1)))] (1 : Int)).2))], [.dead]⟩ (by kernel_rfl) (AllP.of (ok_farkas_Prove [(1, 0, ([2], (-1)))] (1 : Int)) trivial) ?_
  refine then_n (spine_c ?_)
  refine awp_abs (fun (x4 : (List Int) × Int) => ⟨77, [(1, .d (.sl (.int .i64)) x2), (2, vi x3), (3, .d (.sl t_api_Cond) [(1, 0, ([2], (-1)))]), (5, vi x4.2)], [.dead]⟩) (farkas_Prove.fn [(1, 0, ([2], (-1)))] (1 : Int)) ?_
  intro x4 hx4
  replace h := h x4 hx4
  refine awp_abs (fun (x5 : Int) => ⟨77, [(1, .d (.sl (.int .i64)) x2), (2, vi x3), (3, .d (.sl t_api_Cond) [(1, 0, ([2], (-1)))]), (5, vi x5)], [.dead]⟩) (x4.2) ?_
  intro x5 hx5
  replace h := h x5 hx5
  refine awp_spine ?_
  refine awp_rc tab [1, 2, 5, 6, 7, 8] [] [(1, .dat (.tup [.d (.sl (.int .i64)) ((farkas_Inner.fn [(1, 0, ([2], (-1)))] (1 : Int)).1), vi ((farkas_Inner.fn [(1, 0, ([2], (-1)))] (1 : Int)).2.1), vi ((farkas_Inner.fn [(1, 0, ([2], (-1)))] (1 : Int)).2.2)]))] [] [OkC prog 13 [.d (.sl t_api_Cond) [(1, 0, ([2], (-1)))], vi (1 : Int)] (.tup [.d (.sl (.int .i64)) ((farkas_Inner.fn [(1, 0, ([2], (-1)))] (1 : Int)).1), vi ((farkas_Inner.fn [(1, 0, ([2], (-1)))] (1 : Int)).2.1), vi ((farkas_Inner.fn [(1, 0, ([2], (-1)))] (1 : Int)).2.2)])] ⟨77, [(1, .d (.sl (.int .i64)) x2), (2, vi x3), (5, vi x5), (6, .d (.sl (.int .i64)) ((farkas_Inner.fn [(1, 0, ([2], (-1)))] (1 : Int)).1)), (7, vi ((farkas_Inner.fn [(1, 0, ([2], (-1)))] (1 : Int)).2.1)), (8, vi ((farkas_Inner.fn [(1, 0, ([2], (-1)))] (1 : Int)).2.2))], [.dead]⟩ (by kernel_rfl) (AllP.of (ok_farkas_Inner [(1, 0, ([2], (-1)))] (1 : Int)) trivial) ?_
  refine then_n (spine_c ?_)
  refine awp_abs (fun (x6 : (List Int) × Int × Int) => ⟨77, [(1, .d (.sl (.int .i64)) x2), (2, vi x3), (5, vi x5), (6, .d (.sl (.int .i64)) x6.1), (7, vi x6.2.1), (8, vi x6.2.2)], [.dead]⟩) (farkas_Inner.fn [(1, 0, ([2], (-1)))] (1 : Int)) ?_
  intro x6 hx6
  replace h := h x6 hx6
  refine awp_abs (fun (x7 : (List Int)) => ⟨77, [(1, .d (.sl (.int .i64)) x2), (2, vi x3), (5, vi x5), (6, .d (.sl (.int .i64)) x7), (7, vi x6.2.1), (8, vi x6.2.2)], [.dead]⟩) (x6.1) ?_
  intro x7 hx7
  replace h := h x7 hx7
  refine awp_abs (fun (x8 : Int) => ⟨77, [(1, .d (.sl (.int .i64)) x2), (2, vi x3), (5, vi x5), (6, .d (.sl (.int .i64)) x7), (7, vi x8), (8, vi x6.2.2)], [.dead]⟩) (x6.2.1) ?_
  intro x8 hx8
  replace h := h x8 hx8
  refine awp_abs (fun (x9 : Int) => ⟨77, [(1, .d (.sl (.int .i64)) x2), (2, vi x3), (5, vi x5), (6, .d (.sl (.int .i64)) x7), (7, vi x8), (8, vi x9)], [.dead]⟩) (x6.2.2) ?_
  intro x9 hx9
  replace h := h x9 hx9
  refine awp_spine ?_
  obtain ⟨o3, o4, h⟩ := h
  refine awp_rc tab [1, 2, 5, 6, 7, 8, 9, 10] [] [(1, .dat (.agg [vi ((law09_ge.fn (0 : Int) [1, (-1)]).1), vi ((law09_ge.fn (0 : Int) [1, (-1)]).2.1), .d (.sl (.int .i64)) (((law09_ge.fn (0 : Int) [1, (-1)]).2.2).1), vi (((law09_ge.fn (0 : Int) [1, (-1)]).2.2).2)])), (3, .dat (.agg [vi ((law09_ge.fn (-1) [(-1), 1]).1), vi ((law09_ge.fn (-1) [(-1), 1]).2.1), .d (.sl (.int .i64)) (((law09_ge.fn (-1) [(-1), 1]).2.2).1), vi (((law09_ge.fn (-1) [(-1), 1]).2.2).2)])), (5, .dat (.tup [.d (.sl (.int .i64)) ((farkas_Prove.fn [law09_ge.fn (0 : Int) [1, (-1)], law09_ge.fn (-1) [(-1), 1]] (2 : Int)).1), vi ((farkas_Prove.fn [law09_ge.fn (0 : Int) [1, (-1)], law09_ge.fn (-1) [(-1), 1]] (2 : Int)).2)]))] [0, 2, 4] [2 * 1 ≤ 16777216, OkC prog 24 [vi (0 : Int), .d (.sl (.int .i64)) [1, (-1)]] (.agg [vi ((law09_ge.fn (0 : Int) [1, (-1)]).1), vi ((law09_ge.fn (0 : Int) [1, (-1)]).2.1), .d (.sl (.int .i64)) (((law09_ge.fn (0 : Int) [1, (-1)]).2.2).1), vi (((law09_ge.fn (0 : Int) [1, (-1)]).2.2).2)]), 2 * 1 ≤ 16777216, OkC prog 24 [vi (-1), .d (.sl (.int .i64)) [(-1), 1]] (.agg [vi ((law09_ge.fn (-1) [(-1), 1]).1), vi ((law09_ge.fn (-1) [(-1), 1]).2.1), .d (.sl (.int .i64)) (((law09_ge.fn (-1) [(-1), 1]).2.2).1), vi (((law09_ge.fn (-1) [(-1), 1]).2.2).2)]), 2 * 4 ≤ 16777216, OkC prog 11 [.d (.sl t_api_Cond) [law09_ge.fn (0 : Int) [1, (-1)], law09_ge.fn (-1) [(-1), 1]], vi (2 : Int)] (.tup [.d (.sl (.int .i64)) ((farkas_Prove.fn [law09_ge.fn (0 : Int) [1, (-1)], law09_ge.fn (-1) [(-1), 1]] (2 : Int)).1), vi ((farkas_Prove.fn [law09_ge.fn (0 : Int) [1, (-1)], law09_ge.fn (-1) [(-1), 1]] (2 : Int)).2)])] ⟨77, [(1, .d (.sl (.int .i64)) x2), (2, vi x3), (5, vi x5), (6, .d (.sl (.int .i64)) x7), (7, vi x8), (8, vi x9), (9, .d (.sl (.int .i64)) ((farkas_Prove.fn [law09_ge.fn (0 : Int) [1, (-1)], law09_ge.fn (-1) [(-1), 1]] (2 : Int)).1)), (10, vi ((farkas_Prove.fn [law09_ge.fn (0 : Int) [1, (-1)], law09_ge.fn (-1) [(-1), 1]] (2 : Int)).2))], [.dead]⟩ (by kernel_rfl) (AllP.of (by decide) (AllP.of (ok_law09_ge (0 : Int) [1, (-1)] (o3)) (AllP.of (by decide) (AllP.of (ok_law09_ge (-1) [(-1), 1] (o4)) (AllP.of (by decide) (AllP.of (ok_farkas_Prove [law09_ge.fn (0 : Int) [1, (-1)], law09_ge.fn (-1) [(-1), 1]] (2 : Int)) trivial)))))) ?_
  refine then_n (spine_c ?_)
  refine awp_abs (fun (x10 : (List Int) × Int) => ⟨77, [(1, .d (.sl (.int .i64)) x2), (2, vi x3), (5, vi x5), (6, .d (.sl (.int .i64)) x7), (7, vi x8), (8, vi x9), (9, .d (.sl (.int .i64)) x10.1), (10, vi x10.2)], [.dead]⟩) (farkas_Prove.fn [law09_ge.fn (0 : Int) [1, (-1)], law09_ge.fn (-1) [(-1), 1]] (2 : Int)) ?_
  intro x10 hx10
  replace h := h x10 hx10
  refine awp_abs (fun (x11 : (List Int)) => ⟨77, [(1, .d (.sl (.int .i64)) x2), (2, vi x3), (5, vi x5), (6, .d (.sl (.int .i64)) x7), (7, vi x8), (8, vi x9), (9, .d (.sl (.int .i64)) x11), (10, vi x10.2)], [.dead]⟩) (x10.1) ?_
  intro x11 hx11
  replace h := h x11 hx11
  refine awp_abs (fun (x12 : Int) => ⟨77, [(1, .d (.sl (.int .i64)) x2), (2, vi x3), (5, vi x5), (6, .d (.sl (.int .i64)) x7), (7, vi x8), (8, vi x9), (9, .d (.sl (.int .i64)) x11), (10, vi x12)], [.dead]⟩) (x10.2) ?_
  intro x12 hx12
  replace h := h x12 hx12
  refine awp_spine ?_
  obtain ⟨o5, o6, o7, h⟩ := h
  refine awp_rc tab [0] [] [(5, .dat (vb (law09_list.fn x2 [1, 1]))), (18, .dat (vb (law09_list.fn x7 [1]))), (31, .dat (vb (law09_list.fn x11 [1, 1])))] [] [(x3 == (0 : Int)) = true → 2 * 1 ≤ 16777216, (x3 == (0 : Int)) = true → (x3 == (0 : Int)) = true ∧ ((x3 == (0 : Int)) = true ∧ (OkC prog 15 [.d (.sl (.int .i64)) x2, .d (.sl (.int .i64)) [1, 1]] (vb (law09_list.fn x2 [1, 1])))), (x3 == (0 : Int)) = true → (x3 == (0 : Int)) = true, ((x3 == (0 : Int)) && (law09_list.fn x2 [1, 1])) = true → ((x3 == (0 : Int)) && (law09_list.fn x2 [1, 1])) = true ∧ True, ((x3 == (0 : Int)) && (law09_list.fn x2 [1, 1])) = true → ((x3 == (0 : Int)) && (law09_list.fn x2 [1, 1])) = true, (((x3 == (0 : Int)) && (law09_list.fn x2 [1, 1])) && (x5 == (5 : Int))) = true → (((x3 == (0 : Int)) && (law09_list.fn x2 [1, 1])) && (x5 == (5 : Int))) = true ∧ True, (((x3 == (0 : Int)) && (law09_list.fn x2 [1, 1])) && (x5 == (5 : Int))) = true → (((x3 == (0 : Int)) && (law09_list.fn x2 [1, 1])) && (x5 == (5 : Int))) = true, ((((x3 == (0 : Int)) && (law09_list.fn x2 [1, 1])) && (x5 == (5 : Int))) && (x9 == (0 : Int))) = true → 1 * 1 ≤ 16777216, ((((x3 == (0 : Int)) && (law09_list.fn x2 [1, 1])) && (x5 == (5 : Int))) && (x9 == (0 : Int))) = true → ((((x3 == (0 : Int)) && (law09_list.fn x2 [1, 1])) && (x5 == (5 : Int))) && (x9 == (0 : Int))) = true ∧ (((((x3 == (0 : Int)) && (law09_list.fn x2 [1, 1])) && (x5 == (5 : Int))) && (x9 == (0 : Int))) = true ∧ (OkC prog 15 [.d (.sl (.int .i64)) x7, .d (.sl (.int .i64)) [1]] (vb (law09_list.fn x7 [1])))), ((((x3 == (0 : Int)) && (law09_list.fn x2 [1, 1])) && (x5 == (5 : Int))) && (x9 == (0 : Int))) = true → ((((x3 == (0 : Int)) && (law09_list.fn x2 [1, 1])) && (x5 == (5 : Int))) && (x9 == (0 : Int))) = true, (((((x3 == (0 : Int)) && (law09_list.fn x2 [1, 1])) && (x5 == (5 : Int))) && (x9 == (0 : Int))) && (law09_list.fn x7 [1])) = true → (((((x3 == (0 : Int)) && (law09_list.fn x2 [1, 1])) && (x5 == (5 : Int))) && (x9 == (0 : Int))) && (law09_list.fn x7 [1])) = true ∧ True, (((((x3 == (0 : Int)) && (law09_list.fn x2 [1, 1])) && (x5 == (5 : Int))) && (x9 == (0 : Int))) && (law09_list.fn x7 [1])) = true → (((((x3 == (0 : Int)) && (law09_list.fn x2 [1, 1])) && (x5 == (5 : Int))) && (x9 == (0 : Int))) && (law09_list.fn x7 [1])) = true, ((((((x3 == (0 : Int)) && (law09_list.fn x2 [1, 1])) && (x5 == (5 : Int))) && (x9 == (0 : Int))) && (law09_list.fn x7 [1])) && (x8 == (2 : Int))) = true → ((((((x3 == (0 : Int)) && (law09_list.fn x2 [1, 1])) && (x5 == (5 : Int))) && (x9 == (0 : Int))) && (law09_list.fn x7 [1])) && (x8 == (2 : Int))) = true ∧ True, ((((((x3 == (0 : Int)) && (law09_list.fn x2 [1, 1])) && (x5 == (5 : Int))) && (x9 == (0 : Int))) && (law09_list.fn x7 [1])) && (x8 == (2 : Int))) = true → ((((((x3 == (0 : Int)) && (law09_list.fn x2 [1, 1])) && (x5 == (5 : Int))) && (x9 == (0 : Int))) && (law09_list.fn x7 [1])) && (x8 == (2 : Int))) = true, (((((((x3 == (0 : Int)) && (law09_list.fn x2 [1, 1])) && (x5 == (5 : Int))) && (x9 == (0 : Int))) && (law09_list.fn x7 [1])) && (x8 == (2 : Int))) && (x12 == (0 : Int))) = true → 2 * 1 ≤ 16777216, (((((((x3 == (0 : Int)) && (law09_list.fn x2 [1, 1])) && (x5 == (5 : Int))) && (x9 == (0 : Int))) && (law09_list.fn x7 [1])) && (x8 == (2 : Int))) && (x12 == (0 : Int))) = true → (((((((x3 == (0 : Int)) && (law09_list.fn x2 [1, 1])) && (x5 == (5 : Int))) && (x9 == (0 : Int))) && (law09_list.fn x7 [1])) && (x8 == (2 : Int))) && (x12 == (0 : Int))) = true ∧ ((((((((x3 == (0 : Int)) && (law09_list.fn x2 [1, 1])) && (x5 == (5 : Int))) && (x9 == (0 : Int))) && (law09_list.fn x7 [1])) && (x8 == (2 : Int))) && (x12 == (0 : Int))) = true ∧ (OkC prog 15 [.d (.sl (.int .i64)) x11, .d (.sl (.int .i64)) [1, 1]] (vb (law09_list.fn x11 [1, 1])))), (((((((x3 == (0 : Int)) && (law09_list.fn x2 [1, 1])) && (x5 == (5 : Int))) && (x9 == (0 : Int))) && (law09_list.fn x7 [1])) && (x8 == (2 : Int))) && (x12 == (0 : Int))) = true → (((((((x3 == (0 : Int)) && (law09_list.fn x2 [1, 1])) && (x5 == (5 : Int))) && (x9 == (0 : Int))) && (law09_list.fn x7 [1])) && (x8 == (2 : Int))) && (x12 == (0 : Int))) = true] ⟨77, [(0, vb ((((((((x3 == (0 : Int)) && (law09_list.fn x2 [1, 1])) && (x5 == (5 : Int))) && (x9 == (0 : Int))) && (law09_list.fn x7 [1])) && (x8 == (2 : Int))) && (x12 == (0 : Int))) && (law09_list.fn x11 [1, 1])))], [.dead]⟩ (by kernel_rfl) (AllP.of (fun hg => by decide) (AllP.of (fun hg => ⟨hg, hg, ok_law09_list x2 [1, 1] ((o5 hg))⟩) (AllP.of (fun hc => hc) (AllP.of (fun hg => ⟨hg, trivial⟩) (AllP.of (fun hc => hc) (AllP.of (fun hg => ⟨hg, trivial⟩) (AllP.of (fun hc => hc) (AllP.of (fun hg => by decide) (AllP.of (fun hg => ⟨hg, hg, ok_law09_list x7 [1] ((o6 hg))⟩) (AllP.of (fun hc => hc) (AllP.of (fun hg => ⟨hg, trivial⟩) (AllP.of (fun hc => hc) (AllP.of (fun hg => ⟨hg, trivial⟩) (AllP.of (fun hc => hc) (AllP.of (fun hg => by decide) (AllP.of (fun hg => ⟨hg, hg, ok_law09_list x11 [1, 1] ((o7 hg))⟩) (AllP.of (fun hc => hc) trivial))))))))))))))))) ?_
  refine then_n (spine_c ?_)
  refine awp_ret (then_r (then_r (then_r (then_r (then_r (then_r (then_r (?_))))))))
  exact ret_r (m := 0) (r := vb ((((((((x3 == (0 : Int)) && (law09_list.fn x2 [1, 1])) && (x5 == (5 : Int))) && (x9 == (0 : Int))) && (law09_list.fn x7 [1])) && (x8 == (2 : Int))) && (x12 == (0 : Int))) && (law09_list.fn x11 [1, 1]))) (objs := []) hk [.keep [0]] ⟨77, [(0, vb ((((((((x3 == (0 : Int)) && (law09_list.fn x2 [1, 1])) && (x5 == (5 : Int))) && (x9 == (0 : Int))) && (law09_list.fn x7 [1])) && (x8 == (2 : Int))) && (x12 == (0 : Int))) && (law09_list.fn x11 [1, 1])))], [.dead]⟩ (by kernel_rfl) (by kernel_rfl) (Nat.le_refl 0) ⟨(((((((x3 == (0 : Int)) && (law09_list.fn x2 [1, 1])) && (x5 == (5 : Int))) && (x9 == (0 : Int))) && (law09_list.fn x7 [1])) && (x8 == (2 : Int))) && (x12 == (0 : Int))) && (law09_list.fn x11 [1, 1]), rfl, rfl, h⟩
theorem ok_law09_awake (h : law09_awake.pre ) : OkC prog 10 [] (vb law09_awake.fn) :=
  OkC.of call_law09_awake ((walk_law09_awake  _ (law09_awake.spec  h)).mono fun r o ⟨x, hr, ho, hx⟩ => ⟨by rw [hr, hx], ho⟩) rfl rfl (fun _ => rfl)

noncomputable abbrev Bref01_Fits : Code := bodyOf Try.f70
theorem call_ref01_Fits : CallOk prog 70 := ⟨_, Try.func70, by kernel_rfl, by kernel_rfl⟩
theorem walk_ref01_Fits (a1 : Int) (Q : Bool → Prop) (h : ref01_Fits.wp a1 Q) : VCalls prog 70 [vi a1] [] (fun r o => ∃ x, r = vb x ∧ o = [] ∧ Q x) := by
  refine vcalls_body tab Try.func70 (c := (spine (subC [0] Bref01_Fits) [(spine (subC [1, 0] Bref01_Fits) [.ret])])) (by kernel_rfl) (Nat.le_of_ble_eq_true (by kernel_rfl)) fun cx hd hi hk => ?_
  show AWp prog cx _ _ ⟨9, [(0, vi a1)], []⟩
  replace hk : cx.E.len = 0 := hk
  unfold ref01_Fits.wp at h
  refine awp_spine ?_
  refine awp_rc tab [0] [] [] [] [] ⟨9, [(0, vi a1)], []⟩ (by kernel_rfl) (trivial) ?_
  refine then_n (spine_c ?_)
  refine awp_spine ?_
  refine awp_rc tab [2] [] [] [] [(decide (a1 ≥ (-1048576))) = true → (decide (a1 ≥ (-1048576))) = true ∧ True, (decide (a1 ≥ (-1048576))) = true → (decide (a1 ≥ (-1048576))) = true] ⟨9, [(2, vb ((decide (a1 ≥ (-1048576))) && (decide (a1 ≤ (1048576 : Int)))))], []⟩ (by kernel_rfl) (AllP.of (fun hg => ⟨hg, trivial⟩) (AllP.of (fun hc => hc) trivial)) ?_
  refine then_n (spine_c ?_)
  refine awp_ret (then_r (then_r (?_)))
  exact ret_r (m := 0) (r := vb ((decide (a1 ≥ (-1048576))) && (decide (a1 ≤ (1048576 : Int))))) (objs := []) hk [.keep [2]] ⟨9, [(2, vb ((decide (a1 ≥ (-1048576))) && (decide (a1 ≤ (1048576 : Int)))))], []⟩ (by kernel_rfl) (by kernel_rfl) (Nat.le_refl 0) ⟨(decide (a1 ≥ (-1048576))) && (decide (a1 ≤ (1048576 : Int))), rfl, rfl, h⟩
theorem ok_ref01_Fits (a1 : Int) : OkC prog 70 [vi a1] (vb (ref01_Fits.fn a1)) :=
  OkC.of call_ref01_Fits ((walk_ref01_Fits a1 _ (ref01_Fits.spec a1)).mono fun r o ⟨x, hr, ho, hx⟩ => ⟨by rw [hr, hx], ho⟩) rfl rfl (fun _ => rfl)

noncomputable abbrev Bref02_Valid : Code := bodyOf Try.f41
theorem call_ref02_Valid : CallOk prog 41 := ⟨_, Try.func41, by kernel_rfl, by kernel_rfl⟩
theorem walk_ref02_Valid (a1 : api_Lin) (Q : Bool → Prop) (h : ref02_Valid.wp a1 Q) : VCalls prog 41 [.agg [.d (.sl (.int .i64)) a1.1, vi a1.2]] [] (fun r o => ∃ x, r = vb x ∧ o = [] ∧ Q x) := by
  refine vcalls_body tab Try.func41 (c := (spine (subC [0] Bref02_Valid) [(spine (subC [1, 0, 0] Bref02_Valid) [(.block 0 (.loop (spine (subC [1, 0, 1, 0, 0, 0] Bref02_Valid) [(spine (.cond (.tmp 9) .skip (.exit 0)) [(spine (.block 1 (spine (subC [1, 0, 1, 0, 0, 1, 1, 0, 0, 0] Bref02_Valid) [(spine (subC [1, 0, 1, 0, 0, 1, 1, 0, 0, 1, 0] Bref02_Valid) [(.cond (.tmp 14) (spine (subC [1, 0, 1, 0, 0, 1, 1, 0, 0, 1, 1, 0, 0] Bref02_Valid) [.ret]) .skip)])])) [(subC [1, 0, 1, 0, 0, 1, 1, 1] Bref02_Valid)])])]))), (spine (subC [1, 1, 0] Bref02_Valid) [.ret])])])) (by kernel_rfl) (Nat.le_of_ble_eq_true (by kernel_rfl)) fun cx hd hi hk => ?_
  show AWp prog cx _ _ ⟨25, [(0, .agg [.d (.sl (.int .i64)) a1.1, vi a1.2])], []⟩
  replace hk : cx.E.len = 0 := hk
  unfold ref02_Valid.wp at h
  refine awp_spine ?_
  refine awp_rc tab [1] [] [] [0] [] ⟨25, [(1, .er [.d (.sl (.int .i64)) a1.1, vi a1.2])], []⟩ (by kernel_rfl) (trivial) ?_
  refine then_n (spine_c ?_)
  refine awp_spine ?_
  refine awp_rc tab [1, 6, 7, 8] [] [] [] [] ⟨25, [(1, .er [.d (.sl (.int .i64)) a1.1, vi a1.2]), (6, .d (.sl (.int .i64)) a1.1), (7, vi (a1.1.length : Int)), (8, vi (0 : Int))], []⟩ (by kernel_rfl) (trivial) ?_
  refine then_n (spine_c ?_)
  refine awp_len 1 [0] (T := (.int .i64)) (l := a1.1) (by kernel_rfl) fun hl => ?_
  replace h := h hl
  refine awp_block ?_
  obtain ⟨I4, ⟨n4a, hz4⟩, hI4⟩ := h
  refine awp_loopN (fun n s => ∃ (x2 : Int), I4 n x2 ∧ s = ⟨25, [(1, .er [.d (.sl (.int .i64)) a1.1, vi a1.2]), (6, .d (.sl (.int .i64)) a1.1), (7, vi (a1.1.length : Int)), (8, vi x2)], []⟩) (n := n4a) (s0 := ⟨25, [(1, .er [.d (.sl (.int .i64)) a1.1, vi a1.2]), (6, .d (.sl (.int .i64)) a1.1), (7, vi (a1.1.length : Int)), (8, vi (0 : Int))], []⟩) (wk_ghosts hk (l := [.keep [1, 6, 7, 8], .keep [1, 6, 7, 8], .keep [1, 6, 7, 8], .keep [1, 6, 7, 8]]) (by kernel_rfl)) ⟨0, hz4, rfl⟩ ?_
  rintro n4 s ⟨x2, hx4, rfl⟩
  have h := hI4 n4 x2 hx4
  refine awp_spine ?_
  refine awp_rc tab [1, 6, 7, 8, 9] [] [] [] [] ⟨25, [(1, .er [.d (.sl (.int .i64)) a1.1, vi a1.2]), (6, .d (.sl (.int .i64)) a1.1), (7, vi (a1.1.length : Int)), (8, vi x2), (9, vb (decide (x2 < (a1.1.length : Int))))], []⟩ (by kernel_rfl) (trivial) ?_
  refine then_n (spine_c ?_)
  refine awp_spine ?_
  refine awp_cond (b := decide (x2 < (a1.1.length : Int))) (by kernel_rfl) (fun hb => ?_) (fun hb => ?_)
  · replace h := h.1 (of_decide_eq_true hb)
    refine awp_skip (then_n (spine_c ?_))
    refine awp_spine ?_
    refine awp_block ?_
    refine awp_spine ?_
    obtain ⟨o1, h⟩ := h
    refine awp_rc tab [1, 4, 6, 7, 8] [] [] [] [(0 : Int) ≤ x2 ∧ x2 < (a1.1.length : Int)] ⟨25, [(1, .er [.d (.sl (.int .i64)) a1.1, vi a1.2]), (4, vi (gI a1.1 x2)), (6, .d (.sl (.int .i64)) a1.1), (7, vi (a1.1.length : Int)), (8, vi x2)], []⟩ (by kernel_rfl) (AllP.of (o1) trivial) ?_
    refine then_n (spine_c ?_)
    refine awp_spine ?_
    refine awp_rc tab [1, 6, 7, 8, 14] [] [(1, .dat (vb (ref01_Fits.fn (gI a1.1 x2))))] [] [OkC prog 70 [vi (gI a1.1 x2)] (vb (ref01_Fits.fn (gI a1.1 x2)))] ⟨25, [(1, .er [.d (.sl (.int .i64)) a1.1, vi a1.2]), (6, .d (.sl (.int .i64)) a1.1), (7, vi (a1.1.length : Int)), (8, vi x2), (14, vb (!(ref01_Fits.fn (gI a1.1 x2))))], []⟩ (by kernel_rfl) (AllP.of (ok_ref01_Fits (gI a1.1 x2)) trivial) ?_
    refine then_n (spine_c ?_)
    refine awp_cond (b := !(ref01_Fits.fn (gI a1.1 x2))) (by kernel_rfl) (fun hb => ?_) (fun hb => ?_)
    · replace h := h.1 ((nt hb))
      refine awp_spine ?_
      refine awp_rc tab [2] [] [] [] [] ⟨25, [(2, vb false)], []⟩ (by kernel_rfl) (trivial) ?_
      refine then_n (spine_c ?_)
      refine awp_ret (then_r (then_r (then_r (blk_r (then_r (then_r (then_r (then_r (blk_r (then_r (then_r (?_))))))))))))
      exact ret_r (m := 0) (r := vb false) (objs := []) hk [.keep [2]] ⟨25, [(2, vb false)], []⟩ (by kernel_rfl) (by kernel_rfl) (Nat.le_refl 0) ⟨false, rfl, rfl, h⟩
    · replace h := h.2 ((nf hb))
      refine awp_skip (then_n (spine_e (then_n (spine_e (blk_n (then_n (spine_c ?_)))))))
      obtain ⟨o2, h⟩ := h
      refine awp_rc tab [1, 6, 7, 8] [] [] [] [-9223372036854775808 ≤ x2 + (1 : Int) ∧ x2 + (1 : Int) ≤ 9223372036854775807] ⟨25, [(1, .er [.d (.sl (.int .i64)) a1.1, vi a1.2]), (6, .d (.sl (.int .i64)) a1.1), (7, vi (a1.1.length : Int)), (8, vi (x2 + (1 : Int)))], []⟩ (by kernel_rfl) (AllP.of (o2) trivial) ?_
      refine then_n (spine_e (then_n (spine_e (then_n (spine_e (then_n (?_)))))))
      obtain ⟨m, hm, h⟩ := h
      exact ⟨m, hm, ⟨25, [(1, .er [.d (.sl (.int .i64)) a1.1, vi a1.2]), (6, .d (.sl (.int .i64)) a1.1), (7, vi (a1.1.length : Int)), (8, vi (x2 + (1 : Int)))], []⟩, wk_ghosts hk (l := [.keep [1, 6, 7, 8], .keep [1, 6, 7, 8], .keep [1, 6, 7, 8]]) (by kernel_rfl), x2 + (1 : Int), h, rfl⟩
  · replace h := h.2 (of_decide_eq_false hb)
    refine awp_exit (then_x (then_x (then_x (blk_h (then_n (spine_c ?_))))))
    refine awp_spine ?_
    refine awp_rc tab [2] [] [(7, .dat (vb (ref01_Fits.fn a1.2)))] [] [(decide ((a1.1.length : Int) ≤ (12 : Int))) = true → (decide ((a1.1.length : Int) ≤ (12 : Int))) = true ∧ True, (decide ((a1.1.length : Int) ≤ (12 : Int))) = true → (decide ((a1.1.length : Int) ≤ (12 : Int))) = true ∧ (OkC prog 70 [vi a1.2] (vb (ref01_Fits.fn a1.2))), (decide ((a1.1.length : Int) ≤ (12 : Int))) = true → (decide ((a1.1.length : Int) ≤ (12 : Int))) = true] ⟨25, [(2, vb ((decide ((a1.1.length : Int) ≤ (12 : Int))) && (ref01_Fits.fn a1.2)))], []⟩ (by kernel_rfl) (AllP.of (fun hg => ⟨hg, trivial⟩) (AllP.of (fun hg => ⟨hg, ok_ref01_Fits a1.2⟩) (AllP.of (fun hc => hc) trivial))) ?_
    refine then_n (spine_c ?_)
    refine awp_ret (then_r (then_r (then_r (?_))))
    exact ret_r (m := 0) (r := vb ((decide ((a1.1.length : Int) ≤ (12 : Int))) && (ref01_Fits.fn a1.2))) (objs := []) hk [.keep [2]] ⟨25, [(2, vb ((decide ((a1.1.length : Int) ≤ (12 : Int))) && (ref01_Fits.fn a1.2)))], []⟩ (by kernel_rfl) (by kernel_rfl) (Nat.le_refl 0) ⟨(decide ((a1.1.length : Int) ≤ (12 : Int))) && (ref01_Fits.fn a1.2), rfl, rfl, h⟩
theorem ok_ref02_Valid (a1 : api_Lin) : OkC prog 41 [.agg [.d (.sl (.int .i64)) a1.1, vi a1.2]] (vb (ref02_Valid.fn a1)) :=
  OkC.of call_ref02_Valid ((walk_ref02_Valid a1 _ (ref02_Valid.spec a1)).mono fun r o ⟨x, hr, ho, hx⟩ => ⟨by rw [hr, hx], ho⟩) rfl rfl (fun _ => rfl)

noncomputable abbrev Bref03_Valid : Code := bodyOf Try.f16
theorem call_ref03_Valid : CallOk prog 16 := ⟨_, Try.func16, by kernel_rfl, by kernel_rfl⟩
theorem walk_ref03_Valid (a1 : api_Cond) (Q : Bool → Prop) (h : ref03_Valid.wp a1 Q) : VCalls prog 16 [.agg [vi a1.1, vi a1.2.1, .d (.sl (.int .i64)) a1.2.2.1, vi a1.2.2.2]] [] (fun r o => ∃ x, r = vb x ∧ o = [] ∧ Q x) := by
  refine vcalls_body tab Try.func16 (c := (spine (subC [0] Bref03_Valid) [(spine (subC [1, 0, 0] Bref03_Valid) [(.cond (.tmp 6) (spine (subC [1, 0, 1, 0, 0] Bref03_Valid) [.ret]) .skip), (spine (subC [1, 1, 0, 0] Bref03_Valid) [(.cond (.tmp 9) (spine (subC [1, 1, 0, 1, 0, 0] Bref03_Valid) [.ret]) .skip), (spine (subC [1, 1, 1, 0] Bref03_Valid) [.ret])])])])) (by kernel_rfl) (Nat.le_of_ble_eq_true (by kernel_rfl)) fun cx hd hi hk => ?_
  show AWp prog cx _ _ ⟨31, [(0, .agg [vi a1.1, vi a1.2.1, .d (.sl (.int .i64)) a1.2.2.1, vi a1.2.2.2])], []⟩
  replace hk : cx.E.len = 0 := hk
  unfold ref03_Valid.wp at h
  refine awp_spine ?_
  refine awp_rc tab [1] [] [] [0] [] ⟨31, [(1, .er [vi a1.1, vi a1.2.1, .d (.sl (.int .i64)) a1.2.2.1, vi a1.2.2.2])], []⟩ (by kernel_rfl) (trivial) ?_
  refine then_n (spine_c ?_)
  refine awp_spine ?_
  refine awp_rc tab [1, 6] [] [(2, .dat (vb (ref02_Valid.fn a1.2.2)))] [] [OkC prog 41 [.agg [.d (.sl (.int .i64)) a1.2.2.1, vi a1.2.2.2]] (vb (ref02_Valid.fn a1.2.2))] ⟨31, [(1, .er [vi a1.1, vi a1.2.1, .d (.sl (.int .i64)) a1.2.2.1, vi a1.2.2.2]), (6, vb (!(ref02_Valid.fn a1.2.2)))], []⟩ (by kernel_rfl) (AllP.of (ok_ref02_Valid a1.2.2) trivial) ?_
  refine then_n (spine_c ?_)
  refine awp_cond (b := !(ref02_Valid.fn a1.2.2)) (by kernel_rfl) (fun hb => ?_) (fun hb => ?_)
  · replace h := h.1 ((nt hb))
    refine awp_spine ?_
    refine awp_rc tab [2] [] [] [] [] ⟨31, [(2, vb false)], []⟩ (by kernel_rfl) (trivial) ?_
    refine then_n (spine_c ?_)
    refine awp_ret (then_r (then_r (then_r (?_))))
    exact ret_r (m := 0) (r := vb false) (objs := []) hk [.keep [2]] ⟨31, [(2, vb false)], []⟩ (by kernel_rfl) (by kernel_rfl) (Nat.le_refl 0) ⟨false, rfl, rfl, h⟩
  · replace h := h.2 ((nf hb))
    refine awp_skip (then_n (spine_c ?_))
    refine awp_spine ?_
    refine awp_rc tab [1, 9] [] [] [] [] ⟨31, [(1, .er [vi a1.1, vi a1.2.1, .d (.sl (.int .i64)) a1.2.2.1, vi a1.2.2.2]), (9, vb (a1.1 == (2 : Int)))], []⟩ (by kernel_rfl) (trivial) ?_
    refine then_n (spine_c ?_)
    refine awp_cond (b := a1.1 == (2 : Int)) (by kernel_rfl) (fun hb => ?_) (fun hb => ?_)
    · replace h := h.1 (eq_of_beq hb)
      refine awp_spine ?_
      refine awp_rc tab [2] [] [] [] [(decide (a1.2.1 ≥ (1 : Int))) = true → (decide (a1.2.1 ≥ (1 : Int))) = true ∧ True, (decide (a1.2.1 ≥ (1 : Int))) = true → (decide (a1.2.1 ≥ (1 : Int))) = true ∧ True, (decide (a1.2.1 ≥ (1 : Int))) = true → (decide (a1.2.1 ≥ (1 : Int))) = true] ⟨31, [(2, vb ((decide (a1.2.1 ≥ (1 : Int))) && (decide (a1.2.1 ≤ (512 : Int)))))], []⟩ (by kernel_rfl) (AllP.of (fun hg => ⟨hg, trivial⟩) (AllP.of (fun hg => ⟨hg, trivial⟩) (AllP.of (fun hc => hc) trivial))) ?_
      refine then_n (spine_c ?_)
      refine awp_ret (then_r (then_r (then_r (then_r (?_)))))
      exact ret_r (m := 0) (r := vb ((decide (a1.2.1 ≥ (1 : Int))) && (decide (a1.2.1 ≤ (512 : Int))))) (objs := []) hk [.keep [2]] ⟨31, [(2, vb ((decide (a1.2.1 ≥ (1 : Int))) && (decide (a1.2.1 ≤ (512 : Int)))))], []⟩ (by kernel_rfl) (by kernel_rfl) (Nat.le_refl 0) ⟨(decide (a1.2.1 ≥ (1 : Int))) && (decide (a1.2.1 ≤ (512 : Int))), rfl, rfl, h⟩
    · replace h := h.2 (ne_of_beq_false hb)
      refine awp_skip (then_n (spine_c ?_))
      refine awp_spine ?_
      refine awp_rc tab [2] [] [] [] [(!(a1.1 == (0 : Int))) = true → (!(a1.1 == (0 : Int))) = true ∧ True, (!(a1.1 == (0 : Int))) = true → (!(a1.1 == (0 : Int))) = true ∧ True, (a1.1 == (0 : Int)) = false → (!(a1.1 == (0 : Int))) = true, ((a1.1 == (0 : Int)) || (a1.1 == (1 : Int))) = true → ((a1.1 == (0 : Int)) || (a1.1 == (1 : Int))) = true ∧ True, ((a1.1 == (0 : Int)) || (a1.1 == (1 : Int))) = true → ((a1.1 == (0 : Int)) || (a1.1 == (1 : Int))) = true ∧ True, ((a1.1 == (0 : Int)) || (a1.1 == (1 : Int))) = true → ((a1.1 == (0 : Int)) || (a1.1 == (1 : Int))) = true] ⟨31, [(2, vb (((a1.1 == (0 : Int)) || (a1.1 == (1 : Int))) && (a1.2.1 == (0 : Int))))], []⟩ (by kernel_rfl) (AllP.of (fun hg => ⟨hg, trivial⟩) (AllP.of (fun hg => ⟨hg, trivial⟩) (AllP.of (fun hc => not_f hc) (AllP.of (fun hg => ⟨hg, trivial⟩) (AllP.of (fun hg => ⟨hg, trivial⟩) (AllP.of (fun hc => hc) trivial)))))) ?_
      refine then_n (spine_c ?_)
      refine awp_ret (then_r (then_r (then_r (then_r (?_)))))
      exact ret_r (m := 0) (r := vb (((a1.1 == (0 : Int)) || (a1.1 == (1 : Int))) && (a1.2.1 == (0 : Int)))) (objs := []) hk [.keep [2]] ⟨31, [(2, vb (((a1.1 == (0 : Int)) || (a1.1 == (1 : Int))) && (a1.2.1 == (0 : Int))))], []⟩ (by kernel_rfl) (by kernel_rfl) (Nat.le_refl 0) ⟨((a1.1 == (0 : Int)) || (a1.1 == (1 : Int))) && (a1.2.1 == (0 : Int)), rfl, rfl, h⟩
theorem ok_ref03_Valid (a1 : api_Cond) : OkC prog 16 [.agg [vi a1.1, vi a1.2.1, .d (.sl (.int .i64)) a1.2.2.1, vi a1.2.2.2]] (vb (ref03_Valid.fn a1)) :=
  OkC.of call_ref03_Valid ((walk_ref03_Valid a1 _ (ref03_Valid.spec a1)).mono fun r o ⟨x, hr, ho, hx⟩ => ⟨by rw [hr, hx], ho⟩) rfl rfl (fun _ => rfl)

noncomputable abbrev Blaw09_FarkasReduced : Code := bodyOf Try.f4
theorem call_law09_FarkasReduced : CallOk prog 4 := ⟨_, Try.func4, by kernel_rfl, by kernel_rfl⟩
theorem walk_law09_FarkasReduced (a1 : (List api_Cond)) (a2 : Int) (Q : Bool → Prop) (h : law09_FarkasReduced.wp a1 a2 Q) : VCalls prog 4 [.d (.sl t_api_Cond) a1, vi a2] [] (fun r o => ∃ x, r = vb x ∧ o = [] ∧ Q x) := by
  refine vcalls_body tab Try.func4 (c := (spine (subC [0] Blaw09_FarkasReduced) [(spine (subC [1, 0, 0] Blaw09_FarkasReduced) [(.cond (.tmp 18) (spine (subC [1, 0, 1, 0, 0] Blaw09_FarkasReduced) [.ret]) .skip), (spine (subC [1, 1, 0, 0] Blaw09_FarkasReduced) [(spine (subC [1, 1, 0, 1, 0] Blaw09_FarkasReduced) [(.cond (.tmp 28) (spine (subC [1, 1, 0, 1, 1, 0, 0] Blaw09_FarkasReduced) [(spine (subC [1, 1, 0, 1, 1, 0, 1, 0, 0] Blaw09_FarkasReduced) [(.block 0 (.loop (spine (subC [1, 1, 0, 1, 1, 0, 1, 0, 1, 0, 0, 0] Blaw09_FarkasReduced) [(spine (.cond (.tmp 33) .skip (.exit 0)) [(spine (.block 1 (spine (subC [1, 1, 0, 1, 1, 0, 1, 0, 1, 0, 0, 1, 1, 0, 0, 0] Blaw09_FarkasReduced) [(spine (subC [1, 1, 0, 1, 1, 0, 1, 0, 1, 0, 0, 1, 1, 0, 0, 1, 0, 0] Blaw09_FarkasReduced) [(.cond (.tmp 41) (spine (subC [1, 1, 0, 1, 1, 0, 1, 0, 1, 0, 0, 1, 1, 0, 0, 1, 0, 1, 0, 0] Blaw09_FarkasReduced) [.ret]) .skip), (spine (subC [1, 1, 0, 1, 1, 0, 1, 0, 1, 0, 0, 1, 1, 0, 0, 1, 1, 0] Blaw09_FarkasReduced) [(.block 2 (.loop (spine (subC [1, 1, 0, 1, 1, 0, 1, 0, 1, 0, 0, 1, 1, 0, 0, 1, 1, 1, 0, 0, 0, 0] Blaw09_FarkasReduced) [(.cond (.tmp 44) .skip (.exit 2)), (.block 3 (subC [1, 1, 0, 1, 1, 0, 1, 0, 1, 0, 0, 1, 1, 0, 0, 1, 1, 1, 0, 0, 1, 0] Blaw09_FarkasReduced))])))])])])) [(subC [1, 1, 0, 1, 1, 0, 1, 0, 1, 0, 0, 1, 1, 1] Blaw09_FarkasReduced)])])]))), (spine (subC [1, 1, 0, 1, 1, 0, 1, 1, 0] Blaw09_FarkasReduced) [(.cond (.tmp 59) (spine (subC [1, 1, 0, 1, 1, 0, 1, 1, 1, 0, 0] Blaw09_FarkasReduced) [.ret]) .skip)])])]) .skip)]), (spine (subC [1, 1, 1, 0, 0] Blaw09_FarkasReduced) [(spine (subC [1, 1, 1, 0, 1, 0] Blaw09_FarkasReduced) [(.cond (.tmp 67) (spine (subC [1, 1, 1, 0, 1, 1, 0, 0, 0] Blaw09_FarkasReduced) [(.cond (.tmp 72) (spine (subC [1, 1, 1, 0, 1, 1, 0, 0, 1, 0, 0] Blaw09_FarkasReduced) [.ret]) .skip), (spine (subC [1, 1, 1, 0, 1, 1, 0, 1, 0] Blaw09_FarkasReduced) [(.block 4 (.loop (spine (subC [1, 1, 1, 0, 1, 1, 0, 1, 1, 0, 0, 0] Blaw09_FarkasReduced) [(spine (.cond (.tmp 76) .skip (.exit 4)) [(spine (.block 5 (spine (subC [1, 1, 1, 0, 1, 1, 0, 1, 1, 0, 0, 1, 1, 0, 0, 0] Blaw09_FarkasReduced) [(spine (subC [1, 1, 1, 0, 1, 1, 0, 1, 1, 0, 0, 1, 1, 0, 0, 1, 0] Blaw09_FarkasReduced) [(.cond (.tmp 106) (spine (subC [1, 1, 1, 0, 1, 1, 0, 1, 1, 0, 0, 1, 1, 0, 0, 1, 1, 0, 0] Blaw09_FarkasReduced) [.ret]) .skip)])])) [(subC [1, 1, 1, 0, 1, 1, 0, 1, 1, 0, 0, 1, 1, 1] Blaw09_FarkasReduced)])])])))])]) .skip)]), (spine (subC [1, 1, 1, 1, 0] Blaw09_FarkasReduced) [.ret])])])])])) (by kernel_rfl) (Nat.le_of_ble_eq_true (by kernel_rfl)) fun cx hd hi hk => ?_
  show AWp prog cx _ _ ⟨109, [(0, .d (.sl t_api_Cond) a1), (1, vi a2)], []⟩
  replace hk : cx.E.len = 0 := hk
  unfold law09_FarkasReduced.wp at h
  refine awp_spine ?_
  refine awp_rc tab [0, 1] [] [] [] [] ⟨109, [(0, .d (.sl t_api_Cond) a1), (1, vi a2)], []⟩ (by kernel_rfl) (trivial) ?_
  refine then_n (spine_c ?_)
  refine awp_spine ?_
  refine awp_rc tab [0, 1, 18] [] [] [] [] ⟨109, [(0, .d (.sl t_api_Cond) a1), (1, vi a2), (18, vb (decide ((a1.length : Int) > (12 : Int))))], []⟩ (by kernel_rfl) (trivial) ?_
  refine then_n (spine_c ?_)
  refine awp_len 0 [] (T := t_api_Cond) (l := a1) (by kernel_rfl) fun hl => ?_
  replace h := h hl
  refine awp_cond (b := decide ((a1.length : Int) > (12 : Int))) (by kernel_rfl) (fun hb => ?_) (fun hb => ?_)
  · replace h := h.1 (of_decide_eq_true hb)
    refine awp_spine ?_
    obtain ⟨o1, h⟩ := h
    refine awp_rc tab [4] [] [(0, .dat (vb law09_awake.fn))] [] [OkC prog 10 [] (vb law09_awake.fn)] ⟨109, [(4, vb law09_awake.fn)], []⟩ (by kernel_rfl) (AllP.of (ok_law09_awake (o1)) trivial) ?_
    refine then_n (spine_c ?_)
    refine awp_ret (then_r (then_r (then_r (?_))))
    exact ret_r (m := 0) (r := vb law09_awake.fn) (objs := []) hk [.keep [4]] ⟨109, [(4, vb law09_awake.fn)], []⟩ (by kernel_rfl) (by kernel_rfl) (Nat.le_refl 0) ⟨law09_awake.fn, rfl, rfl, h⟩
  · replace h := h.2 (of_decide_eq_false hb)
    refine awp_skip (then_n (spine_c ?_))
    refine awp_spine ?_
    refine awp_rc tab [0, 1, 5, 6, 7] [] [(2, .dat (.tup [.d (.sl (.int .i64)) ((farkas_Inner.fn a1 a2).1), vi ((farkas_Inner.fn a1 a2).2.1), vi ((farkas_Inner.fn a1 a2).2.2)]))] [] [OkC prog 13 [.d (.sl t_api_Cond) a1, vi a2] (.tup [.d (.sl (.int .i64)) ((farkas_Inner.fn a1 a2).1), vi ((farkas_Inner.fn a1 a2).2.1), vi ((farkas_Inner.fn a1 a2).2.2)])] ⟨109, [(0, .d (.sl t_api_Cond) a1), (1, vi a2), (5, .d (.sl (.int .i64)) ((farkas_Inner.fn a1 a2).1)), (6, vi ((farkas_Inner.fn a1 a2).2.1)), (7, vi ((farkas_Inner.fn a1 a2).2.2))], []⟩ (by kernel_rfl) (AllP.of (ok_farkas_Inner a1 a2) trivial) ?_
    refine then_n (spine_c ?_)
    refine awp_abs (fun (x1 : (List Int) × Int × Int) => ⟨109, [(0, .d (.sl t_api_Cond) a1), (1, vi a2), (5, .d (.sl (.int .i64)) x1.1), (6, vi x1.2.1), (7, vi x1.2.2)], []⟩) (farkas_Inner.fn a1 a2) ?_
    intro x1 hx1
    replace h := h x1 hx1
    obtain ⟨R2, hA2, hB2⟩ := h
    refine awp_meet (fun s' => R2 ∧ Wk cx s' ⟨109, [(0, .d (.sl t_api_Cond) a1), (1, vi a2)], []⟩) ?_ ?_
    · have h := hA2
      refine awp_spine ?_
      refine awp_rc tab [0, 1, 5, 6, 28] [] [] [] [] ⟨109, [(0, .d (.sl t_api_Cond) a1), (1, vi a2), (5, .d (.sl (.int .i64)) x1.1), (6, vi x1.2.1), (28, vb (x1.2.2 == (0 : Int)))], []⟩ (by kernel_rfl) (trivial) ?_
      refine then_n (spine_c ?_)
      refine awp_cond (b := x1.2.2 == (0 : Int)) (by kernel_rfl) (fun hb => ?_) (fun hb => ?_)
      · replace h := h.1 (eq_of_beq hb)
        refine awp_spine ?_
        refine awp_rc tab [0, 1, 5, 6, 8] [] [] [] [] ⟨109, [(0, .d (.sl t_api_Cond) a1), (1, vi a2), (5, .d (.sl (.int .i64)) x1.1), (6, vi x1.2.1), (8, vi x1.2.1)], []⟩ (by kernel_rfl) (trivial) ?_
        refine then_n (spine_c ?_)
        refine awp_spine ?_
        refine awp_rc tab [0, 1, 6, 8, 30, 31, 32] [] [] [] [] ⟨109, [(0, .d (.sl t_api_Cond) a1), (1, vi a2), (6, vi x1.2.1), (8, vi x1.2.1), (30, .d (.sl (.int .i64)) x1.1), (31, vi (x1.1.length : Int)), (32, vi (0 : Int))], []⟩ (by kernel_rfl) (trivial) ?_
        refine then_n (spine_c ?_)
        refine awp_len 30 [] (T := (.int .i64)) (l := x1.1) (by kernel_rfl) fun hl => ?_
        replace h := h hl
        refine awp_block ?_
        obtain ⟨I9, ⟨n9a, hz9⟩, hI9⟩ := h
        refine awp_loopN (fun n s => ∃ (x5 : Int) (x6 : Int), I9 n x5 x6 ∧ s = ⟨109, [(0, .d (.sl t_api_Cond) a1), (1, vi a2), (6, vi x1.2.1), (8, vi x5), (30, .d (.sl (.int .i64)) x1.1), (31, vi (x1.1.length : Int)), (32, vi x6)], []⟩) (n := n9a) (s0 := ⟨109, [(0, .d (.sl t_api_Cond) a1), (1, vi a2), (6, vi x1.2.1), (8, vi x1.2.1), (30, .d (.sl (.int .i64)) x1.1), (31, vi (x1.1.length : Int)), (32, vi (0 : Int))], []⟩) (wk_ghosts hk (l := [.keep [0, 1, 6, 8, 30, 31, 32], .keep [0, 1, 6, 8, 30, 31, 32], .keep [0, 1, 6, 8, 30, 31, 32], .keep [0, 1, 6, 8, 30, 31, 32]]) (by kernel_rfl)) ⟨x1.2.1, 0, hz9, rfl⟩ ?_
        rintro n9 s ⟨x5, x6, hx9, rfl⟩
        have h := hI9 n9 x5 x6 hx9
        refine awp_spine ?_
        refine awp_rc tab [0, 1, 6, 8, 30, 31, 32, 33] [] [] [] [] ⟨109, [(0, .d (.sl t_api_Cond) a1), (1, vi a2), (6, vi x1.2.1), (8, vi x5), (30, .d (.sl (.int .i64)) x1.1), (31, vi (x1.1.length : Int)), (32, vi x6), (33, vb (decide (x6 < (x1.1.length : Int))))], []⟩ (by kernel_rfl) (trivial) ?_
        refine then_n (spine_c ?_)
        refine awp_spine ?_
        refine awp_cond (b := decide (x6 < (x1.1.length : Int))) (by kernel_rfl) (fun hb => ?_) (fun hb => ?_)
        · replace h := h.1 (of_decide_eq_true hb)
          refine awp_skip (then_n (spine_c ?_))
          refine awp_spine ?_
          refine awp_block ?_
          refine awp_spine ?_
          obtain ⟨o2, h⟩ := h
          refine awp_rc tab [0, 1, 6, 8, 10, 30, 31, 32] [] [] [] [(0 : Int) ≤ x6 ∧ x6 < (x1.1.length : Int)] ⟨109, [(0, .d (.sl t_api_Cond) a1), (1, vi a2), (6, vi x1.2.1), (8, vi x5), (10, vi (gI x1.1 x6)), (30, .d (.sl (.int .i64)) x1.1), (31, vi (x1.1.length : Int)), (32, vi x6)], []⟩ (by kernel_rfl) (AllP.of (o2) trivial) ?_
          refine then_n (spine_c ?_)
          refine awp_spine ?_
          refine awp_rc tab [0, 1, 6, 8, 10, 30, 31, 32, 41] [] [] [] [(!(decide ((gI x1.1 x6) > (268435456 : Int)))) = true → (!(decide ((gI x1.1 x6) > (268435456 : Int)))) = true ∧ True, (decide ((gI x1.1 x6) > (268435456 : Int))) = false → (!(decide ((gI x1.1 x6) > (268435456 : Int)))) = true] ⟨109, [(0, .d (.sl t_api_Cond) a1), (1, vi a2), (6, vi x1.2.1), (8, vi x5), (10, vi (gI x1.1 x6)), (30, .d (.sl (.int .i64)) x1.1), (31, vi (x1.1.length : Int)), (32, vi x6), (41, vb ((decide ((gI x1.1 x6) > (268435456 : Int))) || (decide ((gI x1.1 x6) < (-268435456)))))], []⟩ (by kernel_rfl) (AllP.of (fun hg => ⟨hg, trivial⟩) (AllP.of (fun hc => not_f hc) trivial)) ?_
          refine then_n (spine_c ?_)
          refine awp_cond (b := (decide ((gI x1.1 x6) > (268435456 : Int))) || (decide ((gI x1.1 x6) < (-268435456)))) (by kernel_rfl) (fun hb => ?_) (fun hb => ?_)
          · replace h := h.1 (hb)
            refine awp_spine ?_
            refine awp_rc tab [4] [] [] [] [] ⟨109, [(4, vb false)], []⟩ (by kernel_rfl) (trivial) ?_
            refine then_n (spine_c ?_)
            refine awp_ret (then_r (then_r (then_r (blk_r (then_r (then_r (then_r (then_r (blk_r (then_r (then_r (then_r (then_r (then_r (then_r (?_))))))))))))))))
            exact ret_r (m := 0) (r := vb false) (objs := []) hk [.keep [4]] ⟨109, [(4, vb false)], []⟩ (by kernel_rfl) (by kernel_rfl) (Nat.le_refl 0) ⟨false, rfl, rfl, h⟩
          · replace h := h.2 (hb)
            refine awp_skip (then_n (spine_c ?_))
            refine awp_spine ?_
            refine awp_rc tab [0, 1, 6, 8, 11, 30, 31, 32] [] [] [] [] ⟨109, [(0, .d (.sl t_api_Cond) a1), (1, vi a2), (6, vi x1.2.1), (8, vi x5), (11, vi (gI x1.1 x6)), (30, .d (.sl (.int .i64)) x1.1), (31, vi (x1.1.length : Int)), (32, vi x6)], []⟩ (by kernel_rfl) (trivial) ?_
            refine then_n (spine_c ?_)
            refine awp_block ?_
            obtain ⟨I16, ⟨n16a, hz16⟩, hI16⟩ := h
            refine awp_loopN (fun n s => ∃ (x12 : Int) (x13 : Int), I16 n x12 x13 ∧ s = ⟨109, [(0, .d (.sl t_api_Cond) a1), (1, vi a2), (6, vi x1.2.1), (8, vi x12), (11, vi x13), (30, .d (.sl (.int .i64)) x1.1), (31, vi (x1.1.length : Int)), (32, vi x6)], []⟩) (n := n16a) (s0 := ⟨109, [(0, .d (.sl t_api_Cond) a1), (1, vi a2), (6, vi x1.2.1), (8, vi x5), (11, vi (gI x1.1 x6)), (30, .d (.sl (.int .i64)) x1.1), (31, vi (x1.1.length : Int)), (32, vi x6)], []⟩) (wk_ghosts hk (l := [.keep [0, 1, 6, 8, 11, 30, 31, 32], .keep [0, 1, 6, 8, 11, 30, 31, 32], .keep [0, 1, 6, 8, 11, 30, 31, 32], .keep [0, 1, 6, 8, 11, 30, 31, 32]]) (by kernel_rfl)) ⟨x5, gI x1.1 x6, hz16, rfl⟩ ?_
            rintro n16 s ⟨x12, x13, hx16, rfl⟩
            have h := hI16 n16 x12 x13 hx16
            refine awp_spine ?_
            refine awp_rc tab [0, 1, 6, 8, 11, 30, 31, 32, 44] [] [] [] [] ⟨109, [(0, .d (.sl t_api_Cond) a1), (1, vi a2), (6, vi x1.2.1), (8, vi x12), (11, vi x13), (30, .d (.sl (.int .i64)) x1.1), (31, vi (x1.1.length : Int)), (32, vi x6), (44, vb (x13 != (0 : Int)))], []⟩ (by kernel_rfl) (trivial) ?_
            refine then_n (spine_c ?_)
            refine awp_cond (b := x13 != (0 : Int)) (by kernel_rfl) (fun hb => ?_) (fun hb => ?_)
            · replace h := h.1 (bne_iff_ne.mp hb)
              refine awp_skip (then_n (spine_c ?_))
              refine awp_block ?_
              obtain ⟨o3, h⟩ := h
              refine awp_dr tab mixed [0, 1, 6, 8, 11, 30, 31, 32] [] [] [] ⟨[[], [], [], [1, 2], [0, 1], [0, 1, 2, 3, 4]], [vi x13, vi x12, vi x13, vi (Int.tmod x12 x13), vi x13, vi (Int.tmod x12 x13)], [none, none, none, some (x13 ≠ 0), none, none], [], [([], [])]⟩ ⟨109, [(0, .d (.sl t_api_Cond) a1), (1, vi a2), (6, vi x1.2.1), (8, vi x13), (11, vi (Int.tmod x12 x13)), (30, .d (.sl (.int .i64)) x1.1), (31, vi (x1.1.length : Int)), (32, vi x6)], []⟩ (by kernel_rfl) (AllO.n (AllO.n (AllO.n (AllO.s (o3) (AllO.n (AllO.n (AllO.e))))))) ?_
              refine blk_n (then_n (spine_e (then_n (?_))))
              obtain ⟨m, hm, h⟩ := h
              exact ⟨m, hm, ⟨109, [(0, .d (.sl t_api_Cond) a1), (1, vi a2), (6, vi x1.2.1), (8, vi x13), (11, vi (Int.tmod x12 x13)), (30, .d (.sl (.int .i64)) x1.1), (31, vi (x1.1.length : Int)), (32, vi x6)], []⟩, wk_ghosts hk (l := [.keep [0, 1, 6, 8, 11, 30, 31, 32], .keep [0, 1, 6, 8, 11, 30, 31, 32], .keep [0, 1, 6, 8, 11, 30, 31, 32]]) (by kernel_rfl), x13, Int.tmod x12 x13, h, rfl⟩
            · replace h := h.2 (bne_f hb)
              refine awp_exit (then_x (then_x (blk_h (then_n (spine_e (then_n (spine_e (then_n (spine_e (blk_n (then_n (spine_c ?_))))))))))))
              obtain ⟨o4, h⟩ := h
              refine awp_rc tab [0, 1, 6, 8, 30, 31, 32] [] [] [] [-9223372036854775808 ≤ x6 + (1 : Int) ∧ x6 + (1 : Int) ≤ 9223372036854775807] ⟨109, [(0, .d (.sl t_api_Cond) a1), (1, vi a2), (6, vi x1.2.1), (8, vi x12), (30, .d (.sl (.int .i64)) x1.1), (31, vi (x1.1.length : Int)), (32, vi (x6 + (1 : Int)))], []⟩ (by kernel_rfl) (AllP.of (o4) trivial) ?_
              refine then_n (spine_e (then_n (spine_e (then_n (spine_e (then_n (?_)))))))
              obtain ⟨m, hm, h⟩ := h
              exact ⟨m, hm, ⟨109, [(0, .d (.sl t_api_Cond) a1), (1, vi a2), (6, vi x1.2.1), (8, vi x12), (30, .d (.sl (.int .i64)) x1.1), (31, vi (x1.1.length : Int)), (32, vi (x6 + (1 : Int)))], []⟩, wk_ghosts hk (l := [.keep [0, 1, 6, 8, 30, 31, 32], .keep [0, 1, 6, 8, 30, 31, 32], .keep [0, 1, 6, 8, 30, 31, 32]]) (by kernel_rfl), x12, x6 + (1 : Int), h, rfl⟩
        · replace h := h.2 (of_decide_eq_false hb)
          refine awp_exit (then_x (then_x (then_x (blk_h (then_n (spine_c ?_))))))
          refine awp_spine ?_
          refine awp_rc tab [0, 1, 59] [] [] [] [(!(decide (x1.2.1 > (268435456 : Int)))) = true → (!(decide (x1.2.1 > (268435456 : Int)))) = true ∧ True, (!(decide (x1.2.1 > (268435456 : Int)))) = true → (!(decide (x1.2.1 > (268435456 : Int)))) = true ∧ True, ((!(decide (x1.2.1 > (268435456 : Int)))) && (x5 != (1 : Int))) = true → ((!(decide (x1.2.1 > (268435456 : Int)))) && (x5 != (1 : Int))) = true ∧ True, (!(decide (x1.2.1 > (268435456 : Int)))) = true → (!(decide (x1.2.1 > (268435456 : Int)))) = true ∧ ((x5 != (1 : Int)) = true → ((!(decide (x1.2.1 > (268435456 : Int)))) && (x5 != (1 : Int))) = true), (decide (x1.2.1 > (268435456 : Int))) = false → (!(decide (x1.2.1 > (268435456 : Int)))) = true] ⟨109, [(0, .d (.sl t_api_Cond) a1), (1, vi a2), (59, vb ((decide (x1.2.1 > (268435456 : Int))) || ((x5 != (1 : Int)) && (x5 != (-1)))))], []⟩ (by kernel_rfl) (AllP.of (fun hg => ⟨hg, trivial⟩) (AllP.of (fun hg => ⟨hg, trivial⟩) (AllP.of (fun hg => ⟨hg, trivial⟩) (AllP.of (fun hg => ⟨hg, fun hc => and_t hg hc⟩) (AllP.of (fun hc => not_f hc) trivial))))) ?_
          refine then_n (spine_c ?_)
          refine awp_cond (b := (decide (x1.2.1 > (268435456 : Int))) || ((x5 != (1 : Int)) && (x5 != (-1)))) (by kernel_rfl) (fun hb => ?_) (fun hb => ?_)
          · replace h := h.1 (hb)
            refine awp_spine ?_
            refine awp_rc tab [4] [] [] [] [] ⟨109, [(4, vb false)], []⟩ (by kernel_rfl) (trivial) ?_
            refine then_n (spine_c ?_)
            refine awp_ret (then_r (then_r (then_r (then_r (then_r (then_r (then_r (then_r (?_)))))))))
            exact ret_r (m := 0) (r := vb false) (objs := []) hk [.keep [4]] ⟨109, [(4, vb false)], []⟩ (by kernel_rfl) (by kernel_rfl) (Nat.le_refl 0) ⟨false, rfl, rfl, h⟩
          · replace h := h.2 (hb)
            refine awp_skip (then_n (spine_e (then_n (spine_e (then_n (spine_e (then_n (spine_e (then_n (?_))))))))))
            exact ⟨h, wk_ghosts hk (l := [.keep [0, 1], .keep [0, 1], .keep [0, 1]]) (by kernel_rfl)⟩
      · replace h := h.2 (ne_of_beq_false hb)
        refine awp_skip (then_n (spine_e (then_n (?_))))
        exact ⟨h, wk_ghosts hk (l := [.keep [0, 1], .keep [0, 1], .keep [0, 1]]) (by kernel_rfl)⟩
    · rintro s' ⟨hx2, hw2⟩
      have h := hB2 hx2
      refine spine_c (awp_wk hw2 ?_)
      refine awp_spine ?_
      refine awp_rc tab [0, 12, 13] [] [(2, .dat (.tup [.d (.sl (.int .i64)) ((farkas_Prove.fn a1 a2).1), vi ((farkas_Prove.fn a1 a2).2)]))] [] [OkC prog 11 [.d (.sl t_api_Cond) a1, vi a2] (.tup [.d (.sl (.int .i64)) ((farkas_Prove.fn a1 a2).1), vi ((farkas_Prove.fn a1 a2).2)])] ⟨109, [(0, .d (.sl t_api_Cond) a1), (12, .d (.sl (.int .i64)) ((farkas_Prove.fn a1 a2).1)), (13, vi ((farkas_Prove.fn a1 a2).2))], []⟩ (by kernel_rfl) (AllP.of (ok_farkas_Prove a1 a2) trivial) ?_
      refine then_n (spine_c ?_)
      refine awp_abs (fun (x17 : (List Int) × Int) => ⟨109, [(0, .d (.sl t_api_Cond) a1), (12, .d (.sl (.int .i64)) x17.1), (13, vi x17.2)], []⟩) (farkas_Prove.fn a1 a2) ?_
      intro x17 hx17
      replace h := h x17 hx17
      refine awp_spine ?_
      refine awp_rc tab [0, 12, 67] [] [] [] [] ⟨109, [(0, .d (.sl t_api_Cond) a1), (12, .d (.sl (.int .i64)) x17.1), (67, vb (x17.2 == (0 : Int)))], []⟩ (by kernel_rfl) (trivial) ?_
      refine then_n (spine_c ?_)
      refine awp_cond (b := x17.2 == (0 : Int)) (by kernel_rfl) (fun hb => ?_) (fun hb => ?_)
      · replace h := h.1 (eq_of_beq hb)
        refine awp_spine ?_
        refine awp_rc tab [0, 12, 72] [] [] [] [] ⟨109, [(0, .d (.sl t_api_Cond) a1), (12, .d (.sl (.int .i64)) x17.1), (72, vb ((x17.1.length : Int) != (a1.length : Int)))], []⟩ (by kernel_rfl) (trivial) ?_
        refine then_n (spine_c ?_)
        refine awp_len 0 [] (T := t_api_Cond) (l := a1) (by kernel_rfl) fun hl => ?_
        replace h := h hl
        refine awp_len 12 [] (T := (.int .i64)) (l := x17.1) (by kernel_rfl) fun hl => ?_
        replace h := h hl
        refine awp_cond (b := (x17.1.length : Int) != (a1.length : Int)) (by kernel_rfl) (fun hb => ?_) (fun hb => ?_)
        · replace h := h.1 (bne_iff_ne.mp hb)
          refine awp_spine ?_
          refine awp_rc tab [4] [] [] [] [] ⟨109, [(4, vb false)], []⟩ (by kernel_rfl) (trivial) ?_
          refine then_n (spine_c ?_)
          refine awp_ret (then_r (then_r (then_r (then_r (then_r (then_r (then_r (?_))))))))
          exact ret_r (m := 0) (r := vb false) (objs := []) hk [.keep [4]] ⟨109, [(4, vb false)], []⟩ (by kernel_rfl) (by kernel_rfl) (Nat.le_refl 0) ⟨false, rfl, rfl, h⟩
        · replace h := h.2 (bne_f hb)
          refine awp_skip (then_n (spine_c ?_))
          refine awp_spine ?_
          refine awp_rc tab [12, 73, 74, 75] [] [] [] [] ⟨109, [(12, .d (.sl (.int .i64)) x17.1), (73, .d (.sl t_api_Cond) a1), (74, vi (a1.length : Int)), (75, vi (0 : Int))], []⟩ (by kernel_rfl) (trivial) ?_
          refine then_n (spine_c ?_)
          refine awp_len 73 [] (T := t_api_Cond) (l := a1) (by kernel_rfl) fun hl => ?_
          replace h := h hl
          refine awp_block ?_
          obtain ⟨I21, ⟨n21a, hz21⟩, hI21⟩ := h
          refine awp_loopN (fun n s => ∃ (x19 : Int), I21 n x19 ∧ s = ⟨109, [(12, .d (.sl (.int .i64)) x17.1), (73, .d (.sl t_api_Cond) a1), (74, vi (a1.length : Int)), (75, vi x19)], []⟩) (n := n21a) (s0 := ⟨109, [(12, .d (.sl (.int .i64)) x17.1), (73, .d (.sl t_api_Cond) a1), (74, vi (a1.length : Int)), (75, vi (0 : Int))], []⟩) (wk_ghosts hk (l := [.keep [12, 73, 74, 75], .keep [12, 73, 74, 75], .keep [12, 73, 74, 75], .keep [12, 73, 74, 75]]) (by kernel_rfl)) ⟨0, hz21, rfl⟩ ?_
          rintro n21 s ⟨x19, hx21, rfl⟩
          have h := hI21 n21 x19 hx21
          refine awp_spine ?_
          refine awp_rc tab [12, 73, 74, 75, 76] [] [] [] [] ⟨109, [(12, .d (.sl (.int .i64)) x17.1), (73, .d (.sl t_api_Cond) a1), (74, vi (a1.length : Int)), (75, vi x19), (76, vb (decide (x19 < (a1.length : Int))))], []⟩ (by kernel_rfl) (trivial) ?_
          refine then_n (spine_c ?_)
          refine awp_spine ?_
          refine awp_cond (b := decide (x19 < (a1.length : Int))) (by kernel_rfl) (fun hb => ?_) (fun hb => ?_)
          · replace h := h.1 (of_decide_eq_true hb)
            refine awp_skip (then_n (spine_c ?_))
            refine awp_spine ?_
            refine awp_block ?_
            refine awp_spine ?_
            obtain ⟨o5, h⟩ := h
            refine awp_rc tab [12, 14, 15, 73, 74, 75] [] [] [] [(0 : Int) ≤ x19 ∧ x19 < (a1.length : Int)] ⟨109, [(12, .d (.sl (.int .i64)) x17.1), (14, vi x19), (15, .ref 0 0 0), (73, .d (.sl t_api_Cond) a1), (74, vi (a1.length : Int)), (75, vi x19)], [.box [vi ((a1.getD (Int.toNat x19) d_api_Cond).1), vi ((a1.getD (Int.toNat x19) d_api_Cond).2.1), .d (.sl (.int .i64)) (((a1.getD (Int.toNat x19) d_api_Cond).2.2).1), vi (((a1.getD (Int.toNat x19) d_api_Cond).2.2).2)]]⟩ (by kernel_rfl) (AllP.of (o5) trivial) ?_
            refine then_n (spine_c ?_)
            refine awp_abs (fun (x22 : api_Cond) => ⟨109, [(12, .d (.sl (.int .i64)) x17.1), (14, vi x19), (15, .ref 0 0 0), (73, .d (.sl t_api_Cond) a1), (74, vi (a1.length : Int)), (75, vi x19)], [.box [vi x22.1, vi x22.2.1, .d (.sl (.int .i64)) x22.2.2.1, vi x22.2.2.2]]⟩) (a1.getD (Int.toNat x19) d_api_Cond) ?_
            intro x22 hx22
            replace h := h x22 hx22
            refine awp_spine ?_
            obtain ⟨o6, o7, h⟩ := h
            refine awp_rc tab [12, 73, 74, 75, 106] [] [(24, .dat (vb (ref03_Valid.fn x22)))] [] [(x22.1 != (1 : Int)) = true → (x22.1 != (1 : Int)) = true ∧ ((x22.1 != (1 : Int)) = true ∧ ((0 : Int) ≤ x19 ∧ x19 < (x17.1.length : Int))), (x22.1 != (1 : Int)) = true → (x22.1 != (1 : Int)) = true ∧ True, (x22.1 != (1 : Int)) = true → (x22.1 != (1 : Int)) = true ∧ True, (x22.1 != (1 : Int)) = true → (x22.1 != (1 : Int)) = true, (!((x22.1 != (1 : Int)) && (decide ((gI x17.1 x19) < (0 : Int))))) = true → (!((x22.1 != (1 : Int)) && (decide ((gI x17.1 x19) < (0 : Int))))) = true ∧ True, (!((x22.1 != (1 : Int)) && (decide ((gI x17.1 x19) < (0 : Int))))) = true → (!((x22.1 != (1 : Int)) && (decide ((gI x17.1 x19) < (0 : Int))))) = true ∧ True, (!((x22.1 != (1 : Int)) && (decide ((gI x17.1 x19) < (0 : Int))))) = true → (!((x22.1 != (1 : Int)) && (decide ((gI x17.1 x19) < (0 : Int))))) = true ∧ True, ((!((x22.1 != (1 : Int)) && (decide ((gI x17.1 x19) < (0 : Int))))) && (x22.1 == (2 : Int))) = true → ((!((x22.1 != (1 : Int)) && (decide ((gI x17.1 x19) < (0 : Int))))) && (x22.1 == (2 : Int))) = true ∧ (((!((x22.1 != (1 : Int)) && (decide ((gI x17.1 x19) < (0 : Int))))) && (x22.1 == (2 : Int))) = true ∧ ((0 : Int) ≤ x19 ∧ x19 < (x17.1.length : Int))), ((!((x22.1 != (1 : Int)) && (decide ((gI x17.1 x19) < (0 : Int))))) && (x22.1 == (2 : Int))) = true → ((!((x22.1 != (1 : Int)) && (decide ((gI x17.1 x19) < (0 : Int))))) && (x22.1 == (2 : Int))) = true ∧ True, ((!((x22.1 != (1 : Int)) && (decide ((gI x17.1 x19) < (0 : Int))))) && (x22.1 == (2 : Int))) = true → ((!((x22.1 != (1 : Int)) && (decide ((gI x17.1 x19) < (0 : Int))))) && (x22.1 == (2 : Int))) = true ∧ True, (!((x22.1 != (1 : Int)) && (decide ((gI x17.1 x19) < (0 : Int))))) = true → (!((x22.1 != (1 : Int)) && (decide ((gI x17.1 x19) < (0 : Int))))) = true ∧ ((x22.1 == (2 : Int)) = true → ((!((x22.1 != (1 : Int)) && (decide ((gI x17.1 x19) < (0 : Int))))) && (x22.1 == (2 : Int))) = true), ((x22.1 != (1 : Int)) && (decide ((gI x17.1 x19) < (0 : Int)))) = false → (!((x22.1 != (1 : Int)) && (decide ((gI x17.1 x19) < (0 : Int))))) = true, (!(((x22.1 != (1 : Int)) && (decide ((gI x17.1 x19) < (0 : Int)))) || ((x22.1 == (2 : Int)) && ((gI x17.1 x19) != (0 : Int))))) = true → (!(((x22.1 != (1 : Int)) && (decide ((gI x17.1 x19) < (0 : Int)))) || ((x22.1 == (2 : Int)) && ((gI x17.1 x19) != (0 : Int))))) = true ∧ (OkC prog 16 [.agg [vi x22.1, vi x22.2.1, .d (.sl (.int .i64)) x22.2.2.1, vi x22.2.2.2]] (vb (ref03_Valid.fn x22))), (!(((x22.1 != (1 : Int)) && (decide ((gI x17.1 x19) < (0 : Int)))) || ((x22.1 == (2 : Int)) && ((gI x17.1 x19) != (0 : Int))))) = true → (!(((x22.1 != (1 : Int)) && (decide ((gI x17.1 x19) < (0 : Int)))) || ((x22.1 == (2 : Int)) && ((gI x17.1 x19) != (0 : Int))))) = true ∧ True, (((x22.1 != (1 : Int)) && (decide ((gI x17.1 x19) < (0 : Int)))) || ((x22.1 == (2 : Int)) && ((gI x17.1 x19) != (0 : Int)))) = false → (!(((x22.1 != (1 : Int)) && (decide ((gI x17.1 x19) < (0 : Int)))) || ((x22.1 == (2 : Int)) && ((gI x17.1 x19) != (0 : Int))))) = true] ⟨109, [(12, .d (.sl (.int .i64)) x17.1), (73, .d (.sl t_api_Cond) a1), (74, vi (a1.length : Int)), (75, vi x19), (106, vb ((((x22.1 != (1 : Int)) && (decide ((gI x17.1 x19) < (0 : Int)))) || ((x22.1 == (2 : Int)) && ((gI x17.1 x19) != (0 : Int)))) || (!(ref03_Valid.fn x22))))], [.box [vi x22.1, vi x22.2.1, .d (.sl (.int .i64)) x22.2.2.1, vi x22.2.2.2]]⟩ (by kernel_rfl) (AllP.of (fun hg => ⟨hg, hg, (o6 hg)⟩) (AllP.of (fun hg => ⟨hg, trivial⟩) (AllP.of (fun hg => ⟨hg, trivial⟩) (AllP.of (fun hc => hc) (AllP.of (fun hg => ⟨hg, trivial⟩) (AllP.of (fun hg => ⟨hg, trivial⟩) (AllP.of (fun hg => ⟨hg, trivial⟩) (AllP.of (fun hg => ⟨hg, hg, (o7 hg)⟩) (AllP.of (fun hg => ⟨hg, trivial⟩) (AllP.of (fun hg => ⟨hg, trivial⟩) (AllP.of (fun hg => ⟨hg, fun hc => and_t hg hc⟩) (AllP.of (fun hc => not_f hc) (AllP.of (fun hg => ⟨hg, ok_ref03_Valid x22⟩) (AllP.of (fun hg => ⟨hg, trivial⟩) (AllP.of (fun hc => not_f hc) trivial))))))))))))))) ?_
            refine then_n (spine_c ?_)
            refine awp_cond (b := (((x22.1 != (1 : Int)) && (decide ((gI x17.1 x19) < (0 : Int)))) || ((x22.1 == (2 : Int)) && ((gI x17.1 x19) != (0 : Int)))) || (!(ref03_Valid.fn x22))) (by kernel_rfl) (fun hb => ?_) (fun hb => ?_)
            · replace h := h.1 (hb)
              refine awp_spine ?_
              refine awp_rc tab [4] [] [] [] [] ⟨109, [(4, vb false)], [.box [vi x22.1, vi x22.2.1, .d (.sl (.int .i64)) x22.2.2.1, vi x22.2.2.2]]⟩ (by kernel_rfl) (trivial) ?_
              refine then_n (spine_c ?_)
              refine awp_ret (then_r (then_r (then_r (blk_r (then_r (then_r (then_r (then_r (blk_r (then_r (then_r (then_r (then_r (then_r (then_r (then_r (?_)))))))))))))))))
              exact ret_r (m := 0) (r := vb false) (objs := []) hk [.keep [4]] ⟨109, [(4, vb false)], [.box [vi x22.1, vi x22.2.1, .d (.sl (.int .i64)) x22.2.2.1, vi x22.2.2.2]]⟩ (by kernel_rfl) (by kernel_rfl) (Nat.le_refl 0) ⟨false, rfl, rfl, h⟩
            · replace h := h.2 (hb)
              refine awp_skip (then_n (spine_e (then_n (spine_e (blk_n (then_n (spine_c ?_)))))))
              obtain ⟨o8, h⟩ := h
              refine awp_rc tab [12, 73, 74, 75] [] [] [] [-9223372036854775808 ≤ x19 + (1 : Int) ∧ x19 + (1 : Int) ≤ 9223372036854775807] ⟨109, [(12, .d (.sl (.int .i64)) x17.1), (73, .d (.sl t_api_Cond) a1), (74, vi (a1.length : Int)), (75, vi (x19 + (1 : Int)))], [.box [vi x22.1, vi x22.2.1, .d (.sl (.int .i64)) x22.2.2.1, vi x22.2.2.2]]⟩ (by kernel_rfl) (AllP.of (o8) trivial) ?_
              refine then_n (spine_e (then_n (spine_e (then_n (spine_e (then_n (?_)))))))
              obtain ⟨m, hm, h⟩ := h
              exact ⟨m, hm, ⟨109, [(12, .d (.sl (.int .i64)) x17.1), (73, .d (.sl t_api_Cond) a1), (74, vi (a1.length : Int)), (75, vi (x19 + (1 : Int)))], []⟩, wk_ghosts hk (l := [.keep [12, 73, 74, 75], .keep [12, 73, 74, 75], .cut 0, .keep [12, 73, 74, 75]]) (by kernel_rfl), x19 + (1 : Int), h, rfl⟩
          · replace h := h.2 (of_decide_eq_false hb)
            refine awp_exit (then_x (then_x (then_x (blk_h (then_n (spine_e (then_n (spine_e (then_n (spine_e (then_n (spine_c ?_))))))))))))
            refine awp_spine ?_
            obtain ⟨o9, h⟩ := h
            refine awp_rc tab [4] [] [(0, .dat (vb law09_awake.fn))] [] [OkC prog 10 [] (vb law09_awake.fn)] ⟨109, [(4, vb law09_awake.fn)], []⟩ (by kernel_rfl) (AllP.of (ok_law09_awake (o9)) trivial) ?_
            refine then_n (spine_c ?_)
            refine awp_ret (then_r (then_r (then_r (then_r (then_r (?_))))))
            exact ret_r (m := 0) (r := vb law09_awake.fn) (objs := []) hk [.keep [4]] ⟨109, [(4, vb law09_awake.fn)], []⟩ (by kernel_rfl) (by kernel_rfl) (Nat.le_refl 0) ⟨law09_awake.fn, rfl, rfl, h⟩
      · replace h := h.2 (ne_of_beq_false hb)
        refine awp_skip (then_n (spine_e (then_n (spine_c ?_))))
        refine awp_spine ?_
        obtain ⟨o10, h⟩ := h
        refine awp_rc tab [4] [] [(0, .dat (vb law09_awake.fn))] [] [OkC prog 10 [] (vb law09_awake.fn)] ⟨109, [(4, vb law09_awake.fn)], []⟩ (by kernel_rfl) (AllP.of (ok_law09_awake (o10)) trivial) ?_
        refine then_n (spine_c ?_)
        refine awp_ret (then_r (then_r (then_r (then_r (then_r (?_))))))
        exact ret_r (m := 0) (r := vb law09_awake.fn) (objs := []) hk [.keep [4]] ⟨109, [(4, vb law09_awake.fn)], []⟩ (by kernel_rfl) (by kernel_rfl) (Nat.le_refl 0) ⟨law09_awake.fn, rfl, rfl, h⟩
theorem ok_law09_FarkasReduced (a1 : (List api_Cond)) (a2 : Int) : OkC prog 4 [.d (.sl t_api_Cond) a1, vi a2] (vb (law09_FarkasReduced.fn a1 a2)) :=
  OkC.of call_law09_FarkasReduced ((walk_law09_FarkasReduced a1 a2 _ (law09_FarkasReduced.spec a1 a2)).mono fun r o ⟨x, hr, ho, hx⟩ => ⟨by rw [hr, hx], ho⟩) rfl rfl (fun _ => rfl)

end Go.Proofs.Ytlncingakpelbaa
