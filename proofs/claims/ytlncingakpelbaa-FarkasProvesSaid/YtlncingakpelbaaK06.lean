/- Part of a proof that the law FarkasProves of the program holds for every input: printed by a program of this work: how the functions are walked. No conditions. -/
import Derived.Test.YtlncingakpelbaaK05
namespace Go.Proofs.Ytlncingakpelbaa
open Go
set_option linter.unusedVariables false
set_option maxHeartbeats 4000000

noncomputable abbrev b61 : Code := bodyOf Try.f61
theorem call_farkas_fraction_less : CallOk prog 61 := ⟨_,Try.func61,by kernel_rfl,by kernel_rfl⟩
theorem walk_farkas_fraction_less (a1 : farkas_fraction) (a2 : farkas_fraction) (Q : Bool → Prop) (h : farkas_fraction_less.wp a1 a2 Q) : VCalls prog 61 [.agg (c_anon_struct_n_int_d_int a1),.agg (c_anon_struct_n_int_d_int a2)] [] (fun r o => ∃ x,r = vb x ∧ o = [] ∧ Q x) := by
  refine body Try.func61 (spine (subC [0] b61) [(spine (subC [1,0,0] b61) [(.cond (.tmp 15) (spine (subC [1,0,1,0,0] b61) [.ret]) .skip),(spine (subC [1,1,0] b61) [(spine (subC [1,1,1,0] b61) [(spine (subC [1,1,1,1,0,0] b61) [(.cond (.tmp 41) (subC [1,1,1,1,0,1,0] b61) .skip),(spine (subC [1,1,1,1,1,0] b61) [.ret])])])])])]) fun cx hd hi hk => ?_
  show AWp prog cx _ _ ⟨59,[(0,.agg (c_anon_struct_n_int_d_int a1)),(1,.agg (c_anon_struct_n_int_d_int a2))],[]⟩
  replace hk : cx.E.len = 0 := hk
  unfold farkas_fraction_less.wp at h
  refine awp_spine (rc [2,3] [] [] [0,1] ⟨59,[(2,.er (c_anon_struct_n_int_d_int a1)),(3,.er (c_anon_struct_n_int_d_int a2))],[]⟩ (pe) (tc ((awp_spine (rc [2,3,15] [] [] [] ⟨59,[(2,.er (c_anon_struct_n_int_d_int a1)),(3,.er (c_anon_struct_n_int_d_int a2)),(15,vb ((decide (a1.1 < (0:Int))) != (decide (a2.1 < (0:Int)))))],[]⟩ (pe) (tc ((awp_cond (b := (decide (a1.1 < (0:Int))) != (decide (a2.1 < (0:Int)))) (by kernel_rfl) (fun hb => ?_) (fun hb => ?_)))))))))
  · replace h := h.1 (bne_iff_ne.mp hb)
    refine awp_spine (rc [4] [] [] [] ⟨59,[(4,vb (decide (a1.1 < (0:Int))))],[]⟩ (pe) (tc ((awp_ret (tr (tr (tr (?_))))))))
    exact re hk (vb (decide (a1.1 < (0:Int)))) [.keep [4]] ⟨59,[(4,vb (decide (a1.1 < (0:Int))))],[]⟩ ⟨decide (a1.1 < (0:Int)),rfl,rfl,h⟩
  · replace h := h.2 (bne_f hb)
    obtain ⟨o1,o2,h⟩ := h
    refine awp_skip (tc ((awp_spine (dr hk [2,3,5,6] [5] [2,6] [] ⟨[[],[0],[0,1],[],[3],[3,4],(lr 6),(lr 7),(lr 8),(lr 8),(lr 9),(lr 11)],[.er (c_anon_struct_n_int_d_int a1),vi a1.1,vu (farkas_size.fn a1.1),.er [vi a2.2],vi a2.2,vu (IntKind.wrap .u64 a2.2),.tup [vu ((math_bits_Mul64.fn (farkas_size.fn a1.1) (IntKind.wrap .u64 a2.2)).1),vu ((math_bits_Mul64.fn (farkas_size.fn a1.1) (IntKind.wrap .u64 a2.2)).2)],.tup [vu ((math_bits_Mul64.fn (farkas_size.fn a1.1) (IntKind.wrap .u64 a2.2)).1),vu ((math_bits_Mul64.fn (farkas_size.fn a1.1) (IntKind.wrap .u64 a2.2)).2)],vu ((math_bits_Mul64.fn (farkas_size.fn a1.1) (IntKind.wrap .u64 a2.2)).1),vu ((math_bits_Mul64.fn (farkas_size.fn a1.1) (IntKind.wrap .u64 a2.2)).2),vu ((math_bits_Mul64.fn (farkas_size.fn a1.1) (IntKind.wrap .u64 a2.2)).1),vu ((math_bits_Mul64.fn (farkas_size.fn a1.1) (IntKind.wrap .u64 a2.2)).2)],_,[],[([],[])],[],[]⟩ ⟨59,[(2,.er (c_anon_struct_n_int_d_int a1)),(3,.er (c_anon_struct_n_int_d_int a2)),(5,vu ((math_bits_Mul64.fn (farkas_size.fn a1.1) (IntKind.wrap .u64 a2.2)).1)),(6,vu ((math_bits_Mul64.fn (farkas_size.fn a1.1) (IntKind.wrap .u64 a2.2)).2))],[]⟩ (.n (.n (.s (ok_farkas_size a1.1 (o1)) (.n (.n (.n (.s (ok_math_bits_Mul64 (farkas_size.fn a1.1) (IntKind.wrap .u64 a2.2) (o2)) (.n (.n (.n (.n (.n AllO.e)))))))))))) (tc ((awp_abs (fun (x1:Int) => ⟨59,[(2,.er (c_anon_struct_n_int_d_int a1)),(3,.er (c_anon_struct_n_int_d_int a2)),(5,vu ((math_bits_Mul64.fn x1 (IntKind.wrap .u64 a2.2)).1)),(6,vu ((math_bits_Mul64.fn x1 (IntKind.wrap .u64 a2.2)).2))],[]⟩) (farkas_size.fn a1.1) ?_)))))))
    intro x1 hx1
    replace h := h x1 hx1
    refine awp_abs (fun (x2 : Int × Int) => ⟨59,[(2,.er (c_anon_struct_n_int_d_int a1)),(3,.er (c_anon_struct_n_int_d_int a2)),(5,vu x2.1),(6,vu x2.2)],[]⟩) (math_bits_Mul64.fn x1 (IntKind.wrap .u64 a2.2)) ?_
    intro x2 hx2
    replace h := h x2 hx2
    refine awp_abs (fun (x3:Int) => ⟨59,[(2,.er (c_anon_struct_n_int_d_int a1)),(3,.er (c_anon_struct_n_int_d_int a2)),(5,vu x3),(6,vu x2.2)],[]⟩) (x2.1) ?_
    intro x3 hx3
    replace h := h x3 hx3
    refine awp_abs (fun (x4:Int) => ⟨59,[(2,.er (c_anon_struct_n_int_d_int a1)),(3,.er (c_anon_struct_n_int_d_int a2)),(5,vu x3),(6,vu x4)],[]⟩) (x2.2) ?_
    intro x4 hx4
    replace h := h x4 hx4
    obtain ⟨o3,o4,h⟩ := h
    refine awp_spine (dr hk [2,5,6,7,8] [5] [2,6] [] ⟨[[],[0],[0,1],[],[3],[3,4],(lr 6),(lr 7),(lr 8),(lr 8),(lr 9),(lr 11)],[.er (c_anon_struct_n_int_d_int a2),vi a2.1,vu (farkas_size.fn a2.1),.er [vi a1.2],vi a1.2,vu (IntKind.wrap .u64 a1.2),.tup [vu ((math_bits_Mul64.fn (farkas_size.fn a2.1) (IntKind.wrap .u64 a1.2)).1),vu ((math_bits_Mul64.fn (farkas_size.fn a2.1) (IntKind.wrap .u64 a1.2)).2)],.tup [vu ((math_bits_Mul64.fn (farkas_size.fn a2.1) (IntKind.wrap .u64 a1.2)).1),vu ((math_bits_Mul64.fn (farkas_size.fn a2.1) (IntKind.wrap .u64 a1.2)).2)],vu ((math_bits_Mul64.fn (farkas_size.fn a2.1) (IntKind.wrap .u64 a1.2)).1),vu ((math_bits_Mul64.fn (farkas_size.fn a2.1) (IntKind.wrap .u64 a1.2)).2),vu ((math_bits_Mul64.fn (farkas_size.fn a2.1) (IntKind.wrap .u64 a1.2)).1),vu ((math_bits_Mul64.fn (farkas_size.fn a2.1) (IntKind.wrap .u64 a1.2)).2)],_,[],[([],[])],[],[]⟩ ⟨59,[(2,.er (c_anon_struct_n_int_d_int a1)),(5,vu x3),(6,vu x4),(7,vu ((math_bits_Mul64.fn (farkas_size.fn a2.1) (IntKind.wrap .u64 a1.2)).1)),(8,vu ((math_bits_Mul64.fn (farkas_size.fn a2.1) (IntKind.wrap .u64 a1.2)).2))],[]⟩ (.n (.n (.s (ok_farkas_size a2.1 (o3)) (.n (.n (.n (.s (ok_math_bits_Mul64 (farkas_size.fn a2.1) (IntKind.wrap .u64 a1.2) (o4)) (.n (.n (.n (.n (.n AllO.e)))))))))))) (tc ((awp_abs (fun (x5:Int) => ⟨59,[(2,.er (c_anon_struct_n_int_d_int a1)),(5,vu x3),(6,vu x4),(7,vu ((math_bits_Mul64.fn x5 (IntKind.wrap .u64 a1.2)).1)),(8,vu ((math_bits_Mul64.fn x5 (IntKind.wrap .u64 a1.2)).2))],[]⟩) (farkas_size.fn a2.1) ?_))))
    intro x5 hx5
    replace h := h x5 hx5
    refine awp_abs (fun (x6 : Int × Int) => ⟨59,[(2,.er (c_anon_struct_n_int_d_int a1)),(5,vu x3),(6,vu x4),(7,vu x6.1),(8,vu x6.2)],[]⟩) (math_bits_Mul64.fn x5 (IntKind.wrap .u64 a1.2)) ?_
    intro x6 hx6
    replace h := h x6 hx6
    refine awp_abs (fun (x7:Int) => ⟨59,[(2,.er (c_anon_struct_n_int_d_int a1)),(5,vu x3),(6,vu x4),(7,vu x7),(8,vu x6.2)],[]⟩) (x6.1) ?_
    intro x7 hx7
    replace h := h x7 hx7
    refine awp_abs (fun (x8:Int) => ⟨59,[(2,.er (c_anon_struct_n_int_d_int a1)),(5,vu x3),(6,vu x4),(7,vu x7),(8,vu x8)],[]⟩) (x6.2) ?_
    intro x8 hx8
    replace h := h x8 hx8
    obtain ⟨R13,hA13,hB13⟩ := h
    refine awp_spine (rc [5,6,7,8,41] [] [] [] ⟨59,[(5,vu x3),(6,vu x4),(7,vu x7),(8,vu x8),(41,vb (decide (a1.1 < (0:Int))))],[]⟩ (pe) (tc ((awp_meet (fun s' => ∃ (x9:Int) (x10:Int) (x11:Int) (x12:Int),R13 x9 x10 x11 x12 ∧ Wk cx s' ⟨59,[(5,vu x9),(6,vu x10),(7,vu x11),(8,vu x12)],[]⟩) ?_ ?_))))
    · have h := hA13
      refine awp_cond (b := decide (a1.1 < (0:Int))) (by kernel_rfl) (fun hb => ?_) (fun hb => ?_)
      · replace h := h.1 (of_decide_eq_true hb)
        refine rc [5,6,7,8] [] [] [] ⟨59,[(5,vu x7),(6,vu x8),(7,vu x3),(8,vu x4)],[]⟩ (pe) (then_n (?_))
        exact ⟨x7,x8,x3,x4,h,wk_ghosts hk (l := [.keep [5,6,7,8]]) (by kernel_rfl)⟩
      · replace h := h.2 (of_decide_eq_false hb)
        refine awp_skip (then_n (?_))
        exact ⟨x3,x4,x7,x8,h,wk_ghosts hk (l := [.keep [5,6,7,8]]) (by kernel_rfl)⟩
    · rintro s' ⟨x9,x10,x11,x12,hx13,hw13⟩
      have h := hB13 x9 x10 x11 x12 hx13
      refine spine_c (awp_wk hw13 (awp_spine (rc [4] [2,6,10] [] [] ⟨59,[(4,vb ((decide (x9 < x11)) || ((x9 == x11) && (decide (x10 < x12)))))],[]⟩ (pn (fun hg => ⟨hg,hg,trivial⟩ : (!(decide (x9 < x11))) = true → (!(decide (x9 < x11))) = true ∧ ((!(decide (x9 < x11))) = true ∧ True)) (pn (fun hg => ⟨hg,trivial⟩ : (!(decide (x9 < x11))) = true → (!(decide (x9 < x11))) = true ∧ True) (pn (fun hg => ⟨hg,hg,trivial⟩ : ((!(decide (x9 < x11))) && (x9 == x11)) = true → ((!(decide (x9 < x11))) && (x9 == x11)) = true ∧ (((!(decide (x9 < x11))) && (x9 == x11)) = true ∧ True)) (pn (fun hg => ⟨hg,fun hc => and_t hg hc⟩ : (!(decide (x9 < x11))) = true → (!(decide (x9 < x11))) = true ∧ ((x9 == x11) = true → ((!(decide (x9 < x11))) && (x9 == x11)) = true)) (pn (fun hc => not_f hc : (decide (x9 < x11)) = false → (!(decide (x9 < x11))) = true) pe))))) (tc ((awp_ret (tr (tr (tr (tr (tr (tr (?_)))))))))))))
      exact re hk (vb ((decide (x9 < x11)) || ((x9 == x11) && (decide (x10 < x12))))) [.keep [4]] ⟨59,[(4,vb ((decide (x9 < x11)) || ((x9 == x11) && (decide (x10 < x12)))))],[]⟩ ⟨(decide (x9 < x11)) || ((x9 == x11) && (decide (x10 < x12))),rfl,rfl,h⟩
theorem ok_farkas_fraction_less (a1 : farkas_fraction) (a2 : farkas_fraction) (h : farkas_fraction_less.pre a1 a2) : OkC prog 61 [.agg (c_anon_struct_n_int_d_int a1),.agg (c_anon_struct_n_int_d_int a2)] (vb (farkas_fraction_less.fn a1 a2)) :=
  OkC.of call_farkas_fraction_less ((walk_farkas_fraction_less a1 a2 _ (farkas_fraction_less.spec a1 a2 h)).mono fun r o ⟨x,hr,ho,hx⟩ => ⟨by rw [hr,hx],ho⟩) rfl rfl (fun _ => rfl)

noncomputable abbrev b60 : Code := bodyOf Try.f60
theorem call_farkas_point_bound : CallOk prog 60 := ⟨_,Try.func60,by kernel_rfl,by kernel_rfl⟩
theorem walk_farkas_point_bound (a1 : farkas_point) (a2 : farkas_row) (a3:Int) (Q : farkas_fraction → Prop) (h : farkas_point_bound.wp a1 a2 a3 Q) : VCalls prog 60 [.agg (c_api_Lin a1),.agg (c_farkas_row a2),vi a3] [] (fun r o => ∃ x,r = .agg (c_anon_struct_n_int_d_int x) ∧ o = [] ∧ Q x) := by
  refine body Try.func60 (spine (subC [0] b60) [(spine (subC [1,0] b60) [(spine (subC [1,1,0] b60) [(spine (subC [1,1,1,0,0] b60) [(.block 0 (.loop (spine (subC [1,1,1,0,1,0,0,0] b60) [(spine (.cond (.tmp 26) .skip (.exit 0)) [(spine (.block 1 (spine (subC [1,1,1,0,1,0,0,1,1,0,0,0] b60) [(subC [1,1,1,0,1,0,0,1,1,0,0,1] b60)])) [(subC [1,1,1,0,1,0,0,1,1,1] b60)])])]))),(spine (subC [1,1,1,1,0,0] b60) [(.cond (.tmp 45) (spine (subC [1,1,1,1,0,1,0,0] b60) [.ret]) .skip),(spine (subC [1,1,1,1,1,0] b60) [.ret])])])])])]) fun cx hd hi hk => ?_
  show AWp prog cx _ _ ⟨62,[(0,.agg (c_api_Lin a1)),(1,.agg (c_farkas_row a2)),(2,vi a3)],[]⟩
  replace hk : cx.E.len = 0 := hk
  unfold farkas_point_bound.wp at h
  refine awp_spine (rc [2,3,4,6] [] [] [0,1] ⟨62,[(2,vi a3),(3,.er (c_api_Lin a1)),(4,.er (c_farkas_row a2)),(6,.ref 0 0 0)],[.box [vi 0,vi 0]]⟩ (pe) (tc ((awp_spine (rc [2,3,4,6,7] [] [] [] ⟨62,[(2,vi a3),(3,.er (c_api_Lin a1)),(4,.er (c_farkas_row a2)),(6,.ref 0 0 0),(7,vi (a1.1.length:Int))],[.box [vi 0,vi 0]]⟩ (pe) (tc ((awp_len 3 [0] (T := tI) (l := a1.1) (by kernel_rfl) fun hl => ?_))))))))
  replace h := h hl
  obtain ⟨o1,o2,h⟩ := h
  refine awp_spine (dr hk [3,4,6,7,8] [] [] [] ⟨[[],[0],[],[0,1,2],[0,1,2,3],[],[5],(lr 7),(lr 8)],[.er [vs a2.2],vs a2.2,vi a3,.er [vi (gI a2.2 a3)],vi (gI a2.2 a3),.er [vi a1.2],vi a1.2,vi ((gI a2.2 a3) * a1.2),vi ((gI a2.2 a3) * a1.2)],_,[],[([],[.box [vi 0,vi 0]])],[],[]⟩ ⟨62,[(3,.er (c_api_Lin a1)),(4,.er (c_farkas_row a2)),(6,.ref 0 0 0),(7,vi (a1.1.length:Int)),(8,vi ((gI a2.2 a3) * a1.2))],[.box [vi 0,vi 0]]⟩ (.n (.n (.n (.s o1 (.n (.n (.n (.s o2 (.n AllO.e))))))))) (tc ((awp_spine (rc [4,6,7,8,23,24,25] [] [] [] ⟨62,[(4,.er (c_farkas_row a2)),(6,.ref 0 0 0),(7,vi (a1.1.length:Int)),(8,vi ((gI a2.2 a3) * a1.2)),(23,vs a1.1),(24,vi (a1.1.length:Int)),(25,vi 0)],[.box [vi 0,vi 0]]⟩ (pe) (tc ((awp_len 23 [] (T := tI) (l := a1.1) (by kernel_rfl) fun hl => ?_))))))))
  replace h := h hl
  obtain ⟨I7,⟨n7a,hz7⟩,hI7⟩ := h
  refine awp_block (awp_loopN (fun n s => ∃ (x3:Int) (x4:Int),I7 n x3 x4 ∧ s = ⟨62,[(4,.er (c_farkas_row a2)),(6,.ref 0 0 0),(7,vi (a1.1.length:Int)),(8,vi x3),(23,vs a1.1),(24,vi (a1.1.length:Int)),(25,vi x4)],[.box [vi 0,vi 0]]⟩) (n := n7a) (s0 := ⟨62,[(4,.er (c_farkas_row a2)),(6,.ref 0 0 0),(7,vi (a1.1.length:Int)),(8,vi ((gI a2.2 a3) * a1.2)),(23,vs a1.1),(24,vi (a1.1.length:Int)),(25,vi 0)],[.box [vi 0,vi 0]]⟩) (wk_ghosts hk (l := [.keep [4,6,7,8,23,24,25]]) (by kernel_rfl)) ⟨(gI a2.2 a3) * a1.2,0,hz7,rfl⟩ ?_)
  rintro n7 s ⟨x3,x4,hx7,rfl⟩
  have h := hI7 n7 x3 x4 hx7
  refine awp_spine (rc [4,6,7,8,23,24,25,26] [] [] [] ⟨62,[(4,.er (c_farkas_row a2)),(6,.ref 0 0 0),(7,vi (a1.1.length:Int)),(8,vi x3),(23,vs a1.1),(24,vi (a1.1.length:Int)),(25,vi x4),(26,vb (decide (x4 < (a1.1.length:Int))))],[.box [vi 0,vi 0]]⟩ (pe) (tc ((awp_spine (awp_cond (b := decide (x4 < (a1.1.length:Int))) (by kernel_rfl) (fun hb => ?_) (fun hb => ?_))))))
  · replace h := h.1 (of_decide_eq_true hb)
    obtain ⟨o3,h⟩ := h
    obtain ⟨o4,o5,o6,h⟩ := h
    refine awp_skip (tc ((awp_spine (awp_block (awp_spine (rc [4,6,7,8,9,10,23,24,25] [] [] [] ⟨62,[(4,.er (c_farkas_row a2)),(6,.ref 0 0 0),(7,vi (a1.1.length:Int)),(8,vi x3),(9,vi x4),(10,vi (gI a1.1 x4)),(23,vs a1.1),(24,vi (a1.1.length:Int)),(25,vi x4)],[.box [vi 0,vi 0]]⟩ (pn o3 pe) (tc ((rc [4,6,7,8,23,24,25] [] [] [] ⟨62,[(4,.er (c_farkas_row a2)),(6,.ref 0 0 0),(7,vi (a1.1.length:Int)),(8,vi (x3 + ((gI a2.2 x4) * (gI a1.1 x4)))),(23,vs a1.1),(24,vi (a1.1.length:Int)),(25,vi x4)],[.box [vi 0,vi 0]]⟩ (pn o4 (pn o5 (pn o6 pe))) (te ((blk_n (tc ((awp_abs (fun (x8:Int) => ⟨62,[(4,.er (c_farkas_row a2)),(6,.ref 0 0 0),(7,vi (a1.1.length:Int)),(8,vi x8),(23,vs a1.1),(24,vi (a1.1.length:Int)),(25,vi x4)],[.box [vi 0,vi 0]]⟩) (x3 + ((gI a2.2 x4) * (gI a1.1 x4))) ?_)))))))))))))))
    intro x8 hx8
    replace h := h x8 hx8
    obtain ⟨o7,h⟩ := h
    refine rc [4,6,7,8,23,24,25] [] [] [] ⟨62,[(4,.er (c_farkas_row a2)),(6,.ref 0 0 0),(7,vi (a1.1.length:Int)),(8,vi x8),(23,vs a1.1),(24,vi (a1.1.length:Int)),(25,vi (x4 + (1:Int)))],[.box [vi 0,vi 0]]⟩ (pn o7 pe) (te ((te ((te ((then_n (?_))))))))
    obtain ⟨m,hm,h⟩ := h
    exact ⟨m,hm,⟨62,[(4,.er (c_farkas_row a2)),(6,.ref 0 0 0),(7,vi (a1.1.length:Int)),(8,vi x8),(23,vs a1.1),(24,vi (a1.1.length:Int)),(25,vi (x4 + (1:Int)))],[.box [vi 0,vi 0]]⟩,wk_ghosts hk (l := [.keep [4,6,7,8,23,24,25]]) (by kernel_rfl),x8,x4 + (1:Int),h,rfl⟩
  · replace h := h.2 (of_decide_eq_false hb)
    obtain ⟨o8,h⟩ := h
    refine awp_exit (then_x (then_x (then_x (blk_h (tc ((awp_spine (rc [4,6,7,8,45] [] [] [] ⟨62,[(4,.er (c_farkas_row a2)),(6,.ref 0 0 0),(7,vi (a1.1.length:Int)),(8,vi x3),(45,vb (decide ((gI a2.2 (a1.1.length:Int)) < (0:Int))))],[.box [vi 0,vi 0]]⟩ (pn o8 pe) (tc ((awp_cond (b := decide ((gI a2.2 (a1.1.length:Int)) < (0:Int))) (by kernel_rfl) (fun hb => ?_) (fun hb => ?_))))))))))))
    · replace h := h.1 (of_decide_eq_true hb)
      obtain ⟨o9,o10,h⟩ := h
      refine awp_spine (rc [6] [] [] [] ⟨62,[(6,.ref 0 0 0)],[.box [vi x3,vi (-(gI a2.2 (a1.1.length:Int)))]]⟩ (pn o9 (pn o10 pe)) (tc ((awp_ret (tr (tr (tr (tr (tr (tr (?_)))))))))))
      exact re hk (.agg (c_anon_struct_n_int_d_int (x3,-(gI a2.2 (a1.1.length:Int))))) [.keep [6]] ⟨62,[(6,.ref 0 0 0)],[.box [vi x3,vi (-(gI a2.2 (a1.1.length:Int)))]]⟩ ⟨(x3,-(gI a2.2 (a1.1.length:Int))),rfl,rfl,h⟩
    · replace h := h.2 (of_decide_eq_false hb)
      obtain ⟨o11,o12,h⟩ := h
      refine awp_skip (tc ((awp_spine (rc [6] [] [] [] ⟨62,[(6,.ref 0 0 0)],[.box [vi (-x3),vi (gI a2.2 (a1.1.length:Int))]]⟩ (pn o11 (pn o12 pe)) (tc ((awp_ret (tr (tr (tr (tr (tr (tr (?_))))))))))))))
      exact re hk (.agg (c_anon_struct_n_int_d_int (-x3,gI a2.2 (a1.1.length:Int)))) [.keep [6]] ⟨62,[(6,.ref 0 0 0)],[.box [vi (-x3),vi (gI a2.2 (a1.1.length:Int))]]⟩ ⟨(-x3,gI a2.2 (a1.1.length:Int)),rfl,rfl,h⟩
theorem ok_farkas_point_bound (a1 : farkas_point) (a2 : farkas_row) (a3:Int) (h : farkas_point_bound.pre a1 a2 a3) : OkC prog 60 [.agg (c_api_Lin a1),.agg (c_farkas_row a2),vi a3] (.agg (c_anon_struct_n_int_d_int (farkas_point_bound.fn a1 a2 a3))) :=
  OkC.of call_farkas_point_bound ((walk_farkas_point_bound a1 a2 a3 _ (farkas_point_bound.spec a1 a2 a3 h)).mono fun r o ⟨x,hr,ho,hx⟩ => ⟨by rw [hr,hx],ho⟩) rfl rfl (fun _ => rfl)

noncomputable abbrev b33 : Code := bodyOf Try.f33
theorem call_farkas_point_value : CallOk prog 33 := ⟨_,Try.func33,by kernel_rfl,by kernel_rfl⟩
theorem walk_farkas_point_value (a1 : farkas_point) (a2 : farkas_table) (Q : farkas_fraction → Prop) (h : farkas_point_value.wp a1 a2 Q) : VCalls prog 33 [.agg (c_api_Lin a1),.agg (c_farkas_table a2)] [] (fun r o => ∃ x,r = .agg (c_anon_struct_n_int_d_int x) ∧ o = [] ∧ Q x) := by
  refine body Try.func33 (spine (subC [0] b33) [(spine (subC [1,0] b33) [(spine (subC [1,1,0] b33) [(spine (subC [1,1,1,0,0] b33) [(.block 0 (.loop (spine (subC [1,1,1,0,1,0,0,0] b33) [(spine (.cond (.tmp 18) .skip (.exit 0)) [(spine (.block 1 (spine (subC [1,1,1,0,1,0,0,1,1,0,0,0] b33) [(spine (subC [1,1,1,0,1,0,0,1,1,0,0,1,0,0] b33) [(.cond (.tmp 26) (.exit 1) .skip),(spine (subC [1,1,1,0,1,0,0,1,1,0,0,1,1,0] b33) [(.block 2 (spine (subC [1,1,1,0,1,0,0,1,1,0,0,1,1,1,0,0] b33) [(.cond (.tmp 32) (spine (subC [1,1,1,0,1,0,0,1,1,0,0,1,1,1,0,1,0,0] b33) [.ret]) (spine (subC [1,1,1,0,1,0,0,1,1,0,0,1,1,1,0,1,1,0] b33) [(.cond (.tmp 36) (spine (subC [1,1,1,0,1,0,0,1,1,0,0,1,1,1,0,1,1,1,0,0] b33) [(.cond (.tmp 51) (subC [1,1,1,0,1,0,0,1,1,0,0,1,1,1,0,1,1,1,0,1,0] b33) .skip)]) (spine (subC [1,1,1,0,1,0,0,1,1,0,0,1,1,1,0,1,1,1,1,0] b33) [(.cond (.tmp 52) (subC [1,1,1,0,1,0,0,1,1,0,0,1,1,1,0,1,1,1,1,1,0] b33) .skip)]))]))]))])])])) [(subC [1,1,1,0,1,0,0,1,1,1] b33)])])]))),(spine (subC [1,1,1,1,0,0] b33) [(.cond (.tmp 64) (spine (subC [1,1,1,1,0,1,0,0] b33) [.ret]) .skip),(spine (subC [1,1,1,1,1,0,0] b33) [(.cond (.tmp 69) (spine (subC [1,1,1,1,1,0,1,0,0] b33) [.ret]) .skip),(spine (subC [1,1,1,1,1,1,0] b33) [.ret])])])])])])]) fun cx hd hi hk => ?_
  show AWp prog cx _ _ ⟨74,[(0,.agg (c_api_Lin a1)),(1,.agg (c_farkas_table a2))],[]⟩
  replace hk : cx.E.len = 0 := hk
  unfold farkas_point_value.wp at h
  refine awp_spine (rc [2,3,4] [] [] [0,1] ⟨74,[(2,.er (c_api_Lin a1)),(3,.er (c_farkas_table a2)),(4,.ref 0 0 0)],[.box [vi 0,vi 0]]⟩ (pe) (tc ((awp_spine (rc [2,3,4,5] [] [] [] ⟨74,[(2,.er (c_api_Lin a1)),(3,.er (c_farkas_table a2)),(4,.ref 0 0 0),(5,vi (a1.1.length:Int))],[.box [vi 0,vi 0]]⟩ (pe) (tc ((awp_len 2 [0] (T := tI) (l := a1.1) (by kernel_rfl) fun hl => ?_))))))))
  replace h := h hl
  refine awp_spine (rc [2,3,4,5,6,7] [] [] [] ⟨74,[(2,.er (c_api_Lin a1)),(3,.er (c_farkas_table a2)),(4,.ref 0 0 0),(5,vi (a1.1.length:Int)),(6,.nilp),(7,.nilp)],[.box [vi 0,vi 0]]⟩ (pe) (tc ((awp_spine (rc [2,3,4,5,6,7,15,16,17] [] [] [] ⟨74,[(2,.er (c_api_Lin a1)),(3,.er (c_farkas_table a2)),(4,.ref 0 0 0),(5,vi (a1.1.length:Int)),(6,.nilp),(7,.nilp),(15,.d (.sl t_farkas_row) a2.2),(16,vi (a2.2.length:Int)),(17,vi 0)],[.box [vi 0,vi 0]]⟩ (pe) (tc ((awp_len 3 [1] (T := t_farkas_row) (l := a2.2) (by kernel_rfl) fun hl => ?_))))))))
  replace h := h hl
  obtain ⟨I15,⟨n15a,hz15⟩,hI15⟩ := h
  refine awp_block (awp_loopN (fun n s => ∃ (x1 : Bool) (x2:Int) (x3:Int) (x4 : Bool) (x5:Int) (x6:Int) (x7:Int),I15 n x1 x2 x3 x4 x5 x6 x7 ∧ s = ⟨74,[(2,.er (c_api_Lin a1)),(3,.er (c_farkas_table a2)),(4,.ref 0 0 0),(5,vi (a1.1.length:Int)),(6,.opt x1 (.er [vi x2,vi x3])),(7,.opt x4 (.er [vi x5,vi x6])),(15,.d (.sl t_farkas_row) a2.2),(16,vi (a2.2.length:Int)),(17,vi x7)],[.box [vi 0,vi 0]]⟩) (n := n15a) (s0 := ⟨74,[(2,.er (c_api_Lin a1)),(3,.er (c_farkas_table a2)),(4,.ref 0 0 0),(5,vi (a1.1.length:Int)),(6,.opt false (.er [vi 0,vi 0])),(7,.opt false (.er [vi 0,vi 0])),(15,.d (.sl t_farkas_row) a2.2),(16,vi (a2.2.length:Int)),(17,vi 0)],[.box [vi 0,vi 0]]⟩) (wk_ghosts hk (l := [.keep [2,3,4,5,6,7,15,16,17],.optN 6 (.er [vi 0,vi 0]),.optN 7 (.er [vi 0,vi 0]),.keep [2,3,4,5,6,7,15,16,17]]) (by kernel_rfl)) ⟨false,(0:Int),(0:Int),false,(0:Int),(0:Int),0,hz15,rfl⟩ ?_)
  rintro n15 s ⟨x1,x2,x3,x4,x5,x6,x7,hx15,rfl⟩
  have h := hI15 n15 x1 x2 x3 x4 x5 x6 x7 hx15
  refine awp_spine (rc [2,3,4,5,6,7,15,16,17,18] [] [] [] ⟨74,[(2,.er (c_api_Lin a1)),(3,.er (c_farkas_table a2)),(4,.ref 0 0 0),(5,vi (a1.1.length:Int)),(6,.opt x1 (.er [vi x2,vi x3])),(7,.opt x4 (.er [vi x5,vi x6])),(15,.d (.sl t_farkas_row) a2.2),(16,vi (a2.2.length:Int)),(17,vi x7),(18,vb (decide (x7 < (a2.2.length:Int))))],[.box [vi 0,vi 0]]⟩ (pe) (tc ((awp_spine (awp_cond (b := decide (x7 < (a2.2.length:Int))) (by kernel_rfl) (fun hb => ?_) (fun hb => ?_))))))
  · replace h := h.1 (of_decide_eq_true hb)
    obtain ⟨o1,h⟩ := h
    refine awp_skip (tc ((awp_spine (awp_block (awp_spine (rc [2,3,4,5,6,7,9,15,16,17] [] [] [] ⟨74,[(2,.er (c_api_Lin a1)),(3,.er (c_farkas_table a2)),(4,.ref 0 0 0),(5,vi (a1.1.length:Int)),(6,.opt x1 (.er [vi x2,vi x3])),(7,.opt x4 (.er [vi x5,vi x6])),(9,.ref 1 0 0),(15,.d (.sl t_farkas_row) a2.2),(16,vi (a2.2.length:Int)),(17,vi x7)],[.box [vi 0,vi 0],.box (c_farkas_row (a2.2.getD (Int.toNat x7) d_farkas_row))]⟩ (pn o1 pe) (tc ((awp_abs (fun (x16 : farkas_row) => ⟨74,[(2,.er (c_api_Lin a1)),(3,.er (c_farkas_table a2)),(4,.ref 0 0 0),(5,vi (a1.1.length:Int)),(6,.opt x1 (.er [vi x2,vi x3])),(7,.opt x4 (.er [vi x5,vi x6])),(9,.ref 1 0 0),(15,.d (.sl t_farkas_row) a2.2),(16,vi (a2.2.length:Int)),(17,vi x7)],[.box [vi 0,vi 0],.box (c_farkas_row x16)]⟩) (a2.2.getD (Int.toNat x7) d_farkas_row) ?_)))))))))
    intro x16 hx16
    replace h := h x16 hx16
    obtain ⟨o2,h⟩ := h
    refine awp_spine (rc [2,3,4,5,6,7,9,15,16,17,26] [] [] [] ⟨74,[(2,.er (c_api_Lin a1)),(3,.er (c_farkas_table a2)),(4,.ref 0 0 0),(5,vi (a1.1.length:Int)),(6,.opt x1 (.er [vi x2,vi x3])),(7,.opt x4 (.er [vi x5,vi x6])),(9,.ref 1 0 0),(15,.d (.sl t_farkas_row) a2.2),(16,vi (a2.2.length:Int)),(17,vi x7),(26,vb ((gI x16.2 (a1.1.length:Int)) == (0:Int)))],[.box [vi 0,vi 0],.box (c_farkas_row x16)]⟩ (pn o2 pe) (tc ((awp_cond (b := (gI x16.2 (a1.1.length:Int)) == (0:Int)) (by kernel_rfl) (fun hb => ?_) (fun hb => ?_)))))
    · replace h := h.1 (eq_of_beq hb)
      obtain ⟨o3,h⟩ := h
      refine awp_exit (then_x (then_x (blk_h (tc ((rc [2,3,4,5,6,7,15,16,17] [] [] [] ⟨74,[(2,.er (c_api_Lin a1)),(3,.er (c_farkas_table a2)),(4,.ref 0 0 0),(5,vi (a1.1.length:Int)),(6,.opt x1 (.er [vi x2,vi x3])),(7,.opt x4 (.er [vi x5,vi x6])),(15,.d (.sl t_farkas_row) a2.2),(16,vi (a2.2.length:Int)),(17,vi (x7 + (1:Int)))],[.box [vi 0,vi 0],.box (c_farkas_row x16)]⟩ (pn o3 pe) (te ((te ((te ((then_n (?_))))))))))))))
      obtain ⟨m,hm,h⟩ := h
      exact ⟨m,hm,⟨74,[(2,.er (c_api_Lin a1)),(3,.er (c_farkas_table a2)),(4,.ref 0 0 0),(5,vi (a1.1.length:Int)),(6,.opt x1 (.er [vi x2,vi x3])),(7,.opt x4 (.er [vi x5,vi x6])),(15,.d (.sl t_farkas_row) a2.2),(16,vi (a2.2.length:Int)),(17,vi (x7 + (1:Int)))],[.box [vi 0,vi 0]]⟩,wk_ghosts hk (l := [.keep [2,3,4,5,6,7,15,16,17],.cut 1,.keep [2,3,4,5,6,7,15,16,17]]) (by kernel_rfl),x1,x2,x3,x4,x5,x6,x7 + (1:Int),h,rfl⟩
    · replace h := h.2 (ne_of_beq_false hb)
      obtain ⟨o4,h⟩ := h
      refine awp_skip (tc ((awp_spine (rc [2,3,4,5,6,7,9,10,15,16,17] [] [(4,.dat (.agg (c_anon_struct_n_int_d_int (farkas_point_bound.fn a1 x16 a2.1))))] [] ⟨74,[(2,.er (c_api_Lin a1)),(3,.er (c_farkas_table a2)),(4,.ref 0 0 0),(5,vi (a1.1.length:Int)),(6,.opt x1 (.er [vi x2,vi x3])),(7,.opt x4 (.er [vi x5,vi x6])),(9,.ref 1 0 0),(10,.ref 2 0 0),(15,.d (.sl t_farkas_row) a2.2),(16,vi (a2.2.length:Int)),(17,vi x7)],[.box [vi 0,vi 0],.box (c_farkas_row x16),.box (c_anon_struct_n_int_d_int (farkas_point_bound.fn a1 x16 a2.1))]⟩ (pn (ok_farkas_point_bound a1 x16 a2.1 (o4)) pe) (tc ((awp_abs (fun (x17 : farkas_fraction) => ⟨74,[(2,.er (c_api_Lin a1)),(3,.er (c_farkas_table a2)),(4,.ref 0 0 0),(5,vi (a1.1.length:Int)),(6,.opt x1 (.er [vi x2,vi x3])),(7,.opt x4 (.er [vi x5,vi x6])),(9,.ref 1 0 0),(10,.ref 2 0 0),(15,.d (.sl t_farkas_row) a2.2),(16,vi (a2.2.length:Int)),(17,vi x7)],[.box [vi 0,vi 0],.box (c_farkas_row x16),.box (c_anon_struct_n_int_d_int x17)]⟩) (farkas_point_bound.fn a1 x16 a2.1) ?_)))))))
      intro x17 hx17
      replace h := h x17 hx17
      refine awp_abs (fun (x18:Int) => ⟨74,[(2,.er (c_api_Lin a1)),(3,.er (c_farkas_table a2)),(4,.ref 0 0 0),(5,vi (a1.1.length:Int)),(6,.opt x1 (.er [vi x2,vi x3])),(7,.opt x4 (.er [vi x5,vi x6])),(9,.ref 1 0 0),(10,.ref 2 0 0),(15,.d (.sl t_farkas_row) a2.2),(16,vi (a2.2.length:Int)),(17,vi x7)],[.box [vi 0,vi 0],.box (c_farkas_row x16),.box [vi x18,vi x17.2]]⟩) (x17.1) ?_
      intro x18 hx18
      replace h := h x18 hx18
      refine awp_abs (fun (x19:Int) => ⟨74,[(2,.er (c_api_Lin a1)),(3,.er (c_farkas_table a2)),(4,.ref 0 0 0),(5,vi (a1.1.length:Int)),(6,.opt x1 (.er [vi x2,vi x3])),(7,.opt x4 (.er [vi x5,vi x6])),(9,.ref 1 0 0),(10,.ref 2 0 0),(15,.d (.sl t_farkas_row) a2.2),(16,vi (a2.2.length:Int)),(17,vi x7)],[.box [vi 0,vi 0],.box (c_farkas_row x16),.box [vi x18,vi x19]]⟩) (x17.2) ?_
      intro x19 hx19
      replace h := h x19 hx19
      refine awp_block (awp_spine (rc [2,3,4,5,6,7,9,10,15,16,17,32] [] [] [] ⟨74,[(2,.er (c_api_Lin a1)),(3,.er (c_farkas_table a2)),(4,.ref 0 0 0),(5,vi (a1.1.length:Int)),(6,.opt x1 (.er [vi x2,vi x3])),(7,.opt x4 (.er [vi x5,vi x6])),(9,.ref 1 0 0),(10,.ref 2 0 0),(15,.d (.sl t_farkas_row) a2.2),(16,vi (a2.2.length:Int)),(17,vi x7),(32,vb x16.1)],[.box [vi 0,vi 0],.box (c_farkas_row x16),.box [vi x18,vi x19]]⟩ (pe) (tc ((awp_cond (b := x16.1) (by kernel_rfl) (fun hb => ?_) (fun hb => ?_))))))
      · replace h := h.1 (hb)
        refine awp_spine (rc [4] [] [] [] ⟨74,[(4,.ref 0 0 0)],[.box [vi x18,vi x19],.box (c_farkas_row x16),.box [vi x18,vi x19]]⟩ (pe) (tc ((awp_ret (tr (tr (blk_r (tr (tr (tr (blk_r (tr (tr (tr (tr (blk_r (tr (tr (tr (tr (?_)))))))))))))))))))))
        exact re hk (.agg (c_anon_struct_n_int_d_int (x18,x19))) [.keep [4]] ⟨74,[(4,.ref 0 0 0)],[.box [vi x18,vi x19],.box (c_farkas_row x16),.box [vi x18,vi x19]]⟩ ⟨(x18,x19),rfl,rfl,h⟩
      · replace h := h.2 (hb)
        obtain ⟨o5,h⟩ := h
        refine awp_spine (rc [2,3,4,5,6,7,10,15,16,17,36] [] [] [] ⟨74,[(2,.er (c_api_Lin a1)),(3,.er (c_farkas_table a2)),(4,.ref 0 0 0),(5,vi (a1.1.length:Int)),(6,.opt x1 (.er [vi x2,vi x3])),(7,.opt x4 (.er [vi x5,vi x6])),(10,.ref 2 0 0),(15,.d (.sl t_farkas_row) a2.2),(16,vi (a2.2.length:Int)),(17,vi x7),(36,vb (decide ((gI x16.2 (a1.1.length:Int)) > (0:Int))))],[.box [vi 0,vi 0],.box (c_farkas_row x16),.box [vi x18,vi x19]]⟩ (pn o5 pe) (tc ((awp_cond (b := decide ((gI x16.2 (a1.1.length:Int)) > (0:Int))) (by kernel_rfl) (fun hb => ?_) (fun hb => ?_)))))
        · replace h := h.1 (of_decide_eq_true hb)
          obtain ⟨o6,h⟩ := h
          refine awp_spine (dr hk [2,3,4,5,6,7,10,15,16,17,51] [] [7] [] ⟨[[],[0],[0,1],[0,1,2],[0,1,2,3],(lr 5),[0,1,2],(lr 7),(lr 8)],[.opt x1 (.er [vi x2,vi x3]),vb (!x1),vb (!x1),.when (!(!x1)) (.opt x1 (.er [vi x2,vi x3])),.when (!(!x1)) (.er [vi x2,vi x3]),.when (!(!x1)) (.agg [vi x2,vi x3]),.when (!(!x1)) (.agg [vi x18,vi x19]),.when (!(!x1)) (vb (farkas_fraction_less.fn (x2,x3) (x18,x19))),vb ((!x1) || (farkas_fraction_less.fn (x2,x3) (x18,x19)))],_,[],[([],[.box [vi 0,vi 0],.box (c_farkas_row x16),.box [vi x18,vi x19]])],[],[]⟩ ⟨74,[(2,.er (c_api_Lin a1)),(3,.er (c_farkas_table a2)),(4,.ref 0 0 0),(5,vi (a1.1.length:Int)),(6,.opt x1 (.er [vi x2,vi x3])),(7,.opt x4 (.er [vi x5,vi x6])),(10,.ref 2 0 0),(15,.d (.sl t_farkas_row) a2.2),(16,vi (a2.2.length:Int)),(17,vi x7),(51,vb ((!x1) || (farkas_fraction_less.fn (x2,x3) (x18,x19))))],[.box [vi 0,vi 0],.box (c_farkas_row x16),.box [vi x18,vi x19]]⟩ (.n (.n (.n (.n (.s (fun hg => ⟨hg,nn hg⟩ : (!(!x1)) = true → (!(!x1)) = true ∧ (x1 = true)) (.s (fun hg => ⟨hg,trivial⟩ : (!(!x1)) = true → (!(!x1)) = true ∧ True) (.n (.s (fun hg => ⟨hg,hg,ok_farkas_fraction_less (x2,x3) (x18,x19) ((o6 hg))⟩ : (!(!x1)) = true → (!(!x1)) = true ∧ ((!(!x1)) = true ∧ (OkC prog 61 [.agg [vi x2,vi x3],.agg [vi x18,vi x19]] (vb (farkas_fraction_less.fn (x2,x3) (x18,x19)))))) (.s (fun hc => not_f hc : (!x1) = false → (!(!x1)) = true) AllO.e))))))))) (tc ((awp_cond (b := (!x1) || (farkas_fraction_less.fn (x2,x3) (x18,x19))) (by kernel_rfl) (fun hb => ?_) (fun hb => ?_)))))
          · replace h := h.1 (hb)
            obtain ⟨o7,h⟩ := h
            refine rc [2,3,4,5,6,7,15,16,17] [] [] [] ⟨74,[(2,.er (c_api_Lin a1)),(3,.er (c_farkas_table a2)),(4,.ref 0 0 0),(5,vi (a1.1.length:Int)),(6,.ref 2 0 0),(7,.opt x4 (.er [vi x5,vi x6])),(15,.d (.sl t_farkas_row) a2.2),(16,vi (a2.2.length:Int)),(17,vi x7)],[.box [vi 0,vi 0],.box (c_farkas_row x16),.box [vi x18,vi x19]]⟩ (pe) (te ((te ((te ((blk_n (te ((te ((te ((blk_n (tc ((rc [2,3,4,5,6,7,15,16,17] [] [] [] ⟨74,[(2,.er (c_api_Lin a1)),(3,.er (c_farkas_table a2)),(4,.ref 0 0 0),(5,vi (a1.1.length:Int)),(6,.ref 2 0 0),(7,.opt x4 (.er [vi x5,vi x6])),(15,.d (.sl t_farkas_row) a2.2),(16,vi (a2.2.length:Int)),(17,vi (x7 + (1:Int)))],[.box [vi 0,vi 0],.box (c_farkas_row x16),.box [vi x18,vi x19]]⟩ (pn o7 pe) (te ((te ((te ((then_n (?_)))))))))))))))))))))))))
            obtain ⟨m,hm,h⟩ := h
            exact ⟨m,hm,⟨74,[(2,.er (c_api_Lin a1)),(3,.er (c_farkas_table a2)),(4,.ref 0 0 0),(5,vi (a1.1.length:Int)),(6,.opt true (.er [vi x18,vi x19])),(7,.opt x4 (.er [vi x5,vi x6])),(15,.d (.sl t_farkas_row) a2.2),(16,vi (a2.2.length:Int)),(17,vi (x7 + (1:Int)))],[.box [vi 0,vi 0]]⟩,wk_ghosts hk (l := [.keep [2,3,4,5,6,7,15,16,17],.freeze 2,.optS 6,.keep [2,3,4,5,6,7,15,16,17],.cut 1,.keep [2,3,4,5,6,7,15,16,17]]) (by kernel_rfl),true,x18,x19,x4,x5,x6,x7 + (1:Int),h,rfl⟩
          · replace h := h.2 (hb)
            obtain ⟨o8,h⟩ := h
            refine awp_skip (te ((te ((te ((blk_n (te ((te ((te ((blk_n (tc ((rc [2,3,4,5,6,7,15,16,17] [] [] [] ⟨74,[(2,.er (c_api_Lin a1)),(3,.er (c_farkas_table a2)),(4,.ref 0 0 0),(5,vi (a1.1.length:Int)),(6,.opt x1 (.er [vi x2,vi x3])),(7,.opt x4 (.er [vi x5,vi x6])),(15,.d (.sl t_farkas_row) a2.2),(16,vi (a2.2.length:Int)),(17,vi (x7 + (1:Int)))],[.box [vi 0,vi 0],.box (c_farkas_row x16),.box [vi x18,vi x19]]⟩ (pn o8 pe) (te ((te ((te ((then_n (?_)))))))))))))))))))))))))
            obtain ⟨m,hm,h⟩ := h
            exact ⟨m,hm,⟨74,[(2,.er (c_api_Lin a1)),(3,.er (c_farkas_table a2)),(4,.ref 0 0 0),(5,vi (a1.1.length:Int)),(6,.opt x1 (.er [vi x2,vi x3])),(7,.opt x4 (.er [vi x5,vi x6])),(15,.d (.sl t_farkas_row) a2.2),(16,vi (a2.2.length:Int)),(17,vi (x7 + (1:Int)))],[.box [vi 0,vi 0]]⟩,wk_ghosts hk (l := [.keep [2,3,4,5,6,7,15,16,17],.cut 1,.keep [2,3,4,5,6,7,15,16,17]]) (by kernel_rfl),x1,x2,x3,x4,x5,x6,x7 + (1:Int),h,rfl⟩
        · replace h := h.2 (of_decide_eq_false hb)
          obtain ⟨o9,h⟩ := h
          refine awp_spine (dr hk [2,3,4,5,6,7,10,15,16,17,52] [] [7] [] ⟨[[],[0],[0,1],[0,1,2],[0,1,2],[0,1,2,4],[0,1,2,4,5],(lr 7),(lr 8),(lr 9)],[.opt x4 (.er [vi x5,vi x6]),vb (!x4),vb (!x4),.when (!(!x4)) (.agg [vi x18,vi x19]),.when (!(!x4)) (.opt x4 (.er [vi x5,vi x6])),.when (!(!x4)) (.er [vi x5,vi x6]),.when (!(!x4)) (.agg [vi x5,vi x6]),.when (!(!x4)) (vb (farkas_fraction_less.fn (x18,x19) (x5,x6))),vb ((!x4) || (farkas_fraction_less.fn (x18,x19) (x5,x6))),vb ((!x4) || (farkas_fraction_less.fn (x18,x19) (x5,x6)))],_,[],[([],[.box [vi 0,vi 0],.box (c_farkas_row x16),.box [vi x18,vi x19]])],[],[]⟩ ⟨74,[(2,.er (c_api_Lin a1)),(3,.er (c_farkas_table a2)),(4,.ref 0 0 0),(5,vi (a1.1.length:Int)),(6,.opt x1 (.er [vi x2,vi x3])),(7,.opt x4 (.er [vi x5,vi x6])),(10,.ref 2 0 0),(15,.d (.sl t_farkas_row) a2.2),(16,vi (a2.2.length:Int)),(17,vi x7),(52,vb ((!x4) || (farkas_fraction_less.fn (x18,x19) (x5,x6))))],[.box [vi 0,vi 0],.box (c_farkas_row x16),.box [vi x18,vi x19]]⟩ (.n (.n (.n (.n (.n (.s (fun hg => ⟨hg,nn hg⟩ : (!(!x4)) = true → (!(!x4)) = true ∧ (x4 = true)) (.s (fun hg => ⟨hg,trivial⟩ : (!(!x4)) = true → (!(!x4)) = true ∧ True) (.s (fun hg => ⟨hg,hg,ok_farkas_fraction_less (x18,x19) (x5,x6) ((o9 hg))⟩ : (!(!x4)) = true → (!(!x4)) = true ∧ ((!(!x4)) = true ∧ (OkC prog 61 [.agg [vi x18,vi x19],.agg [vi x5,vi x6]] (vb (farkas_fraction_less.fn (x18,x19) (x5,x6)))))) (.s (fun hc => not_f hc : (!x4) = false → (!(!x4)) = true) (.n AllO.e)))))))))) (tc ((awp_cond (b := (!x4) || (farkas_fraction_less.fn (x18,x19) (x5,x6))) (by kernel_rfl) (fun hb => ?_) (fun hb => ?_)))))
          · replace h := h.1 (hb)
            obtain ⟨o10,h⟩ := h
            refine rc [2,3,4,5,6,7,15,16,17] [] [] [] ⟨74,[(2,.er (c_api_Lin a1)),(3,.er (c_farkas_table a2)),(4,.ref 0 0 0),(5,vi (a1.1.length:Int)),(6,.opt x1 (.er [vi x2,vi x3])),(7,.ref 2 0 0),(15,.d (.sl t_farkas_row) a2.2),(16,vi (a2.2.length:Int)),(17,vi x7)],[.box [vi 0,vi 0],.box (c_farkas_row x16),.box [vi x18,vi x19]]⟩ (pe) (te ((te ((te ((blk_n (te ((te ((te ((blk_n (tc ((rc [2,3,4,5,6,7,15,16,17] [] [] [] ⟨74,[(2,.er (c_api_Lin a1)),(3,.er (c_farkas_table a2)),(4,.ref 0 0 0),(5,vi (a1.1.length:Int)),(6,.opt x1 (.er [vi x2,vi x3])),(7,.ref 2 0 0),(15,.d (.sl t_farkas_row) a2.2),(16,vi (a2.2.length:Int)),(17,vi (x7 + (1:Int)))],[.box [vi 0,vi 0],.box (c_farkas_row x16),.box [vi x18,vi x19]]⟩ (pn o10 pe) (te ((te ((te ((then_n (?_)))))))))))))))))))))))))
            obtain ⟨m,hm,h⟩ := h
            exact ⟨m,hm,⟨74,[(2,.er (c_api_Lin a1)),(3,.er (c_farkas_table a2)),(4,.ref 0 0 0),(5,vi (a1.1.length:Int)),(6,.opt x1 (.er [vi x2,vi x3])),(7,.opt true (.er [vi x18,vi x19])),(15,.d (.sl t_farkas_row) a2.2),(16,vi (a2.2.length:Int)),(17,vi (x7 + (1:Int)))],[.box [vi 0,vi 0]]⟩,wk_ghosts hk (l := [.keep [2,3,4,5,6,7,15,16,17],.freeze 2,.optS 7,.keep [2,3,4,5,6,7,15,16,17],.cut 1,.keep [2,3,4,5,6,7,15,16,17]]) (by kernel_rfl),x1,x2,x3,true,x18,x19,x7 + (1:Int),h,rfl⟩
          · replace h := h.2 (hb)
            obtain ⟨o11,h⟩ := h
            refine awp_skip (te ((te ((te ((blk_n (te ((te ((te ((blk_n (tc ((rc [2,3,4,5,6,7,15,16,17] [] [] [] ⟨74,[(2,.er (c_api_Lin a1)),(3,.er (c_farkas_table a2)),(4,.ref 0 0 0),(5,vi (a1.1.length:Int)),(6,.opt x1 (.er [vi x2,vi x3])),(7,.opt x4 (.er [vi x5,vi x6])),(15,.d (.sl t_farkas_row) a2.2),(16,vi (a2.2.length:Int)),(17,vi (x7 + (1:Int)))],[.box [vi 0,vi 0],.box (c_farkas_row x16),.box [vi x18,vi x19]]⟩ (pn o11 pe) (te ((te ((te ((then_n (?_)))))))))))))))))))))))))
            obtain ⟨m,hm,h⟩ := h
            exact ⟨m,hm,⟨74,[(2,.er (c_api_Lin a1)),(3,.er (c_farkas_table a2)),(4,.ref 0 0 0),(5,vi (a1.1.length:Int)),(6,.opt x1 (.er [vi x2,vi x3])),(7,.opt x4 (.er [vi x5,vi x6])),(15,.d (.sl t_farkas_row) a2.2),(16,vi (a2.2.length:Int)),(17,vi (x7 + (1:Int)))],[.box [vi 0,vi 0]]⟩,wk_ghosts hk (l := [.keep [2,3,4,5,6,7,15,16,17],.cut 1,.keep [2,3,4,5,6,7,15,16,17]]) (by kernel_rfl),x1,x2,x3,x4,x5,x6,x7 + (1:Int),h,rfl⟩
  · replace h := h.2 (of_decide_eq_false hb)
    refine awp_exit (then_x (then_x (then_x (blk_h (tc ((awp_spine (rc [4,6,7,64] [] [] [] ⟨74,[(4,.ref 0 0 0),(6,.opt x1 (.er [vi x2,vi x3])),(7,.opt x4 (.er [vi x5,vi x6])),(64,vb (!(!x1)))],[.box [vi 0,vi 0]]⟩ (pe) (tc ((awp_cond (b := !(!x1)) (by kernel_rfl) (fun hb => ?_) (fun hb => ?_))))))))))))
    · replace h := h.1 ((nf (nt hb)))
      obtain ⟨o12,h⟩ := h
      refine awp_spine (rc [4] [] [] [] ⟨74,[(4,.ref 0 0 0)],[.box [vi x2,vi x3]]⟩ (pn o12 pe) (tc ((awp_ret (tr (tr (tr (tr (tr (tr (?_)))))))))))
      exact re hk (.agg (c_anon_struct_n_int_d_int (x2,x3))) [.keep [4]] ⟨74,[(4,.ref 0 0 0)],[.box [vi x2,vi x3]]⟩ ⟨(x2,x3),rfl,rfl,h⟩
    · replace h := h.2 ((nt (nf hb)))
      refine awp_skip (tc ((awp_spine (rc [4,7,69] [] [] [] ⟨74,[(4,.ref 0 0 0),(7,.opt x4 (.er [vi x5,vi x6])),(69,vb (!(!x4)))],[.box [vi 0,vi 0]]⟩ (pe) (tc ((awp_cond (b := !(!x4)) (by kernel_rfl) (fun hb => ?_) (fun hb => ?_))))))))
      · replace h := h.1 ((nf (nt hb)))
        obtain ⟨o13,h⟩ := h
        refine awp_spine (rc [4] [] [] [] ⟨74,[(4,.ref 0 0 0)],[.box [vi x5,vi x6]]⟩ (pn o13 pe) (tc ((awp_ret (tr (tr (tr (tr (tr (tr (tr (?_))))))))))))
        exact re hk (.agg (c_anon_struct_n_int_d_int (x5,x6))) [.keep [4]] ⟨74,[(4,.ref 0 0 0)],[.box [vi x5,vi x6]]⟩ ⟨(x5,x6),rfl,rfl,h⟩
      · replace h := h.2 ((nt (nf hb)))
        refine awp_skip (tc ((awp_spine (rc [4] [] [] [] ⟨74,[(4,.ref 0 0 0)],[.box [vi 0,vi (1:Int)]]⟩ (pe) (tc ((awp_ret (tr (tr (tr (tr (tr (tr (tr (?_)))))))))))))))
        exact re hk (.agg (c_anon_struct_n_int_d_int (0,1))) [.keep [4]] ⟨74,[(4,.ref 0 0 0)],[.box [vi 0,vi (1:Int)]]⟩ ⟨(0,1),rfl,rfl,h⟩
theorem ok_farkas_point_value (a1 : farkas_point) (a2 : farkas_table) (h : farkas_point_value.pre a1 a2) : OkC prog 33 [.agg (c_api_Lin a1),.agg (c_farkas_table a2)] (.agg (c_anon_struct_n_int_d_int (farkas_point_value.fn a1 a2))) :=
  OkC.of call_farkas_point_value ((walk_farkas_point_value a1 a2 _ (farkas_point_value.spec a1 a2 h)).mono fun r o ⟨x,hr,ho,hx⟩ => ⟨by rw [hr,hx],ho⟩) rfl rfl (fun _ => rfl)

noncomputable abbrev b32 : Code := bodyOf Try.f32
theorem call_farkas_point_with : CallOk prog 32 := ⟨_,Try.func32,by kernel_rfl,by kernel_rfl⟩
theorem walk_farkas_point_with (a1 : farkas_point) (a2 : farkas_fraction) (Q : farkas_point × Int → Prop) (h : farkas_point_with.wp a1 a2 Q) : VCalls prog 32 [.agg (c_api_Lin a1),.agg (c_anon_struct_n_int_d_int a2)] [] (fun r o => ∃ x,r = .tup [.agg (c_api_Lin x.1),vi x.2] ∧ o = [] ∧ Q x) := by
  refine body Try.func32 (spine (subC [0] b32) [(spine (subC [1,0] b32) [(spine (subC [1,1,0] b32) [(spine (subC [1,1,1,0] b32) [(spine (subC [1,1,1,1,0] b32) [(spine (subC [1,1,1,1,1,0,0] b32) [(.cond (.tmp 60) (spine (subC [1,1,1,1,1,0,1,0,0] b32) [.ret]) .skip),(spine (subC [1,1,1,1,1,1,0] b32) [(spine (subC [1,1,1,1,1,1,1,0] b32) [(spine (subC [1,1,1,1,1,1,1,1,0] b32) [(spine (subC [1,1,1,1,1,1,1,1,1,0,0] b32) [(.cond (.tmp 80) (spine (subC [1,1,1,1,1,1,1,1,1,0,1,0,0] b32) [.ret]) .skip),(spine (subC [1,1,1,1,1,1,1,1,1,1,0] b32) [(spine (subC [1,1,1,1,1,1,1,1,1,1,1,0,0] b32) [(.block 0 (.loop (spine (subC [1,1,1,1,1,1,1,1,1,1,1,0,1,0,0,0] b32) [(spine (.cond (.tmp 88) .skip (.exit 0)) [(spine (.block 1 (spine (subC [1,1,1,1,1,1,1,1,1,1,1,0,1,0,0,1,1,0,0,0] b32) [(subC [1,1,1,1,1,1,1,1,1,1,1,0,1,0,0,1,1,0,0,1] b32)])) [(subC [1,1,1,1,1,1,1,1,1,1,1,0,1,0,0,1,1,1] b32)])])]))),(spine (subC [1,1,1,1,1,1,1,1,1,1,1,1,0,0] b32) [(.cond (.tmp 108) (spine (subC [1,1,1,1,1,1,1,1,1,1,1,1,0,1,0,0] b32) [.ret]) .skip),(spine (subC [1,1,1,1,1,1,1,1,1,1,1,1,1,0] b32) [(spine (subC [1,1,1,1,1,1,1,1,1,1,1,1,1,1,0,0] b32) [(.block 2 (.loop (spine (subC [1,1,1,1,1,1,1,1,1,1,1,1,1,1,0,1,0,0,0] b32) [(spine (.cond (.tmp 124) .skip (.exit 2)) [(spine (.block 3 (spine (subC [1,1,1,1,1,1,1,1,1,1,1,1,1,1,0,1,0,0,1,1,0,0,0] b32) [(spine (subC [1,1,1,1,1,1,1,1,1,1,1,1,1,1,0,1,0,0,1,1,0,0,1,0] b32) [(.cond (.tmp 132) (spine (subC [1,1,1,1,1,1,1,1,1,1,1,1,1,1,0,1,0,0,1,1,0,0,1,1,0,0] b32) [.ret]) .skip)])])) [(subC [1,1,1,1,1,1,1,1,1,1,1,1,1,1,0,1,0,0,1,1,1] b32)])])]))),(spine (subC [1,1,1,1,1,1,1,1,1,1,1,1,1,1,1,0] b32) [.ret])])])])])])])])])])])])])])])]) fun cx hd hi hk => ?_
  show AWp prog cx _ _ ⟨136,[(0,.agg (c_api_Lin a1)),(1,.agg (c_anon_struct_n_int_d_int a2))],[]⟩
  replace hk : cx.E.len = 0 := hk
  unfold farkas_point_with.wp at h
  obtain ⟨o1,h⟩ := h
  refine awp_spine (rc [2,3,4] [] [] [0,1] ⟨136,[(2,.er (c_api_Lin a1)),(3,.er (c_anon_struct_n_int_d_int a2)),(4,.ref 0 0 0)],[.box [.nils,vi 0]]⟩ (pe) (tc ((awp_spine (rc [2,3,4,6] [] [(5,.dat (.tup [vi ((num_Gcd.fn [a2.1,a2.2]).1),vi ((num_Gcd.fn [a2.1,a2.2]).2)]))] [4] ⟨136,[(2,.er (c_api_Lin a1)),(3,.er (c_anon_struct_n_int_d_int a2)),(4,.ref 0 0 0),(6,vi ((num_Gcd.fn [a2.1,a2.2]).1))],[.box [.nils,vi 0]]⟩ (pn (by decide : 2 * 1 ≤ 16777216) (pn (ok_num_Gcd [a2.1,a2.2] (o1)) pe)) (tc ((awp_abs (fun (x1 : Int × Int) => ⟨136,[(2,.er (c_api_Lin a1)),(3,.er (c_anon_struct_n_int_d_int a2)),(4,.ref 0 0 0),(6,vi x1.1)],[.box [.nils,vi 0]]⟩) (num_Gcd.fn [a2.1,a2.2]) ?_))))))))
  intro x1 hx1
  replace h := h x1 hx1
  obtain ⟨o2,o3,h⟩ := h
  obtain ⟨o4,h⟩ := h
  refine awp_spine (dr hk [2,4,8,9] [] [] [] ⟨[[],[0],[],[0,1,2],[],[4],[],[4,5,6],[0,1,2,3],(lr 9)],[.er (c_anon_struct_n_int_d_int a2),vi a2.1,vi x1.1,vi (Int.tdiv a2.1 x1.1),.er [vi a2.2],vi a2.2,vi x1.1,vi (Int.tdiv a2.2 x1.1),vi (Int.tdiv a2.1 x1.1),vi (Int.tdiv a2.2 x1.1)],_,[],[([],[.box [.nils,vi 0]])],[],[]⟩ ⟨136,[(2,.er (c_api_Lin a1)),(4,.ref 0 0 0),(8,vi (Int.tdiv a2.1 x1.1)),(9,vi (Int.tdiv a2.2 x1.1))],[.box [.nils,vi 0]]⟩ (.n (.n (.n (.s o2 (.n (.n (.n (.s o3 (.n (.n AllO.e)))))))))) (tc ((awp_spine (rc [2,4,8,9,10] [] [(4,.dat (.tup [vi ((num_Gcd.fn [Int.tdiv a2.1 x1.1,a1.2]).1),vi ((num_Gcd.fn [Int.tdiv a2.1 x1.1,a1.2]).2)]))] [3] ⟨136,[(2,.er (c_api_Lin a1)),(4,.ref 0 0 0),(8,vi (Int.tdiv a2.1 x1.1)),(9,vi (Int.tdiv a2.2 x1.1)),(10,vi ((num_Gcd.fn [Int.tdiv a2.1 x1.1,a1.2]).1))],[.box [.nils,vi 0]]⟩ (pn (by decide : 2 * 1 ≤ 16777216) (pn (ok_num_Gcd [Int.tdiv a2.1 x1.1,a1.2] (o4)) pe)) (tc ((awp_abs (fun (x2 : Int × Int) => ⟨136,[(2,.er (c_api_Lin a1)),(4,.ref 0 0 0),(8,vi (Int.tdiv a2.1 x1.1)),(9,vi (Int.tdiv a2.2 x1.1)),(10,vi x2.1)],[.box [.nils,vi 0]]⟩) (num_Gcd.fn [Int.tdiv a2.1 x1.1,a1.2]) ?_))))))))
  intro x2 hx2
  replace h := h x2 hx2
  refine awp_abs (fun (x3:Int) => ⟨136,[(2,.er (c_api_Lin a1)),(4,.ref 0 0 0),(8,vi (Int.tdiv a2.1 x1.1)),(9,vi (Int.tdiv a2.2 x1.1)),(10,vi x3)],[.box [.nils,vi 0]]⟩) (x2.1) ?_
  intro x3 hx3
  replace h := h x3 hx3
  obtain ⟨o5,o6,h⟩ := h
  refine awp_spine (dr hk [2,4,8,9,12] [] [] [] ⟨[[],[],[0,1],[],[3],[],[3,4,5],[0,1,2],(lr 8)],[vi (Int.tdiv a2.1 x1.1),vi x3,vi (Int.tdiv (Int.tdiv a2.1 x1.1) x3),.er [vi a1.2],vi a1.2,vi x3,vi (Int.tdiv a1.2 x3),vi (Int.tdiv (Int.tdiv a2.1 x1.1) x3),vi (Int.tdiv a1.2 x3)],_,[],[([],[.box [.nils,vi 0]])],[],[]⟩ ⟨136,[(2,.er (c_api_Lin a1)),(4,.ref 0 0 0),(8,vi (Int.tdiv (Int.tdiv a2.1 x1.1) x3)),(9,vi (Int.tdiv a2.2 x1.1)),(12,vi (Int.tdiv a1.2 x3))],[.box [.nils,vi 0]]⟩ (.n (.n (.s o5 (.n (.n (.n (.s o6 (.n (.n AllO.e))))))))) (tc ((awp_abs (fun (x4:Int) => ⟨136,[(2,.er (c_api_Lin a1)),(4,.ref 0 0 0),(8,vi x4),(9,vi (Int.tdiv a2.2 x1.1)),(12,vi (Int.tdiv a1.2 x3))],[.box [.nils,vi 0]]⟩) (Int.tdiv (Int.tdiv a2.1 x1.1) x3) ?_))))
  intro x4 hx4
  replace h := h x4 hx4
  obtain ⟨o7,h⟩ := h
  refine awp_spine (rc [2,4,8,9,12,60] [] [] [] ⟨136,[(2,.er (c_api_Lin a1)),(4,.ref 0 0 0),(8,vi x4),(9,vi (Int.tdiv a2.2 x1.1)),(12,vi (Int.tdiv a1.2 x3)),(60,vb ((decide ((Int.tdiv a2.2 x1.1) > (268435456:Int))) || (decide (((Int.tdiv a1.2 x3) * (Int.tdiv a2.2 x1.1)) > (268435456:Int)))))],[.box [.nils,vi 0]]⟩ (pn (fun hg => ⟨hg,hg,(o7 hg)⟩ : (!(decide ((Int.tdiv a2.2 x1.1) > (268435456:Int)))) = true → (!(decide ((Int.tdiv a2.2 x1.1) > (268435456:Int)))) = true ∧ ((!(decide ((Int.tdiv a2.2 x1.1) > (268435456:Int)))) = true ∧ (-9223372036854775808 ≤ (Int.tdiv a1.2 x3) * (Int.tdiv a2.2 x1.1) ∧ (Int.tdiv a1.2 x3) * (Int.tdiv a2.2 x1.1) ≤ 9223372036854775807))) (pn (fun hg => ⟨hg,trivial⟩ : (!(decide ((Int.tdiv a2.2 x1.1) > (268435456:Int)))) = true → (!(decide ((Int.tdiv a2.2 x1.1) > (268435456:Int)))) = true ∧ True) (pn (fun hc => not_f hc : (decide ((Int.tdiv a2.2 x1.1) > (268435456:Int))) = false → (!(decide ((Int.tdiv a2.2 x1.1) > (268435456:Int)))) = true) pe))) (tc ((awp_cond (b := (decide ((Int.tdiv a2.2 x1.1) > (268435456:Int))) || (decide (((Int.tdiv a1.2 x3) * (Int.tdiv a2.2 x1.1)) > (268435456:Int)))) (by kernel_rfl) (fun hb => ?_) (fun hb => ?_)))))
  · replace h := h.1 (hb)
    refine awp_spine (rc [4,5] [] [] [] ⟨136,[(4,.ref 0 0 0),(5,vi (3:Int))],[.box [.nils,vi 0]]⟩ (pe) (tc ((awp_ret (tr (tr (tr (tr (tr (tr (tr (?_))))))))))))
    exact re hk (.tup [.agg (c_api_Lin (((([] : List Int),0),3).1)),vi (((([] : List Int),0),3).2)]) [.keep [4,5],.nilBox 0 [0] tI,.keep [4,5]] ⟨136,[(4,.ref 0 0 0),(5,vi (3:Int))],[.box [vs ([] : List Int),vi 0]]⟩ ⟨((([] : List Int),0),3),rfl,rfl,h⟩
  · replace h := h.2 (hb)
    obtain ⟨o8,h⟩ := h
    refine awp_skip (tc ((awp_spine (rc [2,4,8,12] [] [] [] ⟨136,[(2,.er (c_api_Lin a1)),(4,.ref 0 0 0),(8,vi x4),(12,vi ((Int.tdiv a1.2 x3) * (Int.tdiv a2.2 x1.1)))],[.box [.nils,vi 0]]⟩ (pn o8 pe) (tc ((awp_abs (fun (x5:Int) => ⟨136,[(2,.er (c_api_Lin a1)),(4,.ref 0 0 0),(8,vi x4),(12,vi x5)],[.box [.nils,vi 0]]⟩) ((Int.tdiv a1.2 x3) * (Int.tdiv a2.2 x1.1)) ?_)))))))
    intro x5 hx5
    replace h := h x5 hx5
    obtain ⟨o9,h⟩ := h
    refine awp_spine (rc [2,4,8,12,13] [] [(4,.dat (.tup [vi ((num_Gcd.fn [x5,a1.2]).1),vi ((num_Gcd.fn [x5,a1.2]).2)]))] [3] ⟨136,[(2,.er (c_api_Lin a1)),(4,.ref 0 0 0),(8,vi x4),(12,vi x5),(13,vi ((num_Gcd.fn [x5,a1.2]).1))],[.box [.nils,vi 0]]⟩ (pn (by decide : 2 * 1 ≤ 16777216) (pn (ok_num_Gcd [x5,a1.2] (o9)) pe)) (tc ((awp_abs (fun (x6 : Int × Int) => ⟨136,[(2,.er (c_api_Lin a1)),(4,.ref 0 0 0),(8,vi x4),(12,vi x5),(13,vi x6.1)],[.box [.nils,vi 0]]⟩) (num_Gcd.fn [x5,a1.2]) ?_))))
    intro x6 hx6
    replace h := h x6 hx6
    obtain ⟨o10,o11,h⟩ := h
    refine awp_spine (rc [2,4,8,12,15] [] [] [] ⟨136,[(2,.er (c_api_Lin a1)),(4,.ref 0 0 0),(8,vi x4),(12,vi x5),(15,vi ((Int.tdiv a1.2 x6.1) * x5))],[.box [.nils,vi 0]]⟩ (pn o10 (pn o11 pe)) (tc ((awp_spine (rc [2,4,8,12,15,80] [] [] [] ⟨136,[(2,.er (c_api_Lin a1)),(4,.ref 0 0 0),(8,vi x4),(12,vi x5),(15,vi ((Int.tdiv a1.2 x6.1) * x5)),(80,vb (decide (((Int.tdiv a1.2 x6.1) * x5) > (268435456:Int))))],[.box [.nils,vi 0]]⟩ (pe) (tc ((awp_cond (b := decide (((Int.tdiv a1.2 x6.1) * x5) > (268435456:Int))) (by kernel_rfl) (fun hb => ?_) (fun hb => ?_)))))))))
    · replace h := h.1 (of_decide_eq_true hb)
      refine awp_spine (rc [4,5] [] [] [] ⟨136,[(4,.ref 0 0 0),(5,vi (3:Int))],[.box [.nils,vi 0]]⟩ (pe) (tc ((awp_ret (tr (tr (tr (tr (tr (tr (tr (tr (tr (tr (tr (?_))))))))))))))))
      exact re hk (.tup [.agg (c_api_Lin (((([] : List Int),0),3).1)),vi (((([] : List Int),0),3).2)]) [.keep [4,5],.nilBox 0 [0] tI,.keep [4,5]] ⟨136,[(4,.ref 0 0 0),(5,vi (3:Int))],[.box [vs ([] : List Int),vi 0]]⟩ ⟨((([] : List Int),0),3),rfl,rfl,h⟩
    · replace h := h.2 (of_decide_eq_false hb)
      refine awp_skip (tc ((awp_spine (rc [2,4,8,12,15,16] [] [] [] ⟨136,[(2,.er (c_api_Lin a1)),(4,.ref 0 0 0),(8,vi x4),(12,vi x5),(15,vi ((Int.tdiv a1.2 x6.1) * x5)),(16,.ref 1 0 0)],[.box [.nils,vi 0],.box [.nils,vi ((Int.tdiv a1.2 x6.1) * x5)]]⟩ (pe) (tc ((awp_spine (rc [2,4,8,12,15,16,85,86,87] [] [] [] ⟨136,[(2,.er (c_api_Lin a1)),(4,.ref 0 0 0),(8,vi x4),(12,vi x5),(15,vi ((Int.tdiv a1.2 x6.1) * x5)),(16,.ref 1 0 0),(85,vs a1.1),(86,vi (a1.1.length:Int)),(87,vi 0)],[.box [.nils,vi 0],.box [.nils,vi ((Int.tdiv a1.2 x6.1) * x5)]]⟩ (pe) (tc ((awp_len 2 [0] (T := tI) (l := a1.1) (by kernel_rfl) fun hl => ?_)))))))))))
      replace h := h hl
      obtain ⟨I13,⟨n13a,hz13⟩,hI13⟩ := h
      refine awp_block (awp_loopN (fun n s => ∃ (x9:Int) (x10 : (List Int)),I13 n x9 x10 ∧ s = ⟨136,[(2,.er (c_api_Lin a1)),(4,.ref 0 0 0),(8,vi x4),(12,vi x5),(15,vi ((Int.tdiv a1.2 x6.1) * x5)),(16,.ref 1 0 0),(85,vs a1.1),(86,vi (a1.1.length:Int)),(87,vi x9)],[.box [.nils,vi 0],.box [.osl 2 0,vi ((Int.tdiv a1.2 x6.1) * x5)],.row tI x10 0]⟩) (n := n13a) (s0 := ⟨136,[(2,.er (c_api_Lin a1)),(4,.ref 0 0 0),(8,vi x4),(12,vi x5),(15,vi ((Int.tdiv a1.2 x6.1) * x5)),(16,.ref 1 0 0),(85,vs a1.1),(86,vi (a1.1.length:Int)),(87,vi 0)],[.box [.nils,vi 0],.box [.osl 2 0,vi ((Int.tdiv a1.2 x6.1) * x5)],.row tI ([] : List Int) 0]⟩) (wk_ghosts hk (l := [.keep [2,4,8,12,15,16,85,86,87],.adoptBox 1 0 tI,.keep [2,4,8,12,15,16,85,86,87]]) (by kernel_rfl)) ⟨0,([] : List Int),hz13,rfl⟩ ?_)
      rintro n13 s ⟨x9,x10,hx13,rfl⟩
      have h := hI13 n13 x9 x10 hx13
      refine awp_spine (rc [2,4,8,12,15,16,85,86,87,88] [] [] [] ⟨136,[(2,.er (c_api_Lin a1)),(4,.ref 0 0 0),(8,vi x4),(12,vi x5),(15,vi ((Int.tdiv a1.2 x6.1) * x5)),(16,.ref 1 0 0),(85,vs a1.1),(86,vi (a1.1.length:Int)),(87,vi x9),(88,vb (decide (x9 < (a1.1.length:Int))))],[.box [.nils,vi 0],.box [.osl 2 0,vi ((Int.tdiv a1.2 x6.1) * x5)],.row tI x10 0]⟩ (pe) (tc ((awp_spine (awp_cond (b := decide (x9 < (a1.1.length:Int))) (by kernel_rfl) (fun hb => ?_) (fun hb => ?_))))))
      · replace h := h.1 (of_decide_eq_true hb)
        obtain ⟨o12,h⟩ := h
        obtain ⟨o13,o14,o15,h⟩ := h
        refine awp_skip (tc ((awp_spine (awp_block (awp_spine (rc [2,4,8,12,15,16,18,85,86,87] [] [] [] ⟨136,[(2,.er (c_api_Lin a1)),(4,.ref 0 0 0),(8,vi x4),(12,vi x5),(15,vi ((Int.tdiv a1.2 x6.1) * x5)),(16,.ref 1 0 0),(18,vi (gI a1.1 x9)),(85,vs a1.1),(86,vi (a1.1.length:Int)),(87,vi x9)],[.box [.nils,vi 0],.box [.osl 2 0,vi ((Int.tdiv a1.2 x6.1) * x5)],.row tI x10 0]⟩ (pn o12 pe) (tc ((dr hk [2,4,8,12,15,16,85,86,87] [] [] [8] ⟨[[],[0],[],[],[],[4],[3,4,5],[2,3,4,5,6],[2,3,4,5,6,7],(lr 9),(lr 10),(lr 11)],[.ref 1 0 0,.osl 2 0,vi (gI a1.1 x9),vi ((Int.tdiv a1.2 x6.1) * x5),.er [vi a1.2],vi a1.2,vi (Int.tdiv ((Int.tdiv a1.2 x6.1) * x5) a1.2),vi ((gI a1.1 x9) * (Int.tdiv ((Int.tdiv a1.2 x6.1) * x5) a1.2)),vs [(gI a1.1 x9) * (Int.tdiv ((Int.tdiv a1.2 x6.1) * x5) a1.2)],.osl 2 1,.ref 1 0 0,.tup []],_,[9,11],[([],[.box [.nils,vi 0],.box [.osl 2 0,vi ((Int.tdiv a1.2 x6.1) * x5)],.row tI x10 0]),([9],[.box [.nils,vi 0],.box [.osl 2 0,vi ((Int.tdiv a1.2 x6.1) * x5)],.row tI (x10 ++ [(gI a1.1 x9) * (Int.tdiv ((Int.tdiv a1.2 x6.1) * x5) a1.2)]) 1]),([9,11],[.box [.nils,vi 0],.box [.osl 2 1,vi ((Int.tdiv a1.2 x6.1) * x5)],.row tI (x10 ++ [(gI a1.1 x9) * (Int.tdiv ((Int.tdiv a1.2 x6.1) * x5) a1.2)]) 1])],[],[]⟩ ⟨136,[(2,.er (c_api_Lin a1)),(4,.ref 0 0 0),(8,vi x4),(12,vi x5),(15,vi ((Int.tdiv a1.2 x6.1) * x5)),(16,.ref 1 0 0),(85,vs a1.1),(86,vi (a1.1.length:Int)),(87,vi x9)],[.box [.nils,vi 0],.box [.osl 2 1,vi ((Int.tdiv a1.2 x6.1) * x5)],.row tI (x10 ++ [(gI a1.1 x9) * (Int.tdiv ((Int.tdiv a1.2 x6.1) * x5) a1.2)]) 1]⟩ (.n (.n (.n (.n (.n (.n (.s o13 (.s o14 (.s (by decide : 1 * 1 ≤ 16777216) (.s o15 (.n (.n AllO.e)))))))))))) (te ((blk_n (tc ((awp_abs (fun (x14 : (List Int)) => ⟨136,[(2,.er (c_api_Lin a1)),(4,.ref 0 0 0),(8,vi x4),(12,vi x5),(15,vi ((Int.tdiv a1.2 x6.1) * x5)),(16,.ref 1 0 0),(85,vs a1.1),(86,vi (a1.1.length:Int)),(87,vi x9)],[.box [.nils,vi 0],.box [.osl 2 1,vi ((Int.tdiv a1.2 x6.1) * x5)],.row tI x14 1]⟩) (x10 ++ [(gI a1.1 x9) * (Int.tdiv ((Int.tdiv a1.2 x6.1) * x5) a1.2)]) ?_)))))))))))))))
        intro x14 hx14
        replace h := h x14 hx14
        obtain ⟨o16,h⟩ := h
        refine rc [2,4,8,12,15,16,85,86,87] [] [] [] ⟨136,[(2,.er (c_api_Lin a1)),(4,.ref 0 0 0),(8,vi x4),(12,vi x5),(15,vi ((Int.tdiv a1.2 x6.1) * x5)),(16,.ref 1 0 0),(85,vs a1.1),(86,vi (a1.1.length:Int)),(87,vi (x9 + (1:Int)))],[.box [.nils,vi 0],.box [.osl 2 1,vi ((Int.tdiv a1.2 x6.1) * x5)],.row tI x14 1]⟩ (pn o16 pe) (te ((te ((te ((then_n (?_))))))))
        obtain ⟨m,hm,h⟩ := h
        exact ⟨m,hm,⟨136,[(2,.er (c_api_Lin a1)),(4,.ref 0 0 0),(8,vi x4),(12,vi x5),(15,vi ((Int.tdiv a1.2 x6.1) * x5)),(16,.ref 1 0 0),(85,vs a1.1),(86,vi (a1.1.length:Int)),(87,vi (x9 + (1:Int)))],[.box [.nils,vi 0],.box [.osl 2 0,vi ((Int.tdiv a1.2 x6.1) * x5)],.row tI x14 0]⟩,wk_ghosts hk (l := [.keep [2,4,8,12,15,16,85,86,87],.reset 2,.keep [2,4,8,12,15,16,85,86,87]]) (by kernel_rfl),x9 + (1:Int),x14,h,rfl⟩
      · replace h := h.2 (of_decide_eq_false hb)
        refine awp_exit (then_x (then_x (then_x (blk_h (tc ((awp_spine (rc [4,8,12,15,16,108] [] [] [] ⟨136,[(4,.ref 0 0 0),(8,vi x4),(12,vi x5),(15,vi ((Int.tdiv a1.2 x6.1) * x5)),(16,.ref 1 0 0),(108,vb ((decide (x4 > (268435456:Int))) || (decide (x4 < (-268435456)))))],[.box [.nils,vi 0],.box [.osl 2 0,vi ((Int.tdiv a1.2 x6.1) * x5)],.row tI x10 0]⟩ (pn (fun hg => ⟨hg,trivial⟩ : (!(decide (x4 > (268435456:Int)))) = true → (!(decide (x4 > (268435456:Int)))) = true ∧ True) (pn (fun hc => not_f hc : (decide (x4 > (268435456:Int))) = false → (!(decide (x4 > (268435456:Int)))) = true) pe)) (tc ((awp_cond (b := (decide (x4 > (268435456:Int))) || (decide (x4 < (-268435456)))) (by kernel_rfl) (fun hb => ?_) (fun hb => ?_))))))))))))
        · replace h := h.1 (hb)
          refine awp_spine (rc [4,5] [] [] [] ⟨136,[(4,.ref 0 0 0),(5,vi (3:Int))],[.box [.nils,vi 0],.box [.osl 2 0,vi ((Int.tdiv a1.2 x6.1) * x5)],.row tI x10 0]⟩ (pe) (tc ((awp_ret (tr (tr (tr (tr (tr (tr (tr (tr (tr (tr (tr (tr (tr (tr (?_)))))))))))))))))))
          exact re hk (.tup [.agg (c_api_Lin (((([] : List Int),0),3).1)),vi (((([] : List Int),0),3).2)]) [.keep [4,5],.nilBox 0 [0] tI,.keep [4,5]] ⟨136,[(4,.ref 0 0 0),(5,vi (3:Int))],[.box [vs ([] : List Int),vi 0],.box [.osl 2 0,vi ((Int.tdiv a1.2 x6.1) * x5)],.row tI x10 0]⟩ ⟨((([] : List Int),0),3),rfl,rfl,h⟩
        · replace h := h.2 (hb)
          obtain ⟨o17,o18,o19,h⟩ := h
          refine awp_skip (tc ((awp_spine (dr hk [4,16] [] [] [7] ⟨[[],[0],[],[],[],[3,4],[2,3,4,5],[2,3,4,5,6],(lr 8),(lr 9),(lr 10)],[.ref 1 0 0,.osl 2 0,vi x4,vi ((Int.tdiv a1.2 x6.1) * x5),vi x5,vi (Int.tdiv ((Int.tdiv a1.2 x6.1) * x5) x5),vi (x4 * (Int.tdiv ((Int.tdiv a1.2 x6.1) * x5) x5)),vs [x4 * (Int.tdiv ((Int.tdiv a1.2 x6.1) * x5) x5)],.osl 2 1,.ref 1 0 0,.tup []],_,[8,10],[([],[.box [.nils,vi 0],.box [.osl 2 0,vi ((Int.tdiv a1.2 x6.1) * x5)],.row tI x10 0]),([8],[.box [.nils,vi 0],.box [.osl 2 0,vi ((Int.tdiv a1.2 x6.1) * x5)],.row tI (x10 ++ [x4 * (Int.tdiv ((Int.tdiv a1.2 x6.1) * x5) x5)]) 1]),([8,10],[.box [.nils,vi 0],.box [.osl 2 1,vi ((Int.tdiv a1.2 x6.1) * x5)],.row tI (x10 ++ [x4 * (Int.tdiv ((Int.tdiv a1.2 x6.1) * x5) x5)]) 1])],[],[]⟩ ⟨136,[(4,.ref 0 0 0),(16,.ref 1 0 0)],[.box [.nils,vi 0],.box [.osl 2 1,vi ((Int.tdiv a1.2 x6.1) * x5)],.row tI (x10 ++ [x4 * (Int.tdiv ((Int.tdiv a1.2 x6.1) * x5) x5)]) 1]⟩ (.n (.n (.n (.n (.n (.s o17 (.s o18 (.s (by decide : 1 * 1 ≤ 16777216) (.s o19 (.n (.n AllO.e))))))))))) (tc ((awp_abs (fun (x15 : (List Int)) => ⟨136,[(4,.ref 0 0 0),(16,.ref 1 0 0)],[.box [.nils,vi 0],.box [.osl 2 1,vi ((Int.tdiv a1.2 x6.1) * x5)],.row tI x15 1]⟩) (x10 ++ [x4 * (Int.tdiv ((Int.tdiv a1.2 x6.1) * x5) x5)]) ?_)))))))
          intro x15 hx15
          replace h := h x15 hx15
          obtain ⟨I19,⟨n19a,hz19⟩,hI19⟩ := h
          refine awp_spine (rc [4,16,121,122,123] [] [] [] ⟨136,[(4,.ref 0 0 0),(16,.ref 1 0 0),(121,.osl 2 1),(122,vi (x15.length:Int)),(123,vi 0)],[.box [.nils,vi 0],.box [.osl 2 1,vi ((Int.tdiv a1.2 x6.1) * x5)],.row tI x15 1]⟩ (pe) (tc ((awp_block (awp_loopN (fun n s => ∃ (x17:Int),I19 n x17 ∧ s = ⟨136,[(4,.ref 0 0 0),(16,.ref 1 0 0),(121,.osl 2 0),(122,vi (x15.length:Int)),(123,vi x17)],[.box [.nils,vi 0],.box [.osl 2 0,vi ((Int.tdiv a1.2 x6.1) * x5)],.row tI x15 0]⟩) (n := n19a) (s0 := ⟨136,[(4,.ref 0 0 0),(16,.ref 1 0 0),(121,.osl 2 0),(122,vi (x15.length:Int)),(123,vi 0)],[.box [.nils,vi 0],.box [.osl 2 0,vi ((Int.tdiv a1.2 x6.1) * x5)],.row tI x15 0]⟩) (wk_ghosts hk (l := [.keep [4,16,121,122,123],.reset 2,.keep [4,16,121,122,123]]) (by kernel_rfl)) ⟨0,hz19,rfl⟩ ?_)))))
          rintro n19 s ⟨x17,hx19,rfl⟩
          have h := hI19 n19 x17 hx19
          refine awp_spine (rc [4,16,121,122,123,124] [] [] [] ⟨136,[(4,.ref 0 0 0),(16,.ref 1 0 0),(121,.osl 2 0),(122,vi (x15.length:Int)),(123,vi x17),(124,vb (decide (x17 < (x15.length:Int))))],[.box [.nils,vi 0],.box [.osl 2 0,vi ((Int.tdiv a1.2 x6.1) * x5)],.row tI x15 0]⟩ (pe) (tc ((awp_spine (awp_cond (b := decide (x17 < (x15.length:Int))) (by kernel_rfl) (fun hb => ?_) (fun hb => ?_))))))
          · replace h := h.1 (of_decide_eq_true hb)
            obtain ⟨o20,o21,h⟩ := h
            refine awp_skip (tc ((awp_spine (awp_block (awp_spine (rc [4,16,20,121,122,123] [] [] [] ⟨136,[(4,.ref 0 0 0),(16,.ref 1 0 0),(20,vi (x15.getD (Int.toNat x17) (0:Int))),(121,.osl 2 0),(122,vi (x15.length:Int)),(123,vi x17)],[.box [.nils,vi 0],.box [.osl 2 0,vi ((Int.tdiv a1.2 x6.1) * x5)],.row tI x15 0]⟩ (pn o20 (pn o21 pe)) (tc ((awp_abs (fun (x20:Int) => ⟨136,[(4,.ref 0 0 0),(16,.ref 1 0 0),(20,vi x20),(121,.osl 2 0),(122,vi (x15.length:Int)),(123,vi x17)],[.box [.nils,vi 0],.box [.osl 2 0,vi ((Int.tdiv a1.2 x6.1) * x5)],.row tI x15 0]⟩) ((x15.getD (Int.toNat x17) (0:Int))) ?_)))))))))
            intro x20 hx20
            replace h := h x20 hx20
            refine awp_spine (rc [4,16,121,122,123,132] [] [] [] ⟨136,[(4,.ref 0 0 0),(16,.ref 1 0 0),(121,.osl 2 0),(122,vi (x15.length:Int)),(123,vi x17),(132,vb ((decide (x20 > (268435456:Int))) || (decide (x20 < (-268435456)))))],[.box [.nils,vi 0],.box [.osl 2 0,vi ((Int.tdiv a1.2 x6.1) * x5)],.row tI x15 0]⟩ (pn (fun hg => ⟨hg,trivial⟩ : (!(decide (x20 > (268435456:Int)))) = true → (!(decide (x20 > (268435456:Int)))) = true ∧ True) (pn (fun hc => not_f hc : (decide (x20 > (268435456:Int))) = false → (!(decide (x20 > (268435456:Int)))) = true) pe)) (tc ((awp_cond (b := (decide (x20 > (268435456:Int))) || (decide (x20 < (-268435456)))) (by kernel_rfl) (fun hb => ?_) (fun hb => ?_)))))
            · replace h := h.1 (hb)
              refine awp_spine (rc [4,5] [] [] [] ⟨136,[(4,.ref 0 0 0),(5,vi (3:Int))],[.box [.nils,vi 0],.box [.osl 2 0,vi ((Int.tdiv a1.2 x6.1) * x5)],.row tI x15 0]⟩ (pe) (tc ((awp_ret (tr (tr (tr (blk_r (tr (tr (tr (tr (blk_r (tr (tr (tr (tr (tr (tr (tr (tr (tr (tr (tr (tr (tr (tr (tr (?_)))))))))))))))))))))))))))))
              exact re hk (.tup [.agg (c_api_Lin (((([] : List Int),0),3).1)),vi (((([] : List Int),0),3).2)]) [.keep [4,5],.nilBox 0 [0] tI,.keep [4,5]] ⟨136,[(4,.ref 0 0 0),(5,vi (3:Int))],[.box [vs ([] : List Int),vi 0],.box [.osl 2 0,vi ((Int.tdiv a1.2 x6.1) * x5)],.row tI x15 0]⟩ ⟨((([] : List Int),0),3),rfl,rfl,h⟩
            · replace h := h.2 (hb)
              obtain ⟨o22,h⟩ := h
              refine awp_skip (te ((te ((blk_n (tc ((rc [4,16,121,122,123] [] [] [] ⟨136,[(4,.ref 0 0 0),(16,.ref 1 0 0),(121,.osl 2 0),(122,vi (x15.length:Int)),(123,vi (x17 + (1:Int)))],[.box [.nils,vi 0],.box [.osl 2 0,vi ((Int.tdiv a1.2 x6.1) * x5)],.row tI x15 0]⟩ (pn o22 pe) (te ((te ((te ((then_n (?_))))))))))))))))
              obtain ⟨m,hm,h⟩ := h
              exact ⟨m,hm,⟨136,[(4,.ref 0 0 0),(16,.ref 1 0 0),(121,.osl 2 0),(122,vi (x15.length:Int)),(123,vi (x17 + (1:Int)))],[.box [.nils,vi 0],.box [.osl 2 0,vi ((Int.tdiv a1.2 x6.1) * x5)],.row tI x15 0]⟩,wk_ghosts hk (l := [.keep [4,16,121,122,123]]) (by kernel_rfl),x17 + (1:Int),h,rfl⟩
          · replace h := h.2 (of_decide_eq_false hb)
            refine awp_exit (then_x (then_x (then_x (blk_h (tc ((awp_spine (rc [4,5] [] [] [] ⟨136,[(4,.ref 0 0 0),(5,vi 0)],[.box [.osl 2 0,vi ((Int.tdiv a1.2 x6.1) * x5)],.box [.osl 2 0,vi ((Int.tdiv a1.2 x6.1) * x5)],.row tI x15 0]⟩ (pe) (tc ((awp_ret (tr (tr (tr (tr (tr (tr (tr (tr (tr (tr (tr (tr (tr (tr (tr (tr (?_))))))))))))))))))))))))))))
            exact re hk (.tup [.agg (c_api_Lin (((x15,(Int.tdiv a1.2 x6.1) * x5),0).1)),vi (((x15,(Int.tdiv a1.2 x6.1) * x5),0).2)]) [.keep [4,5],.freeze 2] ⟨136,[(4,.ref 0 0 0),(5,vi 0)],[.box [vs x15,vi ((Int.tdiv a1.2 x6.1) * x5)],.box [vs x15,vi ((Int.tdiv a1.2 x6.1) * x5)],.dead]⟩ ⟨((x15,(Int.tdiv a1.2 x6.1) * x5),0),rfl,rfl,h⟩
theorem ok_farkas_point_with (a1 : farkas_point) (a2 : farkas_fraction) (h : farkas_point_with.pre a1 a2) : OkC prog 32 [.agg (c_api_Lin a1),.agg (c_anon_struct_n_int_d_int a2)] (.tup [.agg (c_api_Lin ((farkas_point_with.fn a1 a2).1)),vi ((farkas_point_with.fn a1 a2).2)]) :=
  OkC.of call_farkas_point_with ((walk_farkas_point_with a1 a2 _ (farkas_point_with.spec a1 a2 h)).mono fun r o ⟨x,hr,ho,hx⟩ => ⟨by rw [hr,hx],ho⟩) rfl rfl (fun _ => rfl)

noncomputable abbrev b57 : Code := bodyOf Try.f57
theorem call_slices_Clone_Sint_int : CallOk prog 57 := ⟨_,Try.func57,by kernel_rfl,by kernel_rfl⟩
theorem walk_slices_Clone_Sint_int (a1 : (List Int)) (Q : (List Int) → Prop) (h : slices_Clone_Sint_int.wp a1 Q) : VCalls prog 57 [vs a1] [] (fun r o => ∃ x,r = .osl 0 0 ∧ o = [.row tI x 0] ∧ Q x) := by
  refine body Try.func57 (spine (subC [0] b57) [(spine (subC [1,0,0] b57) [(.cond (.tmp 4) (spine (subC [1,0,1,0,0] b57) [.ret]) .skip),(spine (subC [1,1,0] b57) [.ret])])]) fun cx hd hi hk => ?_
  show AWp prog cx _ _ ⟨8,[(0,vs a1)],[]⟩
  replace hk : cx.E.len = 0 := hk
  unfold slices_Clone_Sint_int.wp at h
  refine awp_spine (rc [0] [] [] [] ⟨8,[(0,vs a1)],[]⟩ (pe) (tc ((awp_spine (awp_rgo (by kernel_rfl) (aops_eq (l' := [0,1]) (by kernel_rfl) (aops_segc tab [0] [1] (by kernel_rfl) [0,3] [] [] [] [] ⟨8,[(0,vs a1),(3,vs a1)],[]⟩ (by kernel_rfl) (pe) (aops_nilcmp tab (T := tI) (xs := a1) (d := 4) (q := true) (by kernel_rfl) fun b1 hb1 => ?_))))))))
  replace h := h b1 hb1
  refine aops_segc tab [] [] (by kernel_rfl) [0,4] [] [] [] [] ⟨8,[(0,vs a1),(4,vb b1)],[]⟩ (by kernel_rfl) (pe) (aops_nil (tc ((awp_cond (b := b1) (by kernel_rfl) (fun hb => ?_) (fun hb => ?_)))))
  · replace h := h.1 (hb)
    refine awp_spine (rc [2] [] [] [] ⟨8,[(2,.nils)],[]⟩ (pe) (tc ((awp_ret (tr (tr (tr (?_))))))))
    exact ret_r (m := 1) (r := .osl 0 0) (objs := [.row tI ([] : List Int) 0]) hk [.keep [2],.cut 0,.adopt 2 tI,.keep [2]] ⟨8,[(2,.osl 0 0)],[.row tI ([] : List Int) 0]⟩ (by kernel_rfl) (by kernel_rfl) (Nat.zero_le _) ⟨([] : List Int),rfl,rfl,h⟩
  · replace h := h.2 (hb)
    obtain ⟨o1,h⟩ := h
    refine awp_skip (tc ((awp_spine (rc [2] [] [] [] ⟨8,[(2,.osl 0 1)],[.row tI (([] : List Int) ++ a1) 1]⟩ (pn (by decide : 0 * 1 ≤ 16777216) (pn o1 pe)) (tc ((awp_ret (tr (tr (tr (?_)))))))))))
    exact ret_r (m := 1) (r := .osl 0 0) (objs := [.row tI (([] : List Int) ++ a1) 0]) hk [.keep [2],.reset 0,.keep [2]] ⟨8,[(2,.osl 0 0)],[.row tI (([] : List Int) ++ a1) 0]⟩ (by kernel_rfl) (by kernel_rfl) (Nat.zero_le _) ⟨([] : List Int) ++ a1,rfl,rfl,h⟩
theorem ok_slices_Clone_Sint_int (a1 : (List Int)) (h : slices_Clone_Sint_int.pre a1) : OkO prog 57 [vs a1] tI (slices_Clone_Sint_int.fn a1) :=
  OkO.of call_slices_Clone_Sint_int ((walk_slices_Clone_Sint_int a1 _ (slices_Clone_Sint_int.spec a1 h)).mono fun r o ⟨x,hr,ho,hx⟩ => ⟨hr,by rw [ho,hx]⟩) rfl

noncomputable abbrev b27 : Code := bodyOf Try.f27
theorem call_farkas_table_refuted : CallOk prog 27 := ⟨_,Try.func27,by kernel_rfl,by kernel_rfl⟩
theorem walk_farkas_table_refuted (a1 : farkas_table) (Q : (List Int) × Bool → Prop) (h : farkas_table_refuted.wp a1 Q) : VCalls prog 27 [.agg (c_farkas_table a1)] [] (fun r o => ∃ x,r = .tup [vs x.1,vb x.2] ∧ o = [] ∧ Q x) := by
  refine body Try.func27 (spine (subC [0] b27) [(spine (subC [1,0,0] b27) [(.block 0 (.loop (spine (subC [1,0,1,0,0,0] b27) [(spine (.cond (.tmp 13) .skip (.exit 0)) [(spine (.block 1 (spine (subC [1,0,1,0,0,1,1,0,0,0] b27) [(spine (subC [1,0,1,0,0,1,1,0,0,1,0] b27) [(spine (subC [1,0,1,0,0,1,1,0,0,1,1,0,0] b27) [(.cond (.tmp 32) (.exit 1) .skip),(spine (subC [1,0,1,0,0,1,1,0,0,1,1,1,0] b27) [(spine (subC [1,0,1,0,0,1,1,0,0,1,1,1,1,0,0] b27) [(.cond (.tmp 41) (spine (subC [1,0,1,0,0,1,1,0,0,1,1,1,1,0,1,0,0] b27) [(.block 2 (.loop (spine (subC [1,0,1,0,0,1,1,0,0,1,1,1,1,0,1,0,1,0,0,0] b27) [(spine (.cond (.tmp 45) .skip (.exit 2)) [(spine (.block 3 (spine (subC [1,0,1,0,0,1,1,0,0,1,1,1,1,0,1,0,1,0,0,1,1,0,0,0] b27) [(subC [1,0,1,0,0,1,1,0,0,1,1,1,1,0,1,0,1,0,0,1,1,0,0,1] b27)])) [(subC [1,0,1,0,0,1,1,0,0,1,1,1,1,0,1,0,1,0,0,1,1,1] b27)])])])))]) .skip),(spine (subC [1,0,1,0,0,1,1,0,0,1,1,1,1,1,0] b27) [.ret])])])])])])) [(subC [1,0,1,0,0,1,1,1] b27)])])]))),(spine (subC [1,1,0] b27) [.ret])])]) fun cx hd hi hk => ?_
  show AWp prog cx _ _ ⟨58,[(0,.agg (c_farkas_table a1))],[]⟩
  replace hk : cx.E.len = 0 := hk
  unfold farkas_table_refuted.wp at h
  refine awp_spine (rc [1] [] [] [0] ⟨58,[(1,.er (c_farkas_table a1))],[]⟩ (pe) (tc ((awp_spine (rc [1,10,11,12] [] [] [] ⟨58,[(1,.er (c_farkas_table a1)),(10,.d (.sl t_farkas_row) a1.2),(11,vi (a1.2.length:Int)),(12,vi 0)],[]⟩ (pe) (tc ((awp_len 1 [1] (T := t_farkas_row) (l := a1.2) (by kernel_rfl) fun hl => ?_))))))))
  replace h := h hl
  obtain ⟨I4,⟨n4a,hz4⟩,hI4⟩ := h
  refine awp_block (awp_loopN (fun n s => ∃ (x2:Int),I4 n x2 ∧ s = ⟨58,[(1,.er (c_farkas_table a1)),(10,.d (.sl t_farkas_row) a1.2),(11,vi (a1.2.length:Int)),(12,vi x2)],[]⟩) (n := n4a) (s0 := ⟨58,[(1,.er (c_farkas_table a1)),(10,.d (.sl t_farkas_row) a1.2),(11,vi (a1.2.length:Int)),(12,vi 0)],[]⟩) (wk_ghosts hk (l := [.keep [1,10,11,12]]) (by kernel_rfl)) ⟨0,hz4,rfl⟩ ?_)
  rintro n4 s ⟨x2,hx4,rfl⟩
  have h := hI4 n4 x2 hx4
  refine awp_spine (rc [1,10,11,12,13] [] [] [] ⟨58,[(1,.er (c_farkas_table a1)),(10,.d (.sl t_farkas_row) a1.2),(11,vi (a1.2.length:Int)),(12,vi x2),(13,vb (decide (x2 < (a1.2.length:Int))))],[]⟩ (pe) (tc ((awp_spine (awp_cond (b := decide (x2 < (a1.2.length:Int))) (by kernel_rfl) (fun hb => ?_) (fun hb => ?_))))))
  · replace h := h.1 (of_decide_eq_true hb)
    obtain ⟨o1,h⟩ := h
    refine awp_skip (tc ((awp_spine (awp_block (awp_spine (rc [1,5,10,11,12] [] [] [] ⟨58,[(1,.er (c_farkas_table a1)),(5,.ref 0 0 0),(10,.d (.sl t_farkas_row) a1.2),(11,vi (a1.2.length:Int)),(12,vi x2)],[.box (c_farkas_row (a1.2.getD (Int.toNat x2) d_farkas_row))]⟩ (pn o1 pe) (tc ((awp_abs (fun (x5 : farkas_row) => ⟨58,[(1,.er (c_farkas_table a1)),(5,.ref 0 0 0),(10,.d (.sl t_farkas_row) a1.2),(11,vi (a1.2.length:Int)),(12,vi x2)],[.box (c_farkas_row x5)]⟩) (a1.2.getD (Int.toNat x2) d_farkas_row) ?_)))))))))
    intro x5 hx5
    replace h := h x5 hx5
    obtain ⟨o2,h⟩ := h
    refine awp_spine (rc [1,5,6,10,11,12] [] [] [] ⟨58,[(1,.er (c_farkas_table a1)),(5,.ref 0 0 0),(6,vi (gI x5.2 a1.1)),(10,.d (.sl t_farkas_row) a1.2),(11,vi (a1.2.length:Int)),(12,vi x2)],[.box (c_farkas_row x5)]⟩ (pn o2 pe) (tc ((awp_spine (rc [1,5,6,10,11,12,32] [] [] [] ⟨58,[(1,.er (c_farkas_table a1)),(5,.ref 0 0 0),(6,vi (gI x5.2 a1.1)),(10,.d (.sl t_farkas_row) a1.2),(11,vi (a1.2.length:Int)),(12,vi x2),(32,vb ((decide ((gI x5.2 a1.1) ≥ (0:Int))) && ((!x5.1) || ((gI x5.2 a1.1) == (0:Int)))))],[.box (c_farkas_row x5)]⟩ (pn (fun hg => ⟨hg,trivial⟩ : (decide ((gI x5.2 a1.1) ≥ (0:Int))) = true → (decide ((gI x5.2 a1.1) ≥ (0:Int))) = true ∧ True) (pn (fun hg => ⟨hg,trivial⟩ : (decide ((gI x5.2 a1.1) ≥ (0:Int))) = true → (decide ((gI x5.2 a1.1) ≥ (0:Int))) = true ∧ True) (pn (fun hg => ⟨hg,trivial⟩ : (decide ((gI x5.2 a1.1) ≥ (0:Int))) = true → (decide ((gI x5.2 a1.1) ≥ (0:Int))) = true ∧ True) (pn (fun hg => ⟨hg,trivial⟩ : ((decide ((gI x5.2 a1.1) ≥ (0:Int))) && (!(!x5.1))) = true → ((decide ((gI x5.2 a1.1) ≥ (0:Int))) && (!(!x5.1))) = true ∧ True) (pn (fun hg => ⟨hg,fun hc => and_f hg hc⟩ : (decide ((gI x5.2 a1.1) ≥ (0:Int))) = true → (decide ((gI x5.2 a1.1) ≥ (0:Int))) = true ∧ ((!x5.1) = false → ((decide ((gI x5.2 a1.1) ≥ (0:Int))) && (!(!x5.1))) = true)) (pn (fun hc => hc : (decide ((gI x5.2 a1.1) ≥ (0:Int))) = true → (decide ((gI x5.2 a1.1) ≥ (0:Int))) = true) pe)))))) (tc ((awp_cond (b := (decide ((gI x5.2 a1.1) ≥ (0:Int))) && ((!x5.1) || ((gI x5.2 a1.1) == (0:Int)))) (by kernel_rfl) (fun hb => ?_) (fun hb => ?_)))))))))
    · replace h := h.1 (hb)
      obtain ⟨o3,h⟩ := h
      refine awp_exit (then_x (then_x (then_x (blk_h (tc ((rc [1,10,11,12] [] [] [] ⟨58,[(1,.er (c_farkas_table a1)),(10,.d (.sl t_farkas_row) a1.2),(11,vi (a1.2.length:Int)),(12,vi (x2 + (1:Int)))],[.box (c_farkas_row x5)]⟩ (pn o3 pe) (te ((te ((te ((then_n (?_)))))))))))))))
      obtain ⟨m,hm,h⟩ := h
      exact ⟨m,hm,⟨58,[(1,.er (c_farkas_table a1)),(10,.d (.sl t_farkas_row) a1.2),(11,vi (a1.2.length:Int)),(12,vi (x2 + (1:Int)))],[]⟩,wk_ghosts hk (l := [.keep [1,10,11,12],.cut 0,.keep [1,10,11,12]]) (by kernel_rfl),x2 + (1:Int),h,rfl⟩
    · replace h := h.2 (hb)
      obtain ⟨o4,o5,o6,h⟩ := h
      refine awp_skip (tc ((awp_spine (rc [6,7] [] [(6,.own tI (slices_Clone_Sint_int.fn (x5.2.drop (Int.toNat (a1.1 + (1:Int))))))] [] ⟨58,[(6,vi (gI x5.2 a1.1)),(7,.osl 1 0)],[.box (c_farkas_row x5),.row tI (slices_Clone_Sint_int.fn (x5.2.drop (Int.toNat (a1.1 + (1:Int))))) 0]⟩ (pn o4 (pn o5 (pn (ok_slices_Clone_Sint_int (x5.2.drop (Int.toNat (a1.1 + (1:Int)))) (o6)) pe))) (tc ((awp_abs (fun (x6 : (List Int)) => ⟨58,[(6,vi (gI x5.2 a1.1)),(7,.osl 1 0)],[.box (c_farkas_row x5),.row tI x6 0]⟩) (slices_Clone_Sint_int.fn (x5.2.drop (Int.toNat (a1.1 + (1:Int))))) ?_)))))))
      intro x6 hx6
      replace h := h x6 hx6
      refine awp_spine (rc [7,41] [] [] [] ⟨58,[(7,.osl 1 0),(41,vb (decide ((gI x5.2 a1.1) > (0:Int))))],[.box (c_farkas_row x5),.row tI x6 0]⟩ (pe) (tc ((awp_cond (b := decide ((gI x5.2 a1.1) > (0:Int))) (by kernel_rfl) (fun hb => ?_) (fun hb => ?_)))))
      · replace h := h.1 (of_decide_eq_true hb)
        obtain ⟨I13,⟨n13a,hz13⟩,hI13⟩ := h
        refine awp_spine (rc [7,43,44] [] [] [] ⟨58,[(7,.osl 1 0),(43,vi (x6.length:Int)),(44,vi 0)],[.box (c_farkas_row x5),.row tI x6 0]⟩ (pe) (tc ((awp_block (awp_loopN (fun n s => ∃ (x9:Int) (x10 : (List Int)),I13 n x9 x10 ∧ s = ⟨58,[(7,.osl 1 0),(43,vi (x6.length:Int)),(44,vi x9)],[.box (c_farkas_row x5),.row tI x10 0]⟩) (n := n13a) (s0 := ⟨58,[(7,.osl 1 0),(43,vi (x6.length:Int)),(44,vi 0)],[.box (c_farkas_row x5),.row tI x6 0]⟩) (wk_ghosts hk (l := [.keep [7,43,44]]) (by kernel_rfl)) ⟨0,x6,hz13,rfl⟩ ?_)))))
        rintro n13 s ⟨x9,x10,hx13,rfl⟩
        have h := hI13 n13 x9 x10 hx13
        refine awp_spine (rc [7,43,44,45] [] [] [] ⟨58,[(7,.osl 1 0),(43,vi (x6.length:Int)),(44,vi x9),(45,vb (decide (x9 < (x6.length:Int))))],[.box (c_farkas_row x5),.row tI x10 0]⟩ (pe) (tc ((awp_spine (awp_cond (b := decide (x9 < (x6.length:Int))) (by kernel_rfl) (fun hb => ?_) (fun hb => ?_))))))
        · replace h := h.1 (of_decide_eq_true hb)
          obtain ⟨o7,o8,o9,o10,o11,h⟩ := h
          refine awp_skip (tc ((awp_spine (awp_block (awp_spine (rc [7,8,43,44] [] [] [] ⟨58,[(7,.osl 1 0),(8,vi x9),(43,vi (x6.length:Int)),(44,vi x9)],[.box (c_farkas_row x5),.row tI x10 0]⟩ (pe) (tc ((rc [7,43,44] [] [] [] ⟨58,[(7,.osl 1 0),(43,vi (x6.length:Int)),(44,vi x9)],[.box (c_farkas_row x5),.row tI (x10.set (Int.toNat x9) (-(x10.getD (Int.toNat x9) (0:Int)))) 0]⟩ (pn o7 (pn o8 (pn o9 (pn o10 (pn o11 pe))))) (te ((blk_n (tc ((awp_abs (fun (x14 : (List Int)) => ⟨58,[(7,.osl 1 0),(43,vi (x6.length:Int)),(44,vi x9)],[.box (c_farkas_row x5),.row tI x14 0]⟩) (x10.set (Int.toNat x9) (-(x10.getD (Int.toNat x9) (0:Int)))) ?_)))))))))))))))
          intro x14 hx14
          replace h := h x14 hx14
          obtain ⟨o12,h⟩ := h
          refine rc [7,43,44] [] [] [] ⟨58,[(7,.osl 1 0),(43,vi (x6.length:Int)),(44,vi (x9 + (1:Int)))],[.box (c_farkas_row x5),.row tI x14 0]⟩ (pn o12 pe) (te ((te ((te ((then_n (?_))))))))
          obtain ⟨m,hm,h⟩ := h
          exact ⟨m,hm,⟨58,[(7,.osl 1 0),(43,vi (x6.length:Int)),(44,vi (x9 + (1:Int)))],[.box (c_farkas_row x5),.row tI x14 0]⟩,wk_ghosts hk (l := [.keep [7,43,44]]) (by kernel_rfl),x9 + (1:Int),x14,h,rfl⟩
        · replace h := h.2 (of_decide_eq_false hb)
          refine awp_exit (then_x (then_x (then_x (blk_h (te ((tc ((awp_spine (rc [2,3] [] [] [] ⟨58,[(2,.osl 1 0),(3,vb true)],[.box (c_farkas_row x5),.row tI x10 0]⟩ (pe) (tc ((awp_ret (tr (tr (tr (tr (tr (tr (blk_r (tr (tr (tr (tr (blk_r (tr (tr (?_))))))))))))))))))))))))))))
          exact re hk (.tup [vs ((x10,true).1),vb ((x10,true).2)]) [.keep [2,3],.freeze 1] ⟨58,[(2,vs x10),(3,vb true)],[.box (c_farkas_row x5),.dead]⟩ ⟨(x10,true),rfl,rfl,h⟩
      · replace h := h.2 (of_decide_eq_false hb)
        refine awp_skip (tc ((awp_spine (rc [2,3] [] [] [] ⟨58,[(2,.osl 1 0),(3,vb true)],[.box (c_farkas_row x5),.row tI x6 0]⟩ (pe) (tc ((awp_ret (tr (tr (tr (tr (tr (tr (blk_r (tr (tr (tr (tr (blk_r (tr (tr (?_))))))))))))))))))))))
        exact re hk (.tup [vs ((x6,true).1),vb ((x6,true).2)]) [.keep [2,3],.freeze 1] ⟨58,[(2,vs x6),(3,vb true)],[.box (c_farkas_row x5),.dead]⟩ ⟨(x6,true),rfl,rfl,h⟩
  · replace h := h.2 (of_decide_eq_false hb)
    refine awp_exit (then_x (then_x (then_x (blk_h (tc ((awp_spine (rc [2,3] [] [] [] ⟨58,[(2,.nils),(3,vb false)],[]⟩ (pe) (tc ((awp_ret (tr (tr (tr (?_)))))))))))))))
    exact re hk (.tup [vs ((([] : List Int),false).1),vb ((([] : List Int),false).2)]) [.keep [2,3],.nilAt 2 [] tI,.keep [2,3]] ⟨58,[(2,vs ([] : List Int)),(3,vb false)],[]⟩ ⟨(([] : List Int),false),rfl,rfl,h⟩
theorem ok_farkas_table_refuted (a1 : farkas_table) (h : farkas_table_refuted.pre a1) : OkC prog 27 [.agg (c_farkas_table a1)] (.tup [vs ((farkas_table_refuted.fn a1).1),vb ((farkas_table_refuted.fn a1).2)]) :=
  OkC.of call_farkas_table_refuted ((walk_farkas_table_refuted a1 _ (farkas_table_refuted.spec a1 h)).mono fun r o ⟨x,hr,ho,hx⟩ => ⟨by rw [hr,hx],ho⟩) rfl rfl (fun _ => rfl)

noncomputable abbrev Bfarkas_Inner_1 : Code := bodyOf Try.f31
theorem call_farkas_Inner_1 : CallOk prog 31 := ⟨_,Try.func31,by kernel_rfl,by kernel_rfl⟩
noncomputable abbrev b13 : Code := bodyOf Try.f13
theorem call_farkas_Inner : CallOk prog 13 := ⟨_,Try.func13,by kernel_rfl,by kernel_rfl⟩
theorem walk_farkas_Inner (a1 : (List api_Cond)) (a2:Int) (Q : (List Int) × Int × Int → Prop) (h : farkas_Inner.wp a1 a2 Q) : VCalls prog 13 [.d (.sl t_api_Cond) a1,vi a2] [] (fun r o => ∃ x,r = .tup [vs x.1,vi x.2.1,vi x.2.2] ∧ o = [] ∧ Q x) := by
  refine vcalls_bodyG Try.func13 (c := (.seq (subC [0] b13) (.seq (spine (subC [1,0,0] b13) [(spine (subC [1,0,1,0] b13) [(.cond (.tmp 17) (spine (subC [1,0,1,1,0,0] b13) [.ret]) .skip)])]) (.seq (subC [1,1,0] b13) (.seq (spine (subC [1,1,1,0,0] b13) [(.cond (.tmp 26) (spine (subC [1,1,1,0,1,0,0] b13) [.ret]) .skip)]) (.seq (spine (subC [1,1,1,1,0,0] b13) [(spine (subC [1,1,1,1,0,1,0] b13) [(.cond (.tmp 35) (spine (subC [1,1,1,1,0,1,1,0,0] b13) [.ret]) .skip)])]) (.seq (subC [1,1,1,1,1,0] b13) (.seq (subC [1,1,1,1,1,1,0] b13) (spine (subC [1,1,1,1,1,1,1,0,0] b13) [(.block 0 (.loop (spine (subC [1,1,1,1,1,1,1,0,1,0,0,0] b13) [(spine (.cond (.tmp 40) .skip (.exit 0)) [(spine (.block 1 (spine (subC [1,1,1,1,1,1,1,0,1,0,0,1,1,0,0,0] b13) [(spine (subC [1,1,1,1,1,1,1,0,1,0,0,1,1,0,0,1,0] b13) [(spine (subC [1,1,1,1,1,1,1,0,1,0,0,1,1,0,0,1,1,0] b13) [(.cond (.tmp 55) (spine (subC [1,1,1,1,1,1,1,0,1,0,0,1,1,0,0,1,1,1,0,0] b13) [.ret]) .skip)])])])) [(subC [1,1,1,1,1,1,1,0,1,0,0,1,1,1] b13)])])]))),(spine (subC [1,1,1,1,1,1,1,1,0] b13) [.ret])]))))))))) (by kernel_rfl) (Nat.le_of_ble_eq_true (by kernel_rfl)) fun E0 hk => ?_
  show AWpG prog ⟨E0,[],[]⟩ _ _ ⟨62,[(0,.d (.sl t_api_Cond) a1),(1,vi a2)],[]⟩
  replace hk : E0.len = 0 := hk
  have hkE : E0.len = 0 := hk
  unfold farkas_Inner.wp at h
  refine awpG_seq (rc [0,1,4,5,6] [] [] [] ⟨62,[(0,.d (.sl t_api_Cond) a1),(1,vi a2),(4,.ref 0 0 0),(5,.ref 1 0 0),(6,.ref 2 0 0)],[.box [.nils],.box [vi 0],.box [vi 0]]⟩ (pe) (then_n ((awpG_seq (awp_spine (rc [0,1,4,5,6,7] [] [(2,.dat (vi (farkas_asked.fn a1 a2)))] [] ⟨62,[(0,.d (.sl t_api_Cond) a1),(1,vi a2),(4,.ref 0 0 0),(5,.ref 1 0 0),(6,.ref 2 0 0),(7,vi (farkas_asked.fn a1 a2))],[.box [.nils],.box [vi 0],.box [vi 0]]⟩ (pn (ok_farkas_asked a1 a2) pe) (tc ((awp_abs (fun (x1:Int) => ⟨62,[(0,.d (.sl t_api_Cond) a1),(1,vi a2),(4,.ref 0 0 0),(5,.ref 1 0 0),(6,.ref 2 0 0),(7,vi x1)],[.box [.nils],.box [vi 0],.box [vi 0]]⟩) (farkas_asked.fn a1 a2) ?_)))))))))
  intro x1 hx1
  replace h := h x1 hx1
  refine awp_spine (rc [0,1,4,5,6,7,17] [] [] [] ⟨62,[(0,.d (.sl t_api_Cond) a1),(1,vi a2),(4,.ref 0 0 0),(5,.ref 1 0 0),(6,.ref 2 0 0),(7,vi x1),(17,vb (x1 != (0:Int)))],[.box [.nils],.box [vi 0],.box [vi 0]]⟩ (pe) (tc ((awp_cond (b := x1 != (0:Int)) (by kernel_rfl) (fun hb => ?_) (fun hb => ?_)))))
  · replace h := h.1 (bne_iff_ne.mp hb)
    refine awp_spine (rc [4,5,6] [] [] [] ⟨62,[(4,.ref 0 0 0),(5,.ref 1 0 0),(6,.ref 2 0 0)],[.box [.nils],.box [vi 0],.box [vi x1]]⟩ (pe) (tc ((awp_ret (tr (tr (tr (tr (retW_G tab hk rfl (?_))))))))))
    exact re hk (.tup [vs ((([] : List Int),0,x1).1),vi ((([] : List Int),0,x1).2.1),vi ((([] : List Int),0,x1).2.2)]) [.keep [4,5,6],.nilBox 0 [0] tI,.keep [4,5,6]] ⟨62,[(4,.ref 0 0 0),(5,.ref 1 0 0),(6,.ref 2 0 0)],[.box [vs ([] : List Int)],.box [vi 0],.box [vi x1]]⟩ ⟨(([] : List Int),0,x1),rfl,rfl,h⟩
  · replace h := h.2 (bne_f hb)
    obtain ⟨o1,h⟩ := h
    refine awp_skip (te ((te ((then_n ((awpG_seq (rc [1,4,5,6,8] [] [(2,.dat (.tup [.d (.sl t_farkas_table) ((farkas_eliminated.fn a1 a2).1),vi ((farkas_eliminated.fn a1 a2).2)]))] [] ⟨62,[(1,vi a2),(4,.ref 0 0 0),(5,.ref 1 0 0),(6,.ref 2 0 0),(8,.d (.sl t_farkas_table) ((farkas_eliminated.fn a1 a2).1))],[.box [.nils],.box [vi 0],.box [vi ((farkas_eliminated.fn a1 a2).2)]]⟩ (pn (ok_farkas_eliminated a1 a2 (o1)) pe) (then_n ((awpG_abs (fun (x2 : (List farkas_table) × Int) => ⟨62,[(1,vi a2),(4,.ref 0 0 0),(5,.ref 1 0 0),(6,.ref 2 0 0),(8,.d (.sl t_farkas_table) x2.1)],[.box [.nils],.box [vi 0],.box [vi x2.2]]⟩) (farkas_eliminated.fn a1 a2) ?_)))))))))))
    intro x2 hx2
    replace h := h x2 hx2
    refine awpG_seq (awp_spine (rc [1,4,5,6,8,26] [] [] [] ⟨62,[(1,vi a2),(4,.ref 0 0 0),(5,.ref 1 0 0),(6,.ref 2 0 0),(8,.d (.sl t_farkas_table) x2.1),(26,vb (x2.2 != (0:Int)))],[.box [.nils],.box [vi 0],.box [vi x2.2]]⟩ (pe) (tc ((awp_cond (b := x2.2 != (0:Int)) (by kernel_rfl) (fun hb => ?_) (fun hb => ?_))))))
    · replace h := h.1 (bne_iff_ne.mp hb)
      refine awp_spine (dr hk [4,5,6] [] [] [] ⟨[[],[],[1],[0,1,2]],[vi x2.2,.tup [],.tup [],.tup []],_,[],[([],[.box [.nils],.box [vi 0],.box [vi x2.2]])],[],[]⟩ ⟨62,[(4,.ref 0 0 0),(5,.ref 1 0 0),(6,.ref 2 0 0)],[.box [.nils],.box [vi 0],.box [vi x2.2]]⟩ (.n (.n (.n (.n AllO.e)))) (tc ((awp_ret (tr (tr (tr (retW_G tab hk rfl (?_)))))))))
      exact re hk (.tup [vs ((([] : List Int),0,x2.2).1),vi ((([] : List Int),0,x2.2).2.1),vi ((([] : List Int),0,x2.2).2.2)]) [.keep [4,5,6],.nilBox 0 [0] tI,.keep [4,5,6]] ⟨62,[(4,.ref 0 0 0),(5,.ref 1 0 0),(6,.ref 2 0 0)],[.box [vs ([] : List Int)],.box [vi 0],.box [vi x2.2]]⟩ ⟨(([] : List Int),0,x2.2),rfl,rfl,h⟩
    · replace h := h.2 (bne_f hb)
      obtain ⟨o2,o3,h⟩ := h
      refine awp_skip (te ((then_n ((awpG_seq (awp_spine (rc [1,4,5,6,8,10] [] [(3,.dat (.tup [vs ((farkas_table_refuted.fn (x2.1.getD (Int.toNat (0:Int)) d_farkas_table)).1),vb ((farkas_table_refuted.fn (x2.1.getD (Int.toNat (0:Int)) d_farkas_table)).2)]))] [] ⟨62,[(1,vi a2),(4,.ref 0 0 0),(5,.ref 1 0 0),(6,.ref 2 0 0),(8,.d (.sl t_farkas_table) x2.1),(10,vb ((farkas_table_refuted.fn (x2.1.getD (Int.toNat (0:Int)) d_farkas_table)).2))],[.box [.nils],.box [vi 0],.box [vi x2.2]]⟩ (pn o2 (pn (ok_farkas_table_refuted (x2.1.getD (Int.toNat (0:Int)) d_farkas_table) (o3)) pe)) (tc ((awp_abs (fun (x3 : (List Int) × Bool) => ⟨62,[(1,vi a2),(4,.ref 0 0 0),(5,.ref 1 0 0),(6,.ref 2 0 0),(8,.d (.sl t_farkas_table) x2.1),(10,vb x3.2)],[.box [.nils],.box [vi 0],.box [vi x2.2]]⟩) (farkas_table_refuted.fn (x2.1.getD (Int.toNat (0:Int)) d_farkas_table)) ?_))))))))))
      intro x3 hx3
      replace h := h x3 hx3
      refine awp_spine (rc [1,4,5,6,8,35] [] [] [] ⟨62,[(1,vi a2),(4,.ref 0 0 0),(5,.ref 1 0 0),(6,.ref 2 0 0),(8,.d (.sl t_farkas_table) x2.1),(35,vb x3.2)],[.box [.nils],.box [vi 0],.box [vi x2.2]]⟩ (pe) (tc ((awp_cond (b := x3.2) (by kernel_rfl) (fun hb => ?_) (fun hb => ?_)))))
      · replace h := h.1 (hb)
        refine awp_spine (rc [4,5,6] [] [] [] ⟨62,[(4,.ref 0 0 0),(5,.ref 1 0 0),(6,.ref 2 0 0)],[.box [.nils],.box [vi 0],.box [vi (5:Int)]]⟩ (pe) (tc ((awp_ret (tr (tr (tr (tr (retW_G tab hk rfl (?_))))))))))
        exact re hk (.tup [vs ((([] : List Int),0,5).1),vi ((([] : List Int),0,5).2.1),vi ((([] : List Int),0,5).2.2)]) [.keep [4,5,6],.nilBox 0 [0] tI,.keep [4,5,6]] ⟨62,[(4,.ref 0 0 0),(5,.ref 1 0 0),(6,.ref 2 0 0)],[.box [vs ([] : List Int)],.box [vi 0],.box [vi (5:Int)]]⟩ ⟨(([] : List Int),0,5),rfl,rfl,h⟩
      · replace h := h.2 (hb)
        refine awp_skip (te ((te ((then_n ((awpG_seq (rc [1,4,5,6,8,11] [] [] [] ⟨62,[(1,vi a2),(4,.ref 0 0 0),(5,.ref 1 0 0),(6,.ref 2 0 0),(8,.d (.sl t_farkas_table) x2.1),(11,.ref 3 0 0)],[.box [.nils],.box [vi 0],.box [vi x2.2],.box [.nils,vi (1:Int)]]⟩ (pe) (then_n ((awpG_defer tab rfl (g := 31) (cv := [.ref 2 0 0,.ref 0 0 0,.ref 1 0 0]) (s1 := ⟨62,[(37,.fn (.func 31) [] [.ref 2 0 0,.ref 0 0 0,.ref 1 0 0]),(1,vi a2),(4,.ref 0 0 0),(5,.ref 1 0 0),(6,.ref 2 0 0),(8,.d (.sl t_farkas_table) x2.1),(11,.ref 3 0 0)],[.box [.nils],.box [vi 0],.box [vi x2.2],.box [.nils,vi (1:Int)]]⟩) [0] 1 (by kernel_rfl) (by kernel_rfl) (by kernel_rfl) (by kernel_rfl) fun cx2 hD => (awpG_of ?_))))))))))))
        have hk : cx2.E.len = 4 := hD.len
        obtain ⟨I12,⟨n12a,hz12⟩,hI12⟩ := h
        refine awp_gh hk [.keep [1,4,5,6,8,11]] ⟨62,[(1,vi a2),(4,.ref 0 0 0),(5,.ref 1 0 0),(6,.ref 2 0 0),(8,.d (.sl t_farkas_table) x2.1),(11,.ref 3 0 0)],[.box [.nils],.box [vi 0],.box [vi x2.2],.box [.nils,vi (1:Int)]]⟩ (by kernel_rfl) (awp_spine (rc [4,5,6,8,11,38,39] [] [] [] ⟨62,[(4,.ref 0 0 0),(5,.ref 1 0 0),(6,.ref 2 0 0),(8,.d (.sl t_farkas_table) x2.1),(11,.ref 3 0 0),(38,vi a2),(39,vi 0)],[.box [.nils],.box [vi 0],.box [vi x2.2],.box [.nils,vi (1:Int)]]⟩ (pe) (tc ((awp_block (awp_loopN (fun n s => ∃ (x4:Int) (x5:Int) (x6 : (List Int)) (x7:Int),I12 n x4 x5 x6 x7 ∧ s = ⟨62,[(4,.ref 0 0 0),(5,.ref 1 0 0),(6,.ref 2 0 0),(8,.d (.sl t_farkas_table) x2.1),(11,.ref 3 0 0),(38,vi a2),(39,vi x4)],[.box [.nils],.box [vi 0],.box [vi x5],.box [vs x6,vi x7]]⟩) (n := n12a) (s0 := ⟨62,[(4,.ref 0 0 0),(5,.ref 1 0 0),(6,.ref 2 0 0),(8,.d (.sl t_farkas_table) x2.1),(11,.ref 3 0 0),(38,vi a2),(39,vi 0)],[.box [.nils],.box [vi 0],.box [vi x2.2],.box [vs ([] : List Int),vi (1:Int)]]⟩) (wk_ghosts hk (l := [.keep [4,5,6,8,11,38,39],.nilBox 3 [0] tI,.keep [4,5,6,8,11,38,39]]) (by kernel_rfl)) ⟨0,x2.2,([] : List Int),1,hz12,rfl⟩ ?_))))))
        rintro n12 s ⟨x4,x5,x6,x7,hx12,rfl⟩
        have h := hI12 n12 x4 x5 x6 x7 hx12
        refine awp_spine (rc [4,5,6,8,11,38,39,40] [] [] [] ⟨62,[(4,.ref 0 0 0),(5,.ref 1 0 0),(6,.ref 2 0 0),(8,.d (.sl t_farkas_table) x2.1),(11,.ref 3 0 0),(38,vi a2),(39,vi x4),(40,vb (decide (x4 < a2)))],[.box [.nils],.box [vi 0],.box [vi x5],.box [vs x6,vi x7]]⟩ (pe) (tc ((awp_spine (awp_cond (b := decide (x4 < a2)) (by kernel_rfl) (fun hb => ?_) (fun hb => ?_))))))
        · replace h := h.1 (of_decide_eq_true hb)
          obtain ⟨o4,o5,o6,o7,h⟩ := h
          refine awp_skip (tc ((awp_spine (awp_block (awp_spine (rc [4,5,6,8,11,12,38,39] [] [] [] ⟨62,[(4,.ref 0 0 0),(5,.ref 1 0 0),(6,.ref 2 0 0),(8,.d (.sl t_farkas_table) x2.1),(11,.ref 3 0 0),(12,vi x4),(38,vi a2),(39,vi x4)],[.box [.nils],.box [vi 0],.box [vi x5],.box [vs x6,vi x7]]⟩ (pe) (tc ((awp_spine (dr hk [4,5,6,8,11,38,39] [] [7,8] [] ⟨[[],[],[],[],[3],[2,3,4],[2,3,4,5],[1,2,3,4,5,6],(lr 8),(lr 9),(lr 10),(lr 10),(lr 11),(lr 13)],[.agg [vs x6,vi x7],.agg [vs x6,vi x7],.d (.sl t_farkas_table) x2.1,vi x4,vi (x4 + (1:Int)),.er (c_farkas_table (x2.1.getD (Int.toNat (x4 + (1:Int))) d_farkas_table)),.agg (c_farkas_table (x2.1.getD (Int.toNat (x4 + (1:Int))) d_farkas_table)),.agg (c_anon_struct_n_int_d_int (farkas_point_value.fn (x6,x7) (x2.1.getD (Int.toNat (x4 + (1:Int))) d_farkas_table))),.tup [.agg (c_api_Lin ((farkas_point_with.fn (x6,x7) (farkas_point_value.fn (x6,x7) (x2.1.getD (Int.toNat (x4 + (1:Int))) d_farkas_table))).1)),vi ((farkas_point_with.fn (x6,x7) (farkas_point_value.fn (x6,x7) (x2.1.getD (Int.toNat (x4 + (1:Int))) d_farkas_table))).2)],.tup [.agg (c_api_Lin ((farkas_point_with.fn (x6,x7) (farkas_point_value.fn (x6,x7) (x2.1.getD (Int.toNat (x4 + (1:Int))) d_farkas_table))).1)),vi ((farkas_point_with.fn (x6,x7) (farkas_point_value.fn (x6,x7) (x2.1.getD (Int.toNat (x4 + (1:Int))) d_farkas_table))).2)],.agg (c_api_Lin ((farkas_point_with.fn (x6,x7) (farkas_point_value.fn (x6,x7) (x2.1.getD (Int.toNat (x4 + (1:Int))) d_farkas_table))).1)),vi ((farkas_point_with.fn (x6,x7) (farkas_point_value.fn (x6,x7) (x2.1.getD (Int.toNat (x4 + (1:Int))) d_farkas_table))).2),.tup [],.tup []],_,[12,13],[([],[.box [.nils],.box [vi 0],.box [vi x5],.box [vs x6,vi x7]]),([12],[.box [.nils],.box [vi 0],.box [vi x5],.box (c_api_Lin ((farkas_point_with.fn (x6,x7) (farkas_point_value.fn (x6,x7) (x2.1.getD (Int.toNat (x4 + (1:Int))) d_farkas_table))).1))]),([12,13],[.box [.nils],.box [vi 0],.box [vi ((farkas_point_with.fn (x6,x7) (farkas_point_value.fn (x6,x7) (x2.1.getD (Int.toNat (x4 + (1:Int))) d_farkas_table))).2)],.box (c_api_Lin ((farkas_point_with.fn (x6,x7) (farkas_point_value.fn (x6,x7) (x2.1.getD (Int.toNat (x4 + (1:Int))) d_farkas_table))).1))])],[],[]⟩ ⟨62,[(4,.ref 0 0 0),(5,.ref 1 0 0),(6,.ref 2 0 0),(8,.d (.sl t_farkas_table) x2.1),(11,.ref 3 0 0),(38,vi a2),(39,vi x4)],[.box [.nils],.box [vi 0],.box [vi ((farkas_point_with.fn (x6,x7) (farkas_point_value.fn (x6,x7) (x2.1.getD (Int.toNat (x4 + (1:Int))) d_farkas_table))).2)],.box (c_api_Lin ((farkas_point_with.fn (x6,x7) (farkas_point_value.fn (x6,x7) (x2.1.getD (Int.toNat (x4 + (1:Int))) d_farkas_table))).1))]⟩ (.n (.n (.n (.n (.s o4 (.s o5 (.n (.s (ok_farkas_point_value (x6,x7) (x2.1.getD (Int.toNat (x4 + (1:Int))) d_farkas_table) (o6)) (.s (ok_farkas_point_with (x6,x7) (farkas_point_value.fn (x6,x7) (x2.1.getD (Int.toNat (x4 + (1:Int))) d_farkas_table)) (o7)) (.n (.n (.n (.n (.n AllO.e)))))))))))))) (tc ((awp_abs (fun (x13 : farkas_fraction) => ⟨62,[(4,.ref 0 0 0),(5,.ref 1 0 0),(6,.ref 2 0 0),(8,.d (.sl t_farkas_table) x2.1),(11,.ref 3 0 0),(38,vi a2),(39,vi x4)],[.box [.nils],.box [vi 0],.box [vi ((farkas_point_with.fn (x6,x7) x13).2)],.box (c_api_Lin ((farkas_point_with.fn (x6,x7) x13).1))]⟩) (farkas_point_value.fn (x6,x7) (x2.1.getD (Int.toNat (x4 + (1:Int))) d_farkas_table)) ?_)))))))))))))
          intro x13 hx13
          replace h := h x13 hx13
          refine awp_abs (fun (x14 : farkas_point × Int) => ⟨62,[(4,.ref 0 0 0),(5,.ref 1 0 0),(6,.ref 2 0 0),(8,.d (.sl t_farkas_table) x2.1),(11,.ref 3 0 0),(38,vi a2),(39,vi x4)],[.box [.nils],.box [vi 0],.box [vi x14.2],.box (c_api_Lin x14.1)]⟩) (farkas_point_with.fn (x6,x7) x13) ?_
          intro x14 hx14
          replace h := h x14 hx14
          refine awp_abs (fun (x15:Int) => ⟨62,[(4,.ref 0 0 0),(5,.ref 1 0 0),(6,.ref 2 0 0),(8,.d (.sl t_farkas_table) x2.1),(11,.ref 3 0 0),(38,vi a2),(39,vi x4)],[.box [.nils],.box [vi 0],.box [vi x15],.box (c_api_Lin x14.1)]⟩) (x14.2) ?_
          intro x15 hx15
          replace h := h x15 hx15
          refine awp_abs (fun (x16 : (List Int)) => ⟨62,[(4,.ref 0 0 0),(5,.ref 1 0 0),(6,.ref 2 0 0),(8,.d (.sl t_farkas_table) x2.1),(11,.ref 3 0 0),(38,vi a2),(39,vi x4)],[.box [.nils],.box [vi 0],.box [vi x15],.box [vs x16,vi x14.1.2]]⟩) (x14.1.1) ?_
          intro x16 hx16
          replace h := h x16 hx16
          refine awp_abs (fun (x17:Int) => ⟨62,[(4,.ref 0 0 0),(5,.ref 1 0 0),(6,.ref 2 0 0),(8,.d (.sl t_farkas_table) x2.1),(11,.ref 3 0 0),(38,vi a2),(39,vi x4)],[.box [.nils],.box [vi 0],.box [vi x15],.box [vs x16,vi x17]]⟩) (x14.1.2) ?_
          intro x17 hx17
          replace h := h x17 hx17
          refine awp_spine (rc [4,5,6,8,11,38,39,55] [] [] [] ⟨62,[(4,.ref 0 0 0),(5,.ref 1 0 0),(6,.ref 2 0 0),(8,.d (.sl t_farkas_table) x2.1),(11,.ref 3 0 0),(38,vi a2),(39,vi x4),(55,vb (x15 != (0:Int)))],[.box [.nils],.box [vi 0],.box [vi x15],.box [vs x16,vi x17]]⟩ (pe) (tc ((awp_cond (b := x15 != (0:Int)) (by kernel_rfl) (fun hb => ?_) (fun hb => ?_)))))
          · replace h := h.1 (bne_iff_ne.mp hb)
            refine awp_spine (dr hk [4,5,6] [] [] [] ⟨[[],[],[1],[0,1,2]],[vi x15,.tup [],.tup [],.tup []],_,[],[([],[.box [.nils],.box [vi 0],.box [vi x15],.box [vs x16,vi x17]])],[],[]⟩ ⟨62,[(4,.ref 0 0 0),(5,.ref 1 0 0),(6,.ref 2 0 0)],[.box [.nils],.box [vi 0],.box [vi x15],.box [vs x16,vi x17]]⟩ (.n (.n (.n (.n AllO.e)))) (tc ((awp_ret (tr (tr (tr (tr (blk_r (tr (tr (tr (tr (blk_r (tr ((retD tab hkE rfl hD (.inr rfl) Try.func31 (cg := (spine (subC [0] Bfarkas_Inner_1) [(.cond (.tmp 4) (subC [1,0] Bfarkas_Inner_1) .skip)])) (by kernel_rfl) call_farkas_Inner_1 (by kernel_rfl) (by kernel_rfl) (s' := ⟨62,[(4,.ref 0 0 0),(5,.ref 1 0 0),(6,.ref 2 0 0)],[.box [vs ([] : List Int)],.box [vi 0],.box [vi x15],.dead]⟩) (wk_ghosts hk (l := [.keep [4,5,6],.freeze 3,.nilBox 0 [0] tI]) (by kernel_rfl)) fun cxg hgd hgi hk => ?_)))))))))))))))))
            show AWp prog cxg _ _ ⟨5,[(0,.ref 2 0 0),(1,.ref 0 0 0),(2,.ref 1 0 0)],[.box [vs ([] : List Int)],.box [vi 0],.box [vi x15],.dead]⟩
            replace hk : cxg.E.len = 4 := hk
            refine awp_spine (rc [1,2,4] [] [] [] ⟨5,[(1,.ref 0 0 0),(2,.ref 1 0 0),(4,vb (x15 != (0:Int)))],[.box [vs ([] : List Int)],.box [vi 0],.box [vi x15],.dead]⟩ (pe) (tc ((awp_cond (b := x15 != (0:Int)) (by kernel_rfl) (fun hb => ?_) (fun hb => ?_)))))
            · replace h := h.1 (bne_iff_ne.mp hb)
              refine rc [] [] [] [] ⟨5,[],[.box [.nils],.box [vi 0],.box [vi x15],.dead]⟩ (pe) (then_n (spine_e ?_))
              exact endG (m := 0) (he := .inl rfl) (r := .tup [vs ((([] : List Int),0,x15).1),vi ((([] : List Int),0,x15).2.1),vi ((([] : List Int),0,x15).2.2)]) (objs := []) (hE := hkE) (hk0 := rfl) [.keep [4,5,6],.nilBox 0 [0] tI,.keep [4,5,6]] ⟨62,[(4,.ref 0 0 0),(5,.ref 1 0 0),(6,.ref 2 0 0)],[.box [vs ([] : List Int)],.box [vi 0],.box [vi x15],.dead]⟩ (by kernel_rfl) (by kernel_rfl) (Nat.le_refl 0) ⟨(([] : List Int),0,x15),rfl,rfl,h⟩
            · replace h := h.2 (bne_f hb)
              refine awp_skip (then_n (spine_e ?_))
              exact endG (m := 0) (he := .inl rfl) (r := .tup [vs ((([] : List Int),0,x15).1),vi ((([] : List Int),0,x15).2.1),vi ((([] : List Int),0,x15).2.2)]) (objs := []) (hE := hkE) (hk0 := rfl) [.keep [4,5,6]] ⟨62,[(4,.ref 0 0 0),(5,.ref 1 0 0),(6,.ref 2 0 0)],[.box [vs ([] : List Int)],.box [vi 0],.box [vi x15],.dead]⟩ (by kernel_rfl) (by kernel_rfl) (Nat.le_refl 0) ⟨(([] : List Int),0,x15),rfl,rfl,h⟩
          · replace h := h.2 (bne_f hb)
            obtain ⟨o108,h⟩ := h
            refine awp_skip (te ((te ((te ((blk_n (tc ((rc [4,5,6,8,11,38,39] [] [] [] ⟨62,[(4,.ref 0 0 0),(5,.ref 1 0 0),(6,.ref 2 0 0),(8,.d (.sl t_farkas_table) x2.1),(11,.ref 3 0 0),(38,vi a2),(39,vi (x4 + (1:Int)))],[.box [.nils],.box [vi 0],.box [vi x15],.box [vs x16,vi x17]]⟩ (pn o108 pe) (te ((te ((te ((then_n (?_))))))))))))))))))
            obtain ⟨m,hm,h⟩ := h
            exact ⟨m,hm,⟨62,[(4,.ref 0 0 0),(5,.ref 1 0 0),(6,.ref 2 0 0),(8,.d (.sl t_farkas_table) x2.1),(11,.ref 3 0 0),(38,vi a2),(39,vi (x4 + (1:Int)))],[.box [.nils],.box [vi 0],.box [vi x15],.box [vs x16,vi x17]]⟩,wk_ghosts hk (l := [.keep [4,5,6,8,11,38,39]]) (by kernel_rfl),x4 + (1:Int),x15,x16,x17,h,rfl⟩
        · replace h := h.2 (of_decide_eq_false hb)
          refine awp_exit (then_x (then_x (then_x (blk_h (tc ((awp_spine (dr hk [4,5,6] [] [] [] ⟨[[],[0],[],[2],[0,1],(lr 5),(lr 6)],[.ref 3 0 0,vs x6,.ref 3 0 1,vi x7,.tup [],.tup [],.tup []],_,[4,5,6],[([],[.box [.nils],.box [vi 0],.box [vi x5],.box [vs x6,vi x7]]),([4],[.box [vs x6],.box [vi 0],.box [vi x5],.box [vs x6,vi x7]]),([4,5],[.box [vs x6],.box [vi x7],.box [vi x5],.box [vs x6,vi x7]]),([4,5,6],[.box [vs x6],.box [vi x7],.box [vi 0],.box [vs x6,vi x7]])],[],[]⟩ ⟨62,[(4,.ref 0 0 0),(5,.ref 1 0 0),(6,.ref 2 0 0)],[.box [vs x6],.box [vi x7],.box [vi 0],.box [vs x6,vi x7]]⟩ (.n (.n (.n (.n (.n (.n (.n AllO.e))))))) (tc ((awp_ret (tr (tr ((retD tab hkE rfl hD (.inr rfl) Try.func31 (cg := (spine (subC [0] Bfarkas_Inner_1) [(.cond (.tmp 4) (subC [1,0] Bfarkas_Inner_1) .skip)])) (by kernel_rfl) call_farkas_Inner_1 (by kernel_rfl) (by kernel_rfl) (s' := ⟨62,[(4,.ref 0 0 0),(5,.ref 1 0 0),(6,.ref 2 0 0)],[.box [vs x6],.box [vi x7],.box [vi 0],.dead]⟩) (wk_ghosts hk (l := [.keep [4,5,6],.freeze 3]) (by kernel_rfl)) fun cxg hgd hgi hk => ?_)))))))))))))))
          show AWp prog cxg _ _ ⟨5,[(0,.ref 2 0 0),(1,.ref 0 0 0),(2,.ref 1 0 0)],[.box [vs x6],.box [vi x7],.box [vi 0],.dead]⟩
          replace hk : cxg.E.len = 4 := hk
          refine awp_spine (rc [1,2,4] [] [] [] ⟨5,[(1,.ref 0 0 0),(2,.ref 1 0 0),(4,vb ((0:Int) != (0:Int)))],[.box [vs x6],.box [vi x7],.box [vi 0],.dead]⟩ (pe) (tc ((awp_cond (b := (0:Int) != (0:Int)) (by kernel_rfl) (fun hb => ?_) (fun hb => ?_)))))
          · replace h := h.1 (bne_iff_ne.mp hb)
            refine rc [] [] [] [] ⟨5,[],[.box [.nils],.box [vi 0],.box [vi 0],.dead]⟩ (pe) (then_n (spine_e ?_))
            exact endG (m := 0) (he := .inl rfl) (r := .tup [vs ((([] : List Int),0,0).1),vi ((([] : List Int),0,0).2.1),vi ((([] : List Int),0,0).2.2)]) (objs := []) (hE := hkE) (hk0 := rfl) [.keep [4,5,6],.nilBox 0 [0] tI,.keep [4,5,6]] ⟨62,[(4,.ref 0 0 0),(5,.ref 1 0 0),(6,.ref 2 0 0)],[.box [vs ([] : List Int)],.box [vi 0],.box [vi 0],.dead]⟩ (by kernel_rfl) (by kernel_rfl) (Nat.le_refl 0) ⟨(([] : List Int),0,0),rfl,rfl,h⟩
          · replace h := h.2 (bne_f hb)
            refine awp_skip (then_n (spine_e ?_))
            exact endG (m := 0) (he := .inl rfl) (r := .tup [vs ((x6,x7,0).1),vi ((x6,x7,0).2.1),vi ((x6,x7,0).2.2)]) (objs := []) (hE := hkE) (hk0 := rfl) [.keep [4,5,6]] ⟨62,[(4,.ref 0 0 0),(5,.ref 1 0 0),(6,.ref 2 0 0)],[.box [vs x6],.box [vi x7],.box [vi 0],.dead]⟩ (by kernel_rfl) (by kernel_rfl) (Nat.le_refl 0) ⟨(x6,x7,0),rfl,rfl,h⟩
theorem ok_farkas_Inner (a1 : (List api_Cond)) (a2:Int) : OkC prog 13 [.d (.sl t_api_Cond) a1,vi a2] (.tup [vs ((farkas_Inner.fn a1 a2).1),vi ((farkas_Inner.fn a1 a2).2.1),vi ((farkas_Inner.fn a1 a2).2.2)]) :=
  OkC.of call_farkas_Inner ((walk_farkas_Inner a1 a2 _ (farkas_Inner.spec a1 a2)).mono fun r o ⟨x,hr,ho,hx⟩ => ⟨by rw [hr,hx],ho⟩) rfl rfl (fun _ => rfl)

noncomputable abbrev b11 : Code := bodyOf Try.f11
theorem call_farkas_Prove : CallOk prog 11 := ⟨_,Try.func11,by kernel_rfl,by kernel_rfl⟩
theorem walk_farkas_Prove (a1 : (List api_Cond)) (a2:Int) (Q : (List Int) × Int → Prop) (h : farkas_Prove.wp a1 a2 Q) : VCalls prog 11 [.d (.sl t_api_Cond) a1,vi a2] [] (fun r o => ∃ x,r = .tup [vs x.1,vi x.2] ∧ o = [] ∧ Q x) := by
  refine body Try.func11 (spine (subC [0] b11) [(spine (subC [1,0,0] b11) [(spine (subC [1,0,1,0] b11) [(.cond (.tmp 15) (spine (subC [1,0,1,1,0,0] b11) [.ret]) .skip)]),(spine (subC [1,1,0] b11) [(spine (subC [1,1,1,0,0] b11) [(.cond (.tmp 24) (spine (subC [1,1,1,0,1,0,0] b11) [.ret]) .skip),(spine (subC [1,1,1,1,0] b11) [(spine (subC [1,1,1,1,1,0,0] b11) [(.cond (.tmp 34) (spine (subC [1,1,1,1,1,0,1,0,0] b11) [.ret]) .skip),(spine (subC [1,1,1,1,1,1,0] b11) [.ret])])])])])])]) fun cx hd hi hk => ?_
  show AWp prog cx _ _ ⟨36,[(0,.d (.sl t_api_Cond) a1),(1,vi a2)],[]⟩
  replace hk : cx.E.len = 0 := hk
  unfold farkas_Prove.wp at h
  refine awp_spine (rc [0,1] [] [] [] ⟨36,[(0,.d (.sl t_api_Cond) a1),(1,vi a2)],[]⟩ (pe) (tc ((awp_spine (rc [0,1,6] [] [(2,.dat (vi (farkas_asked.fn a1 a2)))] [] ⟨36,[(0,.d (.sl t_api_Cond) a1),(1,vi a2),(6,vi (farkas_asked.fn a1 a2))],[]⟩ (pn (ok_farkas_asked a1 a2) pe) (tc ((awp_abs (fun (x1:Int) => ⟨36,[(0,.d (.sl t_api_Cond) a1),(1,vi a2),(6,vi x1)],[]⟩) (farkas_asked.fn a1 a2) ?_))))))))
  intro x1 hx1
  replace h := h x1 hx1
  refine awp_spine (rc [0,1,6,15] [] [] [] ⟨36,[(0,.d (.sl t_api_Cond) a1),(1,vi a2),(6,vi x1),(15,vb (x1 != (0:Int)))],[]⟩ (pe) (tc ((awp_cond (b := x1 != (0:Int)) (by kernel_rfl) (fun hb => ?_) (fun hb => ?_)))))
  · replace h := h.1 (bne_iff_ne.mp hb)
    refine awp_spine (rc [4,5] [] [] [] ⟨36,[(4,.nils),(5,vi x1)],[]⟩ (pe) (tc ((awp_ret (tr (tr (tr (tr (?_)))))))))
    exact re hk (.tup [vs ((([] : List Int),x1).1),vi ((([] : List Int),x1).2)]) [.keep [4,5],.nilAt 4 [] tI,.keep [4,5]] ⟨36,[(4,vs ([] : List Int)),(5,vi x1)],[]⟩ ⟨(([] : List Int),x1),rfl,rfl,h⟩
  · replace h := h.2 (bne_f hb)
    obtain ⟨o1,h⟩ := h
    refine awp_skip (te ((tc ((awp_spine (rc [7,8] [] [(2,.dat (.tup [.d (.sl t_farkas_table) ((farkas_eliminated.fn a1 a2).1),vi ((farkas_eliminated.fn a1 a2).2)]))] [] ⟨36,[(7,.d (.sl t_farkas_table) ((farkas_eliminated.fn a1 a2).1)),(8,vi ((farkas_eliminated.fn a1 a2).2))],[]⟩ (pn (ok_farkas_eliminated a1 a2 (o1)) pe) (tc ((awp_abs (fun (x2 : (List farkas_table) × Int) => ⟨36,[(7,.d (.sl t_farkas_table) x2.1),(8,vi x2.2)],[]⟩) (farkas_eliminated.fn a1 a2) ?_)))))))))
    intro x2 hx2
    replace h := h x2 hx2
    refine awp_spine (rc [7,8,24] [] [] [] ⟨36,[(7,.d (.sl t_farkas_table) x2.1),(8,vi x2.2),(24,vb (x2.2 != (0:Int)))],[]⟩ (pe) (tc ((awp_cond (b := x2.2 != (0:Int)) (by kernel_rfl) (fun hb => ?_) (fun hb => ?_)))))
    · replace h := h.1 (bne_iff_ne.mp hb)
      refine awp_spine (rc [4,5] [] [] [] ⟨36,[(4,.nils),(5,vi x2.2)],[]⟩ (pe) (tc ((awp_ret (tr (tr (tr (tr (tr (?_))))))))))
      exact re hk (.tup [vs ((([] : List Int),x2.2).1),vi ((([] : List Int),x2.2).2)]) [.keep [4,5],.nilAt 4 [] tI,.keep [4,5]] ⟨36,[(4,vs ([] : List Int)),(5,vi x2.2)],[]⟩ ⟨(([] : List Int),x2.2),rfl,rfl,h⟩
    · replace h := h.2 (bne_f hb)
      obtain ⟨o2,o3,h⟩ := h
      refine awp_skip (tc ((awp_spine (rc [9,10] [] [(3,.dat (.tup [vs ((farkas_table_refuted.fn (x2.1.getD (Int.toNat (0:Int)) d_farkas_table)).1),vb ((farkas_table_refuted.fn (x2.1.getD (Int.toNat (0:Int)) d_farkas_table)).2)]))] [] ⟨36,[(9,vs ((farkas_table_refuted.fn (x2.1.getD (Int.toNat (0:Int)) d_farkas_table)).1)),(10,vb ((farkas_table_refuted.fn (x2.1.getD (Int.toNat (0:Int)) d_farkas_table)).2))],[]⟩ (pn o2 (pn (ok_farkas_table_refuted (x2.1.getD (Int.toNat (0:Int)) d_farkas_table) (o3)) pe)) (tc ((awp_abs (fun (x3 : (List Int) × Bool) => ⟨36,[(9,vs x3.1),(10,vb x3.2)],[]⟩) (farkas_table_refuted.fn (x2.1.getD (Int.toNat (0:Int)) d_farkas_table)) ?_)))))))
      intro x3 hx3
      replace h := h x3 hx3
      refine awp_abs (fun (x4 : (List Int)) => ⟨36,[(9,vs x4),(10,vb x3.2)],[]⟩) (x3.1) ?_
      intro x4 hx4
      replace h := h x4 hx4
      refine awp_spine (rc [9,34] [] [] [] ⟨36,[(9,vs x4),(34,vb (!x3.2))],[]⟩ (pe) (tc ((awp_cond (b := !x3.2) (by kernel_rfl) (fun hb => ?_) (fun hb => ?_)))))
      · replace h := h.1 ((nt hb))
        refine awp_spine (rc [4,5] [] [] [] ⟨36,[(4,.nils),(5,vi (5:Int))],[]⟩ (pe) (tc ((awp_ret (tr (tr (tr (tr (tr (tr (tr (?_))))))))))))
        exact re hk (.tup [vs ((([] : List Int),5).1),vi ((([] : List Int),5).2)]) [.keep [4,5],.nilAt 4 [] tI,.keep [4,5]] ⟨36,[(4,vs ([] : List Int)),(5,vi (5:Int))],[]⟩ ⟨(([] : List Int),5),rfl,rfl,h⟩
      · replace h := h.2 ((nf hb))
        refine awp_skip (tc ((awp_spine (rc [4,5] [] [] [] ⟨36,[(4,vs x4),(5,vi 0)],[]⟩ (pe) (tc ((awp_ret (tr (tr (tr (tr (tr (tr (tr (?_)))))))))))))))
        exact re hk (.tup [vs ((x4,0).1),vi ((x4,0).2)]) [.keep [4,5]] ⟨36,[(4,vs x4),(5,vi 0)],[]⟩ ⟨(x4,0),rfl,rfl,h⟩
theorem ok_farkas_Prove (a1 : (List api_Cond)) (a2:Int) : OkC prog 11 [.d (.sl t_api_Cond) a1,vi a2] (.tup [vs ((farkas_Prove.fn a1 a2).1),vi ((farkas_Prove.fn a1 a2).2)]) :=
  OkC.of call_farkas_Prove ((walk_farkas_Prove a1 a2 _ (farkas_Prove.spec a1 a2)).mono fun r o ⟨x,hr,ho,hx⟩ => ⟨by rw [hr,hx],ho⟩) rfl rfl (fun _ => rfl)

noncomputable abbrev b24 : Code := bodyOf Try.f24
theorem call_law09_ge : CallOk prog 24 := ⟨_,Try.func24,by kernel_rfl,by kernel_rfl⟩
theorem walk_law09_ge (a1:Int) (a2 : (List Int)) (Q : api_Cond → Prop) (h : law09_ge.wp a1 a2 Q) : VCalls prog 24 [vi a1,vs a2] [] (fun r o => ∃ x,r = .agg (c_api_Cond x) ∧ o = [] ∧ Q x) := by
  refine body Try.func24 (spine (subC [0] b24) [(spine (subC [1,0] b24) [.ret])]) fun cx hd hi hk => ?_
  show AWp prog cx _ _ ⟨9,[(0,vi a1),(1,vs a2)],[]⟩
  replace hk : cx.E.len = 0 := hk
  unfold law09_ge.wp at h
  refine awp_spine (rc [0,1,4] [] [] [] ⟨9,[(0,vi a1),(1,vs a2),(4,.ref 0 0 0)],[.box [vi 0,vi 0,.nils,vi 0]]⟩ (pe) (tc ((awp_spine (rc [4] [] [] [] ⟨9,[(4,.ref 0 0 0)],[.box [vi 0,vi 0,vs a2,vi a1]]⟩ (pe) (tc ((awp_ret (tr (tr (?_)))))))))))
  exact re hk (.agg (c_api_Cond (0,0,(a2,a1)))) [.keep [4]] ⟨9,[(4,.ref 0 0 0)],[.box [vi 0,vi 0,vs a2,vi a1]]⟩ ⟨(0,0,(a2,a1)),rfl,rfl,h⟩
theorem ok_law09_ge (a1:Int) (a2 : (List Int)) (h : law09_ge.pre a1 a2) : OkC prog 24 [vi a1,vs a2] (.agg (c_api_Cond (law09_ge.fn a1 a2))) :=
  OkC.of call_law09_ge ((walk_law09_ge a1 a2 _ (law09_ge.spec a1 a2 h)).mono fun r o ⟨x,hr,ho,hx⟩ => ⟨by rw [hr,hx],ho⟩) rfl rfl (fun _ => rfl)

noncomputable abbrev b40 : Code := bodyOf Try.f40
theorem call_ref02_Order : CallOk prog 40 := ⟨_,Try.func40,by kernel_rfl,by kernel_rfl⟩
theorem walk_ref02_Order (a1 : (List Int)) (a2 : (List Int)) (Q : Int → Prop) (h : ref02_Order.wp a1 a2 Q) : VCalls prog 40 [vs a1,vs a2] [] (fun r o => ∃ x,r = vi x ∧ o = [] ∧ Q x) := by
  refine body Try.func40 (spine (subC [0] b40) [(spine (subC [1,0,0] b40) [(.block 0 (.loop (spine (subC [1,0,1,0,0,0] b40) [(spine (.cond (.tmp 9) .skip (.exit 0)) [(spine (.block 1 (spine (subC [1,0,1,0,0,1,1,0,0,0] b40) [(.block 2 (spine (subC [1,0,1,0,0,1,1,0,0,1,0,0] b40) [(.cond (.tmp 11) (spine (subC [1,0,1,0,0,1,1,0,0,1,0,1,0,0] b40) [.ret]) (spine (subC [1,0,1,0,0,1,1,0,0,1,0,1,1,0] b40) [(.cond (.tmp 21) (spine (subC [1,0,1,0,0,1,1,0,0,1,0,1,1,1,0,0] b40) [.ret]) .skip)]))]))])) [(subC [1,0,1,0,0,1,1,1] b40)])])]))),(spine (subC [1,1,0] b40) [.ret])])]) fun cx hd hi hk => ?_
  show AWp prog cx _ _ ⟨32,[(0,vs a1),(1,vs a2)],[]⟩
  replace hk : cx.E.len = 0 := hk
  unfold ref02_Order.wp at h
  refine awp_spine (rc [0,1] [] [] [] ⟨32,[(0,vs a1),(1,vs a2)],[]⟩ (pe) (tc ((awp_spine (rc [0,1,7,8] [] [] [] ⟨32,[(0,vs a1),(1,vs a2),(7,vi (a1.length:Int)),(8,vi 0)],[]⟩ (pe) (tc ((awp_len 0 [] (T := tI) (l := a1) (by kernel_rfl) fun hl => ?_))))))))
  replace h := h hl
  obtain ⟨I4,⟨n4a,hz4⟩,hI4⟩ := h
  refine awp_block (awp_loopN (fun n s => ∃ (x2:Int),I4 n x2 ∧ s = ⟨32,[(0,vs a1),(1,vs a2),(7,vi (a1.length:Int)),(8,vi x2)],[]⟩) (n := n4a) (s0 := ⟨32,[(0,vs a1),(1,vs a2),(7,vi (a1.length:Int)),(8,vi 0)],[]⟩) (wk_ghosts hk (l := [.keep [0,1,7,8]]) (by kernel_rfl)) ⟨0,hz4,rfl⟩ ?_)
  rintro n4 s ⟨x2,hx4,rfl⟩
  have h := hI4 n4 x2 hx4
  refine awp_spine (rc [0,1,7,8,9] [] [] [] ⟨32,[(0,vs a1),(1,vs a2),(7,vi (a1.length:Int)),(8,vi x2),(9,vb (decide (x2 < (a1.length:Int))))],[]⟩ (pe) (tc ((awp_spine (awp_cond (b := decide (x2 < (a1.length:Int))) (by kernel_rfl) (fun hb => ?_) (fun hb => ?_))))))
  · replace h := h.1 (of_decide_eq_true hb)
    obtain ⟨o1,o2,h⟩ := h
    refine awp_skip (tc ((awp_spine (awp_block (awp_spine (rc [0,1,5,7,8] [] [] [] ⟨32,[(0,vs a1),(1,vs a2),(5,vi x2),(7,vi (a1.length:Int)),(8,vi x2)],[]⟩ (pe) (tc ((awp_block (awp_spine (dr hk [0,1,5,7,8,11] [] [] [] ⟨[[],[],[0,1],[0,1,2],[],[],[4,5],[4,5,6],(lr 8),(lr 9)],[vs a1,vi x2,.er [vi (gI a1 x2)],vi (gI a1 x2),vs a2,vi x2,.er [vi (gI a2 x2)],vi (gI a2 x2),vb (decide ((gI a1 x2) < (gI a2 x2))),vb (decide ((gI a1 x2) < (gI a2 x2)))],_,[],[([],[])],[],[]⟩ ⟨32,[(0,vs a1),(1,vs a2),(5,vi x2),(7,vi (a1.length:Int)),(8,vi x2),(11,vb (decide ((gI a1 x2) < (gI a2 x2))))],[]⟩ (.n (.n (.s o1 (.n (.n (.n (.s o2 (.n (.n (.n AllO.e)))))))))) (tc ((awp_cond (b := decide ((gI a1 x2) < (gI a2 x2))) (by kernel_rfl) (fun hb => ?_) (fun hb => ?_)))))))))))))))
    · replace h := h.1 (of_decide_eq_true hb)
      refine awp_spine (rc [4] [] [] [] ⟨32,[(4,vi (-1))],[]⟩ (pe) (tc ((awp_ret (tr (tr (blk_r (tr (blk_r (tr (tr (tr (tr (blk_r (tr (tr (?_)))))))))))))))))
      exact re hk (vi (-1)) [.keep [4]] ⟨32,[(4,vi (-1))],[]⟩ ⟨(-1),rfl,rfl,h⟩
    · replace h := h.2 (of_decide_eq_false hb)
      obtain ⟨o3,o4,h⟩ := h
      refine awp_spine (dr hk [0,1,7,8,21] [] [] [] ⟨[[],[],[0,1],[0,1,2],[],[],[4,5],[4,5,6],(lr 8),(lr 9)],[vs a1,vi x2,.er [vi (gI a1 x2)],vi (gI a1 x2),vs a2,vi x2,.er [vi (gI a2 x2)],vi (gI a2 x2),vb (decide ((gI a1 x2) > (gI a2 x2))),vb (decide ((gI a1 x2) > (gI a2 x2)))],_,[],[([],[])],[],[]⟩ ⟨32,[(0,vs a1),(1,vs a2),(7,vi (a1.length:Int)),(8,vi x2),(21,vb (decide ((gI a1 x2) > (gI a2 x2))))],[]⟩ (.n (.n (.s o3 (.n (.n (.n (.s o4 (.n (.n (.n AllO.e)))))))))) (tc ((awp_cond (b := decide ((gI a1 x2) > (gI a2 x2))) (by kernel_rfl) (fun hb => ?_) (fun hb => ?_)))))
      · replace h := h.1 (of_decide_eq_true hb)
        refine awp_spine (rc [4] [] [] [] ⟨32,[(4,vi (1:Int))],[]⟩ (pe) (tc ((awp_ret (tr (tr (tr (blk_r (tr (blk_r (tr (tr (tr (tr (blk_r (tr (tr (?_))))))))))))))))))
        exact re hk (vi (1:Int)) [.keep [4]] ⟨32,[(4,vi (1:Int))],[]⟩ ⟨1,rfl,rfl,h⟩
      · replace h := h.2 (of_decide_eq_false hb)
        obtain ⟨o5,h⟩ := h
        refine awp_skip (te ((te ((blk_n (te ((blk_n (tc ((rc [0,1,7,8] [] [] [] ⟨32,[(0,vs a1),(1,vs a2),(7,vi (a1.length:Int)),(8,vi (x2 + (1:Int)))],[]⟩ (pn o5 pe) (te ((te ((te ((then_n (?_)))))))))))))))))))
        obtain ⟨m,hm,h⟩ := h
        exact ⟨m,hm,⟨32,[(0,vs a1),(1,vs a2),(7,vi (a1.length:Int)),(8,vi (x2 + (1:Int)))],[]⟩,wk_ghosts hk (l := [.keep [0,1,7,8]]) (by kernel_rfl),x2 + (1:Int),h,rfl⟩
  · replace h := h.2 (of_decide_eq_false hb)
    refine awp_exit (then_x (then_x (then_x (blk_h (tc ((awp_spine (rc [4] [] [] [] ⟨32,[(4,vi 0)],[]⟩ (pe) (tc ((awp_ret (tr (tr (tr (?_)))))))))))))))
    exact re hk (vi 0) [.keep [4]] ⟨32,[(4,vi 0)],[]⟩ ⟨0,rfl,rfl,h⟩
theorem ok_ref02_Order (a1 : (List Int)) (a2 : (List Int)) (h : ref02_Order.pre a1 a2) : OkC prog 40 [vs a1,vs a2] (vi (ref02_Order.fn a1 a2)) :=
  OkC.of call_ref02_Order ((walk_ref02_Order a1 a2 _ (ref02_Order.spec a1 a2 h)).mono fun r o ⟨x,hr,ho,hx⟩ => ⟨by rw [hr,hx],ho⟩) rfl rfl (fun _ => rfl)

noncomputable abbrev b15 : Code := bodyOf Try.f15
theorem call_law09_list : CallOk prog 15 := ⟨_,Try.func15,by kernel_rfl,by kernel_rfl⟩
theorem walk_law09_list (a1 : (List Int)) (a2 : (List Int)) (Q : Bool → Prop) (h : law09_list.wp a1 a2 Q) : VCalls prog 15 [vs a1,vs a2] [] (fun r o => ∃ x,r = vb x ∧ o = [] ∧ Q x) := by
  refine body Try.func15 (spine (subC [0] b15) [(spine (subC [1,0] b15) [.ret])]) fun cx hd hi hk => ?_
  show AWp prog cx _ _ ⟨16,[(0,vs a1),(1,vs a2)],[]⟩
  replace hk : cx.E.len = 0 := hk
  unfold law09_list.wp at h
  obtain ⟨o1,h⟩ := h
  refine awp_spine (rc [0,1] [] [] [] ⟨16,[(0,vs a1),(1,vs a2)],[]⟩ (pe) (tc ((awp_spine (rc [4] [] [(8,.dat (vi (ref02_Order.fn a1 a2)))] [] ⟨16,[(4,vb (((a1.length:Int) == (a2.length:Int)) && ((ref02_Order.fn a1 a2) == (0:Int))))],[]⟩ (pn (fun hg => ⟨hg,hg,ok_ref02_Order a1 a2 ((o1 hg))⟩ : ((a1.length:Int) == (a2.length:Int)) = true → ((a1.length:Int) == (a2.length:Int)) = true ∧ (((a1.length:Int) == (a2.length:Int)) = true ∧ (OkC prog 40 [vs a1,vs a2] (vi (ref02_Order.fn a1 a2))))) (pn (fun hg => ⟨hg,trivial⟩ : ((a1.length:Int) == (a2.length:Int)) = true → ((a1.length:Int) == (a2.length:Int)) = true ∧ True) (pn (fun hc => hc : ((a1.length:Int) == (a2.length:Int)) = true → ((a1.length:Int) == (a2.length:Int)) = true) pe))) (tc ((awp_abs (fun (x1:Int) => ⟨16,[(4,vb (((a1.length:Int) == (a2.length:Int)) && (x1 == (0:Int))))],[]⟩) (ref02_Order.fn a1 a2) ?_))))))))
  intro x1 hx1
  replace h := h x1 hx1
  refine awp_ret (tr (tr (?_)))
  exact re hk (vb (((a1.length:Int) == (a2.length:Int)) && (x1 == (0:Int)))) [.keep [4]] ⟨16,[(4,vb (((a1.length:Int) == (a2.length:Int)) && (x1 == (0:Int))))],[]⟩ ⟨((a1.length:Int) == (a2.length:Int)) && (x1 == (0:Int)),rfl,rfl,h⟩
theorem ok_law09_list (a1 : (List Int)) (a2 : (List Int)) : OkC prog 15 [vs a1,vs a2] (vb (law09_list.fn a1 a2)) :=
  OkC.of call_law09_list ((walk_law09_list a1 a2 _ (law09_list.spec a1 a2)).mono fun r o ⟨x,hr,ho,hx⟩ => ⟨by rw [hr,hx],ho⟩) rfl rfl (fun _ => rfl)

noncomputable abbrev b10 : Code := bodyOf Try.f10
theorem call_law09_awake : CallOk prog 10 := ⟨_,Try.func10,by kernel_rfl,by kernel_rfl⟩
theorem walk_law09_awake (Q : Bool → Prop) (h : law09_awake.wp Q) : VCalls prog 10 [] [] (fun r o => ∃ x,r = vb x ∧ o = [] ∧ Q x) := by
  refine body Try.func10 (spine (subC [0] b10) [(spine (subC [1,0] b10) [(spine (subC [1,1,0] b10) [(spine (subC [1,1,1,0] b10) [(spine (subC [1,1,1,1,0] b10) [(spine (subC [1,1,1,1,1,0] b10) [(spine (subC [1,1,1,1,1,1,0] b10) [.ret])])])])])])]) fun cx hd hi hk => ?_
  show AWp prog cx _ _ ⟨77,[],[]⟩
  replace hk : cx.E.len = 0 := hk
  unfold law09_awake.wp at h
  obtain ⟨o1,o2,h⟩ := h
  refine awp_spine (rc [] [] [] [] ⟨77,[],[]⟩ (pe) (tc ((awp_spine (rc [1,2] [] [(1,.dat (.agg (c_api_Cond (law09_ge.fn (-3) [1])))),(3,.dat (.agg (c_api_Cond (law09_ge.fn (2:Int) [(-1)])))),(5,.dat (.tup [vs ((farkas_Prove.fn [law09_ge.fn (-3) [1],law09_ge.fn (2:Int) [(-1)]] (1:Int)).1),vi ((farkas_Prove.fn [law09_ge.fn (-3) [1],law09_ge.fn (2:Int) [(-1)]] (1:Int)).2)]))] [0,2,4] ⟨77,[(1,vs ((farkas_Prove.fn [law09_ge.fn (-3) [1],law09_ge.fn (2:Int) [(-1)]] (1:Int)).1)),(2,vi ((farkas_Prove.fn [law09_ge.fn (-3) [1],law09_ge.fn (2:Int) [(-1)]] (1:Int)).2))],[]⟩ (pn (by decide : 1 * 1 ≤ 16777216) (pn (ok_law09_ge (-3) [1] (o1)) (pn (by decide : 1 * 1 ≤ 16777216) (pn (ok_law09_ge (2:Int) [(-1)] (o2)) (pn (by decide : 2 * 4 ≤ 16777216) (pn (ok_farkas_Prove [law09_ge.fn (-3) [1],law09_ge.fn (2:Int) [(-1)]] (1:Int)) pe)))))) (tc ((awp_abs (fun (x1 : (List Int) × Int) => ⟨77,[(1,vs x1.1),(2,vi x1.2)],[]⟩) (farkas_Prove.fn [law09_ge.fn (-3) [1],law09_ge.fn (2:Int) [(-1)]] (1:Int)) ?_))))))))
  intro x1 hx1
  replace h := h x1 hx1
  refine awp_abs (fun (x2 : (List Int)) => ⟨77,[(1,vs x2),(2,vi x1.2)],[]⟩) (x1.1) ?_
  intro x2 hx2
  replace h := h x2 hx2
  refine awp_abs (fun (x3:Int) => ⟨77,[(1,vs x2),(2,vi x3)],[]⟩) (x1.2) ?_
  intro x3 hx3
  replace h := h x3 hx3
  refine awp_spine (rc [1,2,3] [] [] [0] ⟨77,[(1,vs x2),(2,vi x3),(3,.osl 0 0)],[.row t_api_Cond [(1,0,([2],(-1)))] 0]⟩ (pn (by decide : 1 * 1 ≤ 16777216) (pn (by decide : 1 * 4 ≤ 16777216) pe)) (tc ((awp_spine (awp_gh hk [.freeze 0,.keep [1,2,3]] ⟨77,[(1,vs x2),(2,vi x3),(3,.d (.sl t_api_Cond) [(1,0,([2],(-1)))])],[.dead]⟩ (by kernel_rfl) (rc [1,2,3,5] [] [(1,.dat (.tup [vs ((farkas_Prove.fn [(1,0,([2],(-1)))] (1:Int)).1),vi ((farkas_Prove.fn [(1,0,([2],(-1)))] (1:Int)).2)]))] [] ⟨77,[(1,vs x2),(2,vi x3),(3,.d (.sl t_api_Cond) [(1,0,([2],(-1)))]),(5,vi ((farkas_Prove.fn [(1,0,([2],(-1)))] (1:Int)).2))],[.dead]⟩ (pn (ok_farkas_Prove [(1,0,([2],(-1)))] (1:Int)) pe) (tc ((awp_abs (fun (x4 : (List Int) × Int) => ⟨77,[(1,vs x2),(2,vi x3),(3,.d (.sl t_api_Cond) [(1,0,([2],(-1)))]),(5,vi x4.2)],[.dead]⟩) (farkas_Prove.fn [(1,0,([2],(-1)))] (1:Int)) ?_)))))))))
  intro x4 hx4
  replace h := h x4 hx4
  refine awp_abs (fun (x5:Int) => ⟨77,[(1,vs x2),(2,vi x3),(3,.d (.sl t_api_Cond) [(1,0,([2],(-1)))]),(5,vi x5)],[.dead]⟩) (x4.2) ?_
  intro x5 hx5
  replace h := h x5 hx5
  refine awp_spine (rc [1,2,5,6,7,8] [] [(1,.dat (.tup [vs ((farkas_Inner.fn [(1,0,([2],(-1)))] (1:Int)).1),vi ((farkas_Inner.fn [(1,0,([2],(-1)))] (1:Int)).2.1),vi ((farkas_Inner.fn [(1,0,([2],(-1)))] (1:Int)).2.2)]))] [] ⟨77,[(1,vs x2),(2,vi x3),(5,vi x5),(6,vs ((farkas_Inner.fn [(1,0,([2],(-1)))] (1:Int)).1)),(7,vi ((farkas_Inner.fn [(1,0,([2],(-1)))] (1:Int)).2.1)),(8,vi ((farkas_Inner.fn [(1,0,([2],(-1)))] (1:Int)).2.2))],[.dead]⟩ (pn (ok_farkas_Inner [(1,0,([2],(-1)))] (1:Int)) pe) (tc ((awp_abs (fun (x6 : (List Int) × Int × Int) => ⟨77,[(1,vs x2),(2,vi x3),(5,vi x5),(6,vs x6.1),(7,vi x6.2.1),(8,vi x6.2.2)],[.dead]⟩) (farkas_Inner.fn [(1,0,([2],(-1)))] (1:Int)) ?_))))
  intro x6 hx6
  replace h := h x6 hx6
  refine awp_abs (fun (x7 : (List Int)) => ⟨77,[(1,vs x2),(2,vi x3),(5,vi x5),(6,vs x7),(7,vi x6.2.1),(8,vi x6.2.2)],[.dead]⟩) (x6.1) ?_
  intro x7 hx7
  replace h := h x7 hx7
  refine awp_abs (fun (x8:Int) => ⟨77,[(1,vs x2),(2,vi x3),(5,vi x5),(6,vs x7),(7,vi x8),(8,vi x6.2.2)],[.dead]⟩) (x6.2.1) ?_
  intro x8 hx8
  replace h := h x8 hx8
  refine awp_abs (fun (x9:Int) => ⟨77,[(1,vs x2),(2,vi x3),(5,vi x5),(6,vs x7),(7,vi x8),(8,vi x9)],[.dead]⟩) (x6.2.2) ?_
  intro x9 hx9
  replace h := h x9 hx9
  obtain ⟨o3,o4,h⟩ := h
  refine awp_spine (rc [1,2,5,6,7,8,9,10] [] [(1,.dat (.agg (c_api_Cond (law09_ge.fn (0:Int) [1,(-1)])))),(3,.dat (.agg (c_api_Cond (law09_ge.fn (-1) [(-1),1])))),(5,.dat (.tup [vs ((farkas_Prove.fn [law09_ge.fn (0:Int) [1,(-1)],law09_ge.fn (-1) [(-1),1]] (2:Int)).1),vi ((farkas_Prove.fn [law09_ge.fn (0:Int) [1,(-1)],law09_ge.fn (-1) [(-1),1]] (2:Int)).2)]))] [0,2,4] ⟨77,[(1,vs x2),(2,vi x3),(5,vi x5),(6,vs x7),(7,vi x8),(8,vi x9),(9,vs ((farkas_Prove.fn [law09_ge.fn (0:Int) [1,(-1)],law09_ge.fn (-1) [(-1),1]] (2:Int)).1)),(10,vi ((farkas_Prove.fn [law09_ge.fn (0:Int) [1,(-1)],law09_ge.fn (-1) [(-1),1]] (2:Int)).2))],[.dead]⟩ (pn (by decide : 2 * 1 ≤ 16777216) (pn (ok_law09_ge (0:Int) [1,(-1)] (o3)) (pn (by decide : 2 * 1 ≤ 16777216) (pn (ok_law09_ge (-1) [(-1),1] (o4)) (pn (by decide : 2 * 4 ≤ 16777216) (pn (ok_farkas_Prove [law09_ge.fn (0:Int) [1,(-1)],law09_ge.fn (-1) [(-1),1]] (2:Int)) pe)))))) (tc ((awp_abs (fun (x10 : (List Int) × Int) => ⟨77,[(1,vs x2),(2,vi x3),(5,vi x5),(6,vs x7),(7,vi x8),(8,vi x9),(9,vs x10.1),(10,vi x10.2)],[.dead]⟩) (farkas_Prove.fn [law09_ge.fn (0:Int) [1,(-1)],law09_ge.fn (-1) [(-1),1]] (2:Int)) ?_))))
  intro x10 hx10
  replace h := h x10 hx10
  refine awp_abs (fun (x11 : (List Int)) => ⟨77,[(1,vs x2),(2,vi x3),(5,vi x5),(6,vs x7),(7,vi x8),(8,vi x9),(9,vs x11),(10,vi x10.2)],[.dead]⟩) (x10.1) ?_
  intro x11 hx11
  replace h := h x11 hx11
  refine awp_abs (fun (x12:Int) => ⟨77,[(1,vs x2),(2,vi x3),(5,vi x5),(6,vs x7),(7,vi x8),(8,vi x9),(9,vs x11),(10,vi x12)],[.dead]⟩) (x10.2) ?_
  intro x12 hx12
  replace h := h x12 hx12
  refine awp_spine (rc [0] [] [(5,.dat (vb (law09_list.fn x2 [1,1]))),(18,.dat (vb (law09_list.fn x7 [1]))),(31,.dat (vb (law09_list.fn x11 [1,1])))] [] ⟨77,[(0,vb ((((((((x3 == (0:Int)) && (law09_list.fn x2 [1,1])) && (x5 == (5:Int))) && (x9 == (0:Int))) && (law09_list.fn x7 [1])) && (x8 == (2:Int))) && (x12 == (0:Int))) && (law09_list.fn x11 [1,1])))],[.dead]⟩ (pn (fun hg => by decide : (x3 == (0:Int)) = true → 2 * 1 ≤ 16777216) (pn (fun hg => ⟨hg,hg,ok_law09_list x2 [1,1]⟩ : (x3 == (0:Int)) = true → (x3 == (0:Int)) = true ∧ ((x3 == (0:Int)) = true ∧ (OkC prog 15 [vs x2,vs [1,1]] (vb (law09_list.fn x2 [1,1]))))) (pn (fun hc => hc : (x3 == (0:Int)) = true → (x3 == (0:Int)) = true) (pn (fun hg => ⟨hg,trivial⟩ : ((x3 == (0:Int)) && (law09_list.fn x2 [1,1])) = true → ((x3 == (0:Int)) && (law09_list.fn x2 [1,1])) = true ∧ True) (pn (fun hc => hc : ((x3 == (0:Int)) && (law09_list.fn x2 [1,1])) = true → ((x3 == (0:Int)) && (law09_list.fn x2 [1,1])) = true) (pn (fun hg => ⟨hg,trivial⟩ : (((x3 == (0:Int)) && (law09_list.fn x2 [1,1])) && (x5 == (5:Int))) = true → (((x3 == (0:Int)) && (law09_list.fn x2 [1,1])) && (x5 == (5:Int))) = true ∧ True) (pn (fun hc => hc : (((x3 == (0:Int)) && (law09_list.fn x2 [1,1])) && (x5 == (5:Int))) = true → (((x3 == (0:Int)) && (law09_list.fn x2 [1,1])) && (x5 == (5:Int))) = true) (pn (fun hg => by decide : ((((x3 == (0:Int)) && (law09_list.fn x2 [1,1])) && (x5 == (5:Int))) && (x9 == (0:Int))) = true → 1 * 1 ≤ 16777216) (pn (fun hg => ⟨hg,hg,ok_law09_list x7 [1]⟩ : ((((x3 == (0:Int)) && (law09_list.fn x2 [1,1])) && (x5 == (5:Int))) && (x9 == (0:Int))) = true → ((((x3 == (0:Int)) && (law09_list.fn x2 [1,1])) && (x5 == (5:Int))) && (x9 == (0:Int))) = true ∧ (((((x3 == (0:Int)) && (law09_list.fn x2 [1,1])) && (x5 == (5:Int))) && (x9 == (0:Int))) = true ∧ (OkC prog 15 [vs x7,vs [1]] (vb (law09_list.fn x7 [1]))))) (pn (fun hc => hc : ((((x3 == (0:Int)) && (law09_list.fn x2 [1,1])) && (x5 == (5:Int))) && (x9 == (0:Int))) = true → ((((x3 == (0:Int)) && (law09_list.fn x2 [1,1])) && (x5 == (5:Int))) && (x9 == (0:Int))) = true) (pn (fun hg => ⟨hg,trivial⟩ : (((((x3 == (0:Int)) && (law09_list.fn x2 [1,1])) && (x5 == (5:Int))) && (x9 == (0:Int))) && (law09_list.fn x7 [1])) = true → (((((x3 == (0:Int)) && (law09_list.fn x2 [1,1])) && (x5 == (5:Int))) && (x9 == (0:Int))) && (law09_list.fn x7 [1])) = true ∧ True) (pn (fun hc => hc : (((((x3 == (0:Int)) && (law09_list.fn x2 [1,1])) && (x5 == (5:Int))) && (x9 == (0:Int))) && (law09_list.fn x7 [1])) = true → (((((x3 == (0:Int)) && (law09_list.fn x2 [1,1])) && (x5 == (5:Int))) && (x9 == (0:Int))) && (law09_list.fn x7 [1])) = true) (pn (fun hg => ⟨hg,trivial⟩ : ((((((x3 == (0:Int)) && (law09_list.fn x2 [1,1])) && (x5 == (5:Int))) && (x9 == (0:Int))) && (law09_list.fn x7 [1])) && (x8 == (2:Int))) = true → ((((((x3 == (0:Int)) && (law09_list.fn x2 [1,1])) && (x5 == (5:Int))) && (x9 == (0:Int))) && (law09_list.fn x7 [1])) && (x8 == (2:Int))) = true ∧ True) (pn (fun hc => hc : ((((((x3 == (0:Int)) && (law09_list.fn x2 [1,1])) && (x5 == (5:Int))) && (x9 == (0:Int))) && (law09_list.fn x7 [1])) && (x8 == (2:Int))) = true → ((((((x3 == (0:Int)) && (law09_list.fn x2 [1,1])) && (x5 == (5:Int))) && (x9 == (0:Int))) && (law09_list.fn x7 [1])) && (x8 == (2:Int))) = true) (pn (fun hg => by decide : (((((((x3 == (0:Int)) && (law09_list.fn x2 [1,1])) && (x5 == (5:Int))) && (x9 == (0:Int))) && (law09_list.fn x7 [1])) && (x8 == (2:Int))) && (x12 == (0:Int))) = true → 2 * 1 ≤ 16777216) (pn (fun hg => ⟨hg,hg,ok_law09_list x11 [1,1]⟩ : (((((((x3 == (0:Int)) && (law09_list.fn x2 [1,1])) && (x5 == (5:Int))) && (x9 == (0:Int))) && (law09_list.fn x7 [1])) && (x8 == (2:Int))) && (x12 == (0:Int))) = true → (((((((x3 == (0:Int)) && (law09_list.fn x2 [1,1])) && (x5 == (5:Int))) && (x9 == (0:Int))) && (law09_list.fn x7 [1])) && (x8 == (2:Int))) && (x12 == (0:Int))) = true ∧ ((((((((x3 == (0:Int)) && (law09_list.fn x2 [1,1])) && (x5 == (5:Int))) && (x9 == (0:Int))) && (law09_list.fn x7 [1])) && (x8 == (2:Int))) && (x12 == (0:Int))) = true ∧ (OkC prog 15 [vs x11,vs [1,1]] (vb (law09_list.fn x11 [1,1]))))) (pn (fun hc => hc : (((((((x3 == (0:Int)) && (law09_list.fn x2 [1,1])) && (x5 == (5:Int))) && (x9 == (0:Int))) && (law09_list.fn x7 [1])) && (x8 == (2:Int))) && (x12 == (0:Int))) = true → (((((((x3 == (0:Int)) && (law09_list.fn x2 [1,1])) && (x5 == (5:Int))) && (x9 == (0:Int))) && (law09_list.fn x7 [1])) && (x8 == (2:Int))) && (x12 == (0:Int))) = true) pe))))))))))))))))) ?_)
  refine tc ((awp_ret (tr (tr (tr (tr (tr (tr (tr (?_))))))))))
  exact re hk (vb ((((((((x3 == (0:Int)) && (law09_list.fn x2 [1,1])) && (x5 == (5:Int))) && (x9 == (0:Int))) && (law09_list.fn x7 [1])) && (x8 == (2:Int))) && (x12 == (0:Int))) && (law09_list.fn x11 [1,1]))) [.keep [0]] ⟨77,[(0,vb ((((((((x3 == (0:Int)) && (law09_list.fn x2 [1,1])) && (x5 == (5:Int))) && (x9 == (0:Int))) && (law09_list.fn x7 [1])) && (x8 == (2:Int))) && (x12 == (0:Int))) && (law09_list.fn x11 [1,1])))],[.dead]⟩ ⟨(((((((x3 == (0:Int)) && (law09_list.fn x2 [1,1])) && (x5 == (5:Int))) && (x9 == (0:Int))) && (law09_list.fn x7 [1])) && (x8 == (2:Int))) && (x12 == (0:Int))) && (law09_list.fn x11 [1,1]),rfl,rfl,h⟩
theorem ok_law09_awake (h : law09_awake.pre ) : OkC prog 10 [] (vb law09_awake.fn) :=
  OkC.of call_law09_awake ((walk_law09_awake  _ (law09_awake.spec  h)).mono fun r o ⟨x,hr,ho,hx⟩ => ⟨by rw [hr,hx],ho⟩) rfl rfl (fun _ => rfl)

noncomputable abbrev b9 : Code := bodyOf Try.f9
theorem call_law09_light : CallOk prog 9 := ⟨_,Try.func9,by kernel_rfl,by kernel_rfl⟩
theorem walk_law09_light (a1 : (List api_Cond)) (a2:Int) (Q : Bool → Prop) (h : law09_light.wp a1 a2 Q) : VCalls prog 9 [.d (.sl t_api_Cond) a1,vi a2] [] (fun r o => ∃ x,r = vb x ∧ o = [] ∧ Q x) := by
  refine body Try.func9 (spine (subC [0] b9) [(spine (subC [1,0] b9) [.ret])]) fun cx hd hi hk => ?_
  show AWp prog cx _ _ ⟨19,[(0,.d (.sl t_api_Cond) a1),(1,vi a2)],[]⟩
  replace hk : cx.E.len = 0 := hk
  unfold law09_light.wp at h
  refine awp_spine (rc [0,1] [] [] [] ⟨19,[(0,.d (.sl t_api_Cond) a1),(1,vi a2)],[]⟩ (pe) (tc ((awp_spine (rc [4] [] [] [] ⟨19,[(4,vb ((decide ((a1.length:Int) ≤ a2)) || ((decide ((a1.length:Int) > (96:Int))) && (decide ((a1.length:Int) ≤ (100:Int))))))],[]⟩ (pn (fun hg => ⟨hg,trivial⟩ : (!(decide ((a1.length:Int) ≤ a2))) = true → (!(decide ((a1.length:Int) ≤ a2))) = true ∧ True) (pn (fun hg => ⟨hg,trivial⟩ : (!(decide ((a1.length:Int) ≤ a2))) = true → (!(decide ((a1.length:Int) ≤ a2))) = true ∧ True) (pn (fun hg => ⟨hg,trivial⟩ : (!(decide ((a1.length:Int) ≤ a2))) = true → (!(decide ((a1.length:Int) ≤ a2))) = true ∧ True) (pn (fun hg => ⟨hg,trivial⟩ : ((!(decide ((a1.length:Int) ≤ a2))) && (decide ((a1.length:Int) > (96:Int)))) = true → ((!(decide ((a1.length:Int) ≤ a2))) && (decide ((a1.length:Int) > (96:Int)))) = true ∧ True) (pn (fun hg => ⟨hg,trivial⟩ : ((!(decide ((a1.length:Int) ≤ a2))) && (decide ((a1.length:Int) > (96:Int)))) = true → ((!(decide ((a1.length:Int) ≤ a2))) && (decide ((a1.length:Int) > (96:Int)))) = true ∧ True) (pn (fun hg => ⟨hg,fun hc => and_t hg hc⟩ : (!(decide ((a1.length:Int) ≤ a2))) = true → (!(decide ((a1.length:Int) ≤ a2))) = true ∧ ((decide ((a1.length:Int) > (96:Int))) = true → ((!(decide ((a1.length:Int) ≤ a2))) && (decide ((a1.length:Int) > (96:Int)))) = true)) (pn (fun hc => not_f hc : (decide ((a1.length:Int) ≤ a2)) = false → (!(decide ((a1.length:Int) ≤ a2))) = true) pe))))))) (tc ((awp_ret (tr (tr (?_)))))))))))
  exact re hk (vb ((decide ((a1.length:Int) ≤ a2)) || ((decide ((a1.length:Int) > (96:Int))) && (decide ((a1.length:Int) ≤ (100:Int)))))) [.keep [4]] ⟨19,[(4,vb ((decide ((a1.length:Int) ≤ a2)) || ((decide ((a1.length:Int) > (96:Int))) && (decide ((a1.length:Int) ≤ (100:Int))))))],[]⟩ ⟨(decide ((a1.length:Int) ≤ a2)) || ((decide ((a1.length:Int) > (96:Int))) && (decide ((a1.length:Int) ≤ (100:Int)))),rfl,rfl,h⟩
theorem ok_law09_light (a1 : (List api_Cond)) (a2:Int) : OkC prog 9 [.d (.sl t_api_Cond) a1,vi a2] (vb (law09_light.fn a1 a2)) :=
  OkC.of call_law09_light ((walk_law09_light a1 a2 _ (law09_light.spec a1 a2)).mono fun r o ⟨x,hr,ho,hx⟩ => ⟨by rw [hr,hx],ho⟩) rfl rfl (fun _ => rfl)

noncomputable abbrev b68 : Code := bodyOf Try.f68
theorem call_ref09_Int_Abs : CallOk prog 68 := ⟨_,Try.func68,by kernel_rfl,by kernel_rfl⟩
theorem walk_ref09_Int_Abs (a1 : ref09_Int) (Q : ref09_Int → Prop) (h : ref09_Int_Abs.wp a1 Q) : VCalls prog 68 [.agg (c_farkas_row a1)] [] (fun r o => ∃ x,r = .agg (c_farkas_row x) ∧ o = [] ∧ Q x) := by
  refine body Try.func68 (spine (subC [0] b68) [(spine (subC [1,0] b68) [.ret])]) fun cx hd hi hk => ?_
  show AWp prog cx _ _ ⟨6,[(0,.agg (c_farkas_row a1))],[]⟩
  replace hk : cx.E.len = 0 := hk
  unfold ref09_Int_Abs.wp at h
  refine awp_spine (rc [1,2] [] [] [0] ⟨6,[(1,.er (c_farkas_row a1)),(2,.ref 0 0 0)],[.box [vb false,.nils]]⟩ (pe) (tc ((awp_spine (rc [2] [] [] [] ⟨6,[(2,.ref 0 0 0)],[.box [vb false,vs a1.2]]⟩ (pe) (tc ((awp_ret (tr (tr (?_)))))))))))
  exact re hk (.agg (c_farkas_row (false,a1.2))) [.keep [2]] ⟨6,[(2,.ref 0 0 0)],[.box [vb false,vs a1.2]]⟩ ⟨(false,a1.2),rfl,rfl,h⟩
theorem ok_ref09_Int_Abs (a1 : ref09_Int) : OkC prog 68 [.agg (c_farkas_row a1)] (.agg (c_farkas_row (ref09_Int_Abs.fn a1))) :=
  OkC.of call_ref09_Int_Abs ((walk_ref09_Int_Abs a1 _ (ref09_Int_Abs.spec a1)).mono fun r o ⟨x,hr,ho,hx⟩ => ⟨by rw [hr,hx],ho⟩) rfl rfl (fun _ => rfl)

noncomputable abbrev b66 : Code := bodyOf Try.f66
theorem call_ref09_trim : CallOk prog 66 := ⟨_,Try.func66,by kernel_rfl,by kernel_rfl⟩
theorem walk_ref09_trim (a1 : (List Int)) (Q : (List Int) → Prop) (h : ref09_trim.wp a1 Q) : VCalls prog 66 [vs a1] [] (fun r o => ∃ x,r = vs x ∧ o = [] ∧ Q x) := by
  refine body Try.func66 (spine (subC [0] b66) [(spine (.block 0 (.loop (spine (subC [1,0,0,0,0,0] b66) [(.cond (.tmp 14) .skip (.exit 0)),(.block 1 (subC [1,0,0,0,1,0] b66))]))) [(spine (subC [1,1,0] b66) [.ret])])]) fun cx hd hi hk => ?_
  show AWp prog cx _ _ ⟨21,[(0,vs a1)],[]⟩
  replace hk : cx.E.len = 0 := hk
  unfold ref09_trim.wp at h
  obtain ⟨I4,⟨n4a,hz4⟩,hI4⟩ := h
  refine awp_spine (rc [0] [] [] [] ⟨21,[(0,vs a1)],[]⟩ (pe) (tc ((awp_spine (awp_block (awp_loopN (fun n s => ∃ (x2 : (List Int)),I4 n x2 ∧ s = ⟨21,[(0,vs x2)],[]⟩) (n := n4a) (s0 := ⟨21,[(0,vs a1)],[]⟩) (wk_ghosts hk (l := [.keep [0]]) (by kernel_rfl)) ⟨a1,hz4,rfl⟩ ?_))))))
  rintro n4 s ⟨x2,hx4,rfl⟩
  have h := hI4 n4 x2 hx4
  obtain ⟨o1,o2,h⟩ := h
  refine awp_spine (rc [0,14] [] [] [] ⟨21,[(0,vs x2),(14,vb ((decide ((x2.length:Int) > (0:Int))) && ((gI x2 ((x2.length:Int) - (1:Int))) == (0:Int))))],[]⟩ (pn (fun hg => ⟨hg,trivial⟩ : (decide ((x2.length:Int) > (0:Int))) = true → (decide ((x2.length:Int) > (0:Int))) = true ∧ True) (pn (fun hg => ⟨hg,(o1 hg)⟩ : (decide ((x2.length:Int) > (0:Int))) = true → (decide ((x2.length:Int) > (0:Int))) = true ∧ (-9223372036854775808 ≤ (x2.length:Int) - (1:Int) ∧ (x2.length:Int) - (1:Int) ≤ 9223372036854775807)) (pn (fun hg => ⟨hg,hg,(o2 hg)⟩ : (decide ((x2.length:Int) > (0:Int))) = true → (decide ((x2.length:Int) > (0:Int))) = true ∧ ((decide ((x2.length:Int) > (0:Int))) = true ∧ ((0:Int) ≤ ((x2.length:Int) - (1:Int)) ∧ ((x2.length:Int) - (1:Int)) < (x2.length:Int)))) (pn (fun hg => ⟨hg,trivial⟩ : (decide ((x2.length:Int) > (0:Int))) = true → (decide ((x2.length:Int) > (0:Int))) = true ∧ True) (pn (fun hg => ⟨hg,trivial⟩ : (decide ((x2.length:Int) > (0:Int))) = true → (decide ((x2.length:Int) > (0:Int))) = true ∧ True) (pn (fun hc => hc : (decide ((x2.length:Int) > (0:Int))) = true → (decide ((x2.length:Int) > (0:Int))) = true) pe)))))) (tc ((awp_len 0 [] (T := tI) (l := x2) (by kernel_rfl) fun hl => ?_))))
  replace h := h hl
  refine awp_cond (b := (decide ((x2.length:Int) > (0:Int))) && ((gI x2 ((x2.length:Int) - (1:Int))) == (0:Int))) (by kernel_rfl) (fun hb => ?_) (fun hb => ?_)
  · replace h := h.1 (hb)
    obtain ⟨o3,o4,h⟩ := h
    refine awp_skip (tc ((awp_block (rc [0] [] [] [] ⟨21,[(0,vs (x2.take (Int.toNat ((x2.length:Int) - (1:Int)))))],[]⟩ (pn o3 (pn o4 pe)) (blk_n (te ((then_n (?_)))))))))
    obtain ⟨m,hm,h⟩ := h
    exact ⟨m,hm,⟨21,[(0,vs (x2.take (Int.toNat ((x2.length:Int) - (1:Int)))))],[]⟩,wk_ghosts hk (l := [.keep [0]]) (by kernel_rfl),x2.take (Int.toNat ((x2.length:Int) - (1:Int))),h,rfl⟩
  · replace h := h.2 (hb)
    refine awp_exit (then_x (then_x (blk_h (tc ((awp_spine (rc [2] [] [] [] ⟨21,[(2,vs x2)],[]⟩ (pe) (tc ((awp_ret (tr (tr (tr (?_))))))))))))))
    exact re hk (vs x2) [.keep [2]] ⟨21,[(2,vs x2)],[]⟩ ⟨x2,rfl,rfl,h⟩
theorem ok_ref09_trim (a1 : (List Int)) (h : ref09_trim.pre a1) : OkC prog 66 [vs a1] (vs (ref09_trim.fn a1)) :=
  OkC.of call_ref09_trim ((walk_ref09_trim a1 _ (ref09_trim.spec a1 h)).mono fun r o ⟨x,hr,ho,hx⟩ => ⟨by rw [hr,hx],ho⟩) rfl rfl (fun _ => rfl)

noncomputable abbrev b74 : Code := bodyOf Try.f74
theorem call_ref09_minus : CallOk prog 74 := ⟨_,Try.func74,by kernel_rfl,by kernel_rfl⟩
theorem walk_ref09_minus (a1 : (List Int)) (a2 : (List Int)) (Q : (List Int) → Prop) (h : ref09_minus.wp a1 a2 Q) : VCalls prog 74 [vs a1,vs a2] [] (fun r o => ∃ x,r = vs x ∧ o = [] ∧ Q x) := by
  refine body Try.func74 (spine (subC [0] b74) [(spine (subC [1,0] b74) [(spine (subC [1,1,0] b74) [(spine (subC [1,1,1,0,0] b74) [(.block 0 (.loop (spine (subC [1,1,1,0,1,0,0,0] b74) [(spine (.cond (.tmp 12) .skip (.exit 0)) [(spine (.block 1 (spine (subC [1,1,1,0,1,0,0,1,1,0,0,0] b74) [(spine (subC [1,1,1,0,1,0,0,1,1,0,0,1,0] b74) [(spine (subC [1,1,1,0,1,0,0,1,1,0,0,1,1,0,0] b74) [(.cond (.tmp 23) (subC [1,1,1,0,1,0,0,1,1,0,0,1,1,0,1,0] b74) .skip),(spine (subC [1,1,1,0,1,0,0,1,1,0,0,1,1,1,0] b74) [(spine (subC [1,1,1,0,1,0,0,1,1,0,0,1,1,1,1,0,0] b74) [(.cond (.tmp 31) (subC [1,1,1,0,1,0,0,1,1,0,0,1,1,1,1,0,1,0] b74) .skip),(subC [1,1,1,0,1,0,0,1,1,0,0,1,1,1,1,1] b74)])])])])])) [(subC [1,1,1,0,1,0,0,1,1,1] b74)])])]))),(spine (subC [1,1,1,1,0] b74) [.ret])])])])]) fun cx hd hi hk => ?_
  show AWp prog cx _ _ ⟨41,[(0,vs a1),(1,vs a2)],[]⟩
  replace hk : cx.E.len = 0 := hk
  unfold ref09_minus.wp at h
  refine awp_spine (rc [0,1] [] [] [] ⟨41,[(0,vs a1),(1,vs a2)],[]⟩ (pe) (tc ((awp_spine (rc [0,1,5] [] [] [] ⟨41,[(0,vs a1),(1,vs a2),(5,.nils)],[]⟩ (pe) (tc ((awp_spine (rc [0,1,5,6] [] [] [] ⟨41,[(0,vs a1),(1,vs a2),(5,.nils),(6,vi 0)],[]⟩ (pe) (tc ((awp_spine (rc [0,1,5,6,10,11] [] [] [] ⟨41,[(0,vs a1),(1,vs a2),(5,.nils),(6,vi 0),(10,vi (a1.length:Int)),(11,vi 0)],[]⟩ (pe) (tc ((awp_len 0 [] (T := tI) (l := a1) (by kernel_rfl) fun hl => ?_))))))))))))))))
  replace h := h hl
  obtain ⟨I10,⟨n10a,hz10⟩,hI10⟩ := h
  refine awp_block (awp_loopN (fun n s => ∃ (x4:Int) (x5:Int) (x6 : (List Int)),I10 n x4 x5 x6 ∧ s = ⟨41,[(0,vs a1),(1,vs a2),(5,.osl 0 0),(6,vi x4),(10,vi (a1.length:Int)),(11,vi x5)],[.row tI x6 0]⟩) (n := n10a) (s0 := ⟨41,[(0,vs a1),(1,vs a2),(5,.osl 0 0),(6,vi 0),(10,vi (a1.length:Int)),(11,vi 0)],[.row tI ([] : List Int) 0]⟩) (wk_ghosts hk (l := [.keep [0,1,5,6,10,11],.adopt 5 tI,.keep [0,1,5,6,10,11]]) (by kernel_rfl)) ⟨0,0,([] : List Int),hz10,rfl⟩ ?_)
  rintro n10 s ⟨x4,x5,x6,hx10,rfl⟩
  have h := hI10 n10 x4 x5 x6 hx10
  refine awp_spine (rc [0,1,5,6,10,11,12] [] [] [] ⟨41,[(0,vs a1),(1,vs a2),(5,.osl 0 0),(6,vi x4),(10,vi (a1.length:Int)),(11,vi x5),(12,vb (decide (x5 < (a1.length:Int))))],[.row tI x6 0]⟩ (pe) (tc ((awp_spine (awp_cond (b := decide (x5 < (a1.length:Int))) (by kernel_rfl) (fun hb => ?_) (fun hb => ?_))))))
  · replace h := h.1 (of_decide_eq_true hb)
    obtain ⟨o1,o2,h⟩ := h
    refine awp_skip (tc ((awp_spine (awp_block (awp_spine (rc [0,1,5,6,7,10,11] [] [] [] ⟨41,[(0,vs a1),(1,vs a2),(5,.osl 0 0),(6,vi x4),(7,vi x5),(10,vi (a1.length:Int)),(11,vi x5)],[.row tI x6 0]⟩ (pe) (tc ((awp_spine (rc [0,1,5,7,8,10,11] [] [] [] ⟨41,[(0,vs a1),(1,vs a2),(5,.osl 0 0),(7,vi x5),(8,vi ((gI a1 x5) - x4)),(10,vi (a1.length:Int)),(11,vi x5)],[.row tI x6 0]⟩ (pn o1 (pn o2 pe)) (tc ((awp_spine (rc [0,1,5,7,8,10,11,23] [] [] [] ⟨41,[(0,vs a1),(1,vs a2),(5,.osl 0 0),(7,vi x5),(8,vi ((gI a1 x5) - x4)),(10,vi (a1.length:Int)),(11,vi x5),(23,vb (decide (x5 < (a2.length:Int))))],[.row tI x6 0]⟩ (pe) (tc ((awp_len 1 [] (T := tI) (l := a2) (by kernel_rfl) fun hl => ?_)))))))))))))))))
    replace h := h hl
    obtain ⟨R12,hA12,hB12⟩ := h
    refine awp_meet (fun s' => ∃ (x11:Int),R12 x11 ∧ Wk cx s' ⟨41,[(0,vs a1),(1,vs a2),(5,.osl 0 0),(8,vi x11),(10,vi (a1.length:Int)),(11,vi x5)],[.row tI x6 0]⟩) ?_ ?_
    · have h := hA12
      refine awp_cond (b := decide (x5 < (a2.length:Int))) (by kernel_rfl) (fun hb => ?_) (fun hb => ?_)
      · replace h := h.1 (of_decide_eq_true hb)
        obtain ⟨o3,o4,h⟩ := h
        refine rc [0,1,5,8,10,11] [] [] [] ⟨41,[(0,vs a1),(1,vs a2),(5,.osl 0 0),(8,vi (((gI a1 x5) - x4) - (gI a2 x5))),(10,vi (a1.length:Int)),(11,vi x5)],[.row tI x6 0]⟩ (pn o3 (pn o4 pe)) (then_n (?_))
        exact ⟨((gI a1 x5) - x4) - (gI a2 x5),h,wk_ghosts hk (l := [.keep [0,1,5,8,10,11]]) (by kernel_rfl)⟩
      · replace h := h.2 (of_decide_eq_false hb)
        refine awp_skip (then_n (?_))
        exact ⟨(gI a1 x5) - x4,h,wk_ghosts hk (l := [.keep [0,1,5,8,10,11]]) (by kernel_rfl)⟩
    · rintro s' ⟨x11,hx12,hw12⟩
      have h := hB12 x11 hx12
      refine spine_c (awp_wk hw12 (awp_spine (rc [0,1,5,6,8,10,11] [] [] [] ⟨41,[(0,vs a1),(1,vs a2),(5,.osl 0 0),(6,vi 0),(8,vi x11),(10,vi (a1.length:Int)),(11,vi x5)],[.row tI x6 0]⟩ (pe) (tc ((awp_spine (rc [0,1,5,6,8,10,11,31] [] [] [] ⟨41,[(0,vs a1),(1,vs a2),(5,.osl 0 0),(6,vi 0),(8,vi x11),(10,vi (a1.length:Int)),(11,vi x5),(31,vb (decide (x11 < (0:Int))))],[.row tI x6 0]⟩ (pe) (tc ((awp_cond (b := decide (x11 < (0:Int))) (by kernel_rfl) (fun hb => ?_) (fun hb => ?_)))))))))))
      · replace h := h.1 (of_decide_eq_true hb)
        obtain ⟨o5,h⟩ := h
        obtain ⟨o6,h⟩ := h
        obtain ⟨o7,h⟩ := h
        refine rc [0,1,5,6,8,10,11] [] [] [] ⟨41,[(0,vs a1),(1,vs a2),(5,.osl 0 0),(6,vi (1:Int)),(8,vi (x11 + (65536:Int))),(10,vi (a1.length:Int)),(11,vi x5)],[.row tI x6 0]⟩ (pn o5 pe) (tc ((rc [0,1,5,6,10,11] [] [] [2] ⟨41,[(0,vs a1),(1,vs a2),(5,.osl 0 1),(6,vi (1:Int)),(10,vi (a1.length:Int)),(11,vi x5)],[.row tI (x6 ++ [x11 + (65536:Int)]) 1]⟩ (pn (by decide : 1 * 1 ≤ 16777216) (pn o6 pe)) (te ((te ((te ((te ((te ((blk_n (tc ((rc [0,1,5,6,10,11] [] [] [] ⟨41,[(0,vs a1),(1,vs a2),(5,.osl 0 1),(6,vi (1:Int)),(10,vi (a1.length:Int)),(11,vi (x5 + (1:Int)))],[.row tI (x6 ++ [x11 + (65536:Int)]) 1]⟩ (pn o7 pe) (te ((te ((te ((then_n (?_)))))))))))))))))))))))))
        obtain ⟨m,hm,h⟩ := h
        exact ⟨m,hm,⟨41,[(0,vs a1),(1,vs a2),(5,.osl 0 0),(6,vi (1:Int)),(10,vi (a1.length:Int)),(11,vi (x5 + (1:Int)))],[.row tI (x6 ++ [x11 + (65536:Int)]) 0]⟩,wk_ghosts hk (l := [.keep [0,1,5,6,10,11],.reset 0,.keep [0,1,5,6,10,11]]) (by kernel_rfl),1,x5 + (1:Int),x6 ++ [x11 + (65536:Int)],h,rfl⟩
      · replace h := h.2 (of_decide_eq_false hb)
        obtain ⟨o8,h⟩ := h
        obtain ⟨o9,h⟩ := h
        refine awp_skip (tc ((rc [0,1,5,6,10,11] [] [] [2] ⟨41,[(0,vs a1),(1,vs a2),(5,.osl 0 1),(6,vi 0),(10,vi (a1.length:Int)),(11,vi x5)],[.row tI (x6 ++ [x11]) 1]⟩ (pn (by decide : 1 * 1 ≤ 16777216) (pn o8 pe)) (te ((te ((te ((te ((te ((blk_n (tc ((rc [0,1,5,6,10,11] [] [] [] ⟨41,[(0,vs a1),(1,vs a2),(5,.osl 0 1),(6,vi 0),(10,vi (a1.length:Int)),(11,vi (x5 + (1:Int)))],[.row tI (x6 ++ [x11]) 1]⟩ (pn o9 pe) (te ((te ((te ((then_n (?_)))))))))))))))))))))))))
        obtain ⟨m,hm,h⟩ := h
        exact ⟨m,hm,⟨41,[(0,vs a1),(1,vs a2),(5,.osl 0 0),(6,vi 0),(10,vi (a1.length:Int)),(11,vi (x5 + (1:Int)))],[.row tI (x6 ++ [x11]) 0]⟩,wk_ghosts hk (l := [.keep [0,1,5,6,10,11],.reset 0,.keep [0,1,5,6,10,11]]) (by kernel_rfl),0,x5 + (1:Int),x6 ++ [x11],h,rfl⟩
  · replace h := h.2 (of_decide_eq_false hb)
    obtain ⟨o10,h⟩ := h
    refine awp_exit (then_x (then_x (then_x (blk_h (tc ((awp_spine (awp_gh hk [.freeze 0,.keep [0,1,5,6,10,11,12]] ⟨41,[(0,vs a1),(1,vs a2),(5,vs x6),(6,vi x4),(10,vi (a1.length:Int)),(11,vi x5),(12,vb (decide (x5 < (a1.length:Int))))],[.dead]⟩ (by kernel_rfl) (rc [4] [] [(1,.dat (vs (ref09_trim.fn x6)))] [] ⟨41,[(4,vs (ref09_trim.fn x6))],[.dead]⟩ (pn (ok_ref09_trim x6 (o10)) pe) (tc ((awp_abs (fun (x13 : (List Int)) => ⟨41,[(4,vs x13)],[.dead]⟩) (ref09_trim.fn x6) ?_))))))))))))
    intro x13 hx13
    replace h := h x13 hx13
    refine awp_ret (tr (tr (tr (tr (tr (?_))))))
    exact re hk (vs x13) [.keep [4]] ⟨41,[(4,vs x13)],[.dead]⟩ ⟨x13,rfl,rfl,h⟩
theorem ok_ref09_minus (a1 : (List Int)) (a2 : (List Int)) (h : ref09_minus.pre a1 a2) : OkC prog 74 [vs a1,vs a2] (vs (ref09_minus.fn a1 a2)) :=
  OkC.of call_ref09_minus ((walk_ref09_minus a1 a2 _ (ref09_minus.spec a1 a2 h)).mono fun r o ⟨x,hr,ho,hx⟩ => ⟨by rw [hr,hx],ho⟩) rfl rfl (fun _ => rfl)

noncomputable abbrev b73 : Code := bodyOf Try.f73
theorem call_ref09_order : CallOk prog 73 := ⟨_,Try.func73,by kernel_rfl,by kernel_rfl⟩
theorem walk_ref09_order (a1 : (List Int)) (a2 : (List Int)) (Q : Int → Prop) (h : ref09_order.wp a1 a2 Q) : VCalls prog 73 [vs a1,vs a2] [] (fun r o => ∃ x,r = vi x ∧ o = [] ∧ Q x) := by
  refine body Try.func73 (spine (subC [0] b73) [(spine (subC [1,0,0] b73) [(.cond (.tmp 10) (spine (subC [1,0,1,0,0,0] b73) [(.cond (.tmp 15) (spine (subC [1,0,1,0,0,1,0,0] b73) [.ret]) .skip),(spine (subC [1,0,1,0,1,0] b73) [.ret])]) .skip),(spine (subC [1,1,0,0] b73) [(.block 0 (.loop (spine (subC [1,1,0,1,0,0,0,0] b73) [(.cond (.tmp 20) .skip (.exit 0)),(spine (.block 1 (spine (subC [1,1,0,1,0,0,1,0,0,0] b73) [(.cond (.tmp 31) (spine (subC [1,1,0,1,0,0,1,0,0,1,0,0,0] b73) [(.cond (.tmp 40) (spine (subC [1,1,0,1,0,0,1,0,0,1,0,0,1,0,0] b73) [.ret]) .skip),(spine (subC [1,1,0,1,0,0,1,0,0,1,0,1,0] b73) [.ret])]) .skip)])) [(subC [1,1,0,1,0,0,1,1] b73)])]))),(spine (subC [1,1,1,0] b73) [.ret])])])]) fun cx hd hi hk => ?_
  show AWp prog cx _ _ ⟨41,[(0,vs a1),(1,vs a2)],[]⟩
  replace hk : cx.E.len = 0 := hk
  unfold ref09_order.wp at h
  refine awp_spine (rc [0,1] [] [] [] ⟨41,[(0,vs a1),(1,vs a2)],[]⟩ (pe) (tc ((awp_spine (rc [0,1,10] [] [] [] ⟨41,[(0,vs a1),(1,vs a2),(10,vb ((a1.length:Int) != (a2.length:Int)))],[]⟩ (pe) (tc ((awp_len 0 [] (T := tI) (l := a1) (by kernel_rfl) fun hl => ?_))))))))
  replace h := h hl
  refine awp_len 1 [] (T := tI) (l := a2) (by kernel_rfl) fun hl => ?_
  replace h := h hl
  refine awp_cond (b := (a1.length:Int) != (a2.length:Int)) (by kernel_rfl) (fun hb => ?_) (fun hb => ?_)
  · replace h := h.1 (bne_iff_ne.mp hb)
    refine awp_spine (rc [15] [] [] [] ⟨41,[(15,vb (decide ((a1.length:Int) < (a2.length:Int))))],[]⟩ (pe) (tc ((awp_cond (b := decide ((a1.length:Int) < (a2.length:Int))) (by kernel_rfl) (fun hb => ?_) (fun hb => ?_)))))
    · replace h := h.1 (of_decide_eq_true hb)
      refine awp_spine (rc [4] [] [] [] ⟨41,[(4,vi (-1))],[]⟩ (pe) (tc ((awp_ret (tr (tr (tr (tr (?_)))))))))
      exact re hk (vi (-1)) [.keep [4]] ⟨41,[(4,vi (-1))],[]⟩ ⟨(-1),rfl,rfl,h⟩
    · replace h := h.2 (of_decide_eq_false hb)
      refine awp_skip (tc ((awp_spine (rc [4] [] [] [] ⟨41,[(4,vi (1:Int))],[]⟩ (pe) (tc ((awp_ret (tr (tr (tr (tr (?_))))))))))))
      exact re hk (vi (1:Int)) [.keep [4]] ⟨41,[(4,vi (1:Int))],[]⟩ ⟨1,rfl,rfl,h⟩
  · replace h := h.2 (bne_f hb)
    obtain ⟨o1,h⟩ := h
    refine awp_skip (tc ((awp_spine (rc [0,1,5] [] [] [] ⟨41,[(0,vs a1),(1,vs a2),(5,vi ((a1.length:Int) - (1:Int)))],[]⟩ (pn o1 pe) (tc ((awp_len 0 [] (T := tI) (l := a1) (by kernel_rfl) fun hl => ?_)))))))
    replace h := h hl
    obtain ⟨I4,⟨n4a,hz4⟩,hI4⟩ := h
    refine awp_block (awp_loopN (fun n s => ∃ (x2:Int),I4 n x2 ∧ s = ⟨41,[(0,vs a1),(1,vs a2),(5,vi x2)],[]⟩) (n := n4a) (s0 := ⟨41,[(0,vs a1),(1,vs a2),(5,vi ((a1.length:Int) - (1:Int)))],[]⟩) (wk_ghosts hk (l := [.keep [0,1,5]]) (by kernel_rfl)) ⟨(a1.length:Int) - (1:Int),hz4,rfl⟩ ?_)
    rintro n4 s ⟨x2,hx4,rfl⟩
    have h := hI4 n4 x2 hx4
    refine awp_spine (rc [0,1,5,20] [] [] [] ⟨41,[(0,vs a1),(1,vs a2),(5,vi x2),(20,vb (decide (x2 ≥ (0:Int))))],[]⟩ (pe) (tc ((awp_cond (b := decide (x2 ≥ (0:Int))) (by kernel_rfl) (fun hb => ?_) (fun hb => ?_)))))
    · replace h := h.1 (of_decide_eq_true hb)
      obtain ⟨o2,o3,h⟩ := h
      refine awp_skip (tc ((awp_spine (awp_block (awp_spine (dr hk [0,1,5,31] [] [] [] ⟨[[],[],[0,1],[0,1,2],[],[],[4,5],[4,5,6],(lr 8)],[vs a1,vi x2,.er [vi (gI a1 x2)],vi (gI a1 x2),vs a2,vi x2,.er [vi (gI a2 x2)],vi (gI a2 x2),vb ((gI a1 x2) != (gI a2 x2))],_,[],[([],[])],[],[]⟩ ⟨41,[(0,vs a1),(1,vs a2),(5,vi x2),(31,vb ((gI a1 x2) != (gI a2 x2)))],[]⟩ (.n (.n (.s o2 (.n (.n (.n (.s o3 (.n (.n AllO.e))))))))) (tc ((awp_cond (b := (gI a1 x2) != (gI a2 x2)) (by kernel_rfl) (fun hb => ?_) (fun hb => ?_))))))))))
      · replace h := h.1 (bne_iff_ne.mp hb)
        obtain ⟨o4,o5,h⟩ := h
        refine awp_spine (dr hk [40] [] [] [] ⟨[[],[],[0,1],[0,1,2],[],[],[4,5],[4,5,6],(lr 8)],[vs a1,vi x2,.er [vi (gI a1 x2)],vi (gI a1 x2),vs a2,vi x2,.er [vi (gI a2 x2)],vi (gI a2 x2),vb (decide ((gI a1 x2) < (gI a2 x2)))],_,[],[([],[])],[],[]⟩ ⟨41,[(40,vb (decide ((gI a1 x2) < (gI a2 x2))))],[]⟩ (.n (.n (.s o4 (.n (.n (.n (.s o5 (.n (.n AllO.e))))))))) (tc ((awp_cond (b := decide ((gI a1 x2) < (gI a2 x2))) (by kernel_rfl) (fun hb => ?_) (fun hb => ?_)))))
        · replace h := h.1 (of_decide_eq_true hb)
          refine awp_spine (rc [4] [] [] [] ⟨41,[(4,vi (-1))],[]⟩ (pe) (tc ((awp_ret (tr (tr (tr (blk_r (tr (tr (tr (blk_r (tr (tr (tr (?_))))))))))))))))
          exact re hk (vi (-1)) [.keep [4]] ⟨41,[(4,vi (-1))],[]⟩ ⟨(-1),rfl,rfl,h⟩
        · replace h := h.2 (of_decide_eq_false hb)
          refine awp_skip (tc ((awp_spine (rc [4] [] [] [] ⟨41,[(4,vi (1:Int))],[]⟩ (pe) (tc ((awp_ret (tr (tr (tr (blk_r (tr (tr (tr (blk_r (tr (tr (tr (?_)))))))))))))))))))
          exact re hk (vi (1:Int)) [.keep [4]] ⟨41,[(4,vi (1:Int))],[]⟩ ⟨1,rfl,rfl,h⟩
      · replace h := h.2 (bne_f hb)
        obtain ⟨o6,h⟩ := h
        refine awp_skip (te ((blk_n (tc ((rc [0,1,5] [] [] [] ⟨41,[(0,vs a1),(1,vs a2),(5,vi (x2 - (1:Int)))],[]⟩ (pn o6 pe) (te ((te ((then_n (?_))))))))))))
        obtain ⟨m,hm,h⟩ := h
        exact ⟨m,hm,⟨41,[(0,vs a1),(1,vs a2),(5,vi (x2 - (1:Int)))],[]⟩,wk_ghosts hk (l := [.keep [0,1,5]]) (by kernel_rfl),x2 - (1:Int),h,rfl⟩
    · replace h := h.2 (of_decide_eq_false hb)
      refine awp_exit (then_x (then_x (blk_h (tc ((awp_spine (rc [4] [] [] [] ⟨41,[(4,vi 0)],[]⟩ (pe) (tc ((awp_ret (tr (tr (tr (tr (?_)))))))))))))))
      exact re hk (vi 0) [.keep [4]] ⟨41,[(4,vi 0)],[]⟩ ⟨0,rfl,rfl,h⟩
theorem ok_ref09_order (a1 : (List Int)) (a2 : (List Int)) (h : ref09_order.pre a1 a2) : OkC prog 73 [vs a1,vs a2] (vi (ref09_order.fn a1 a2)) :=
  OkC.of call_ref09_order ((walk_ref09_order a1 a2 _ (ref09_order.spec a1 a2 h)).mono fun r o ⟨x,hr,ho,hx⟩ => ⟨by rw [hr,hx],ho⟩) rfl rfl (fun _ => rfl)

noncomputable abbrev b72 : Code := bodyOf Try.f72
theorem call_ref09_plus : CallOk prog 72 := ⟨_,Try.func72,by kernel_rfl,by kernel_rfl⟩
theorem walk_ref09_plus (a1 : (List Int)) (a2 : (List Int)) (Q : (List Int) → Prop) (h : ref09_plus.wp a1 a2 Q) : VCalls prog 72 [vs a1,vs a2] [] (fun r o => ∃ x,r = vs x ∧ o = [] ∧ Q x) := by
  refine body Try.func72 (spine (subC [0] b72) [(spine (subC [1,0] b72) [(spine (subC [1,1,0] b72) [(spine (subC [1,1,1,0,0] b72) [(.block 0 (.loop (spine (subC [1,1,1,0,1,0,0,0,0] b72) [(.cond (.tmp 21) .skip (.exit 0)),(spine (.block 1 (spine (subC [1,1,1,0,1,0,0,1,0,0,0,0] b72) [(.cond (.tmp 27) (subC [1,1,1,0,1,0,0,1,0,0,0,1,0] b72) .skip),(spine (subC [1,1,1,0,1,0,0,1,0,0,1,0,0] b72) [(.cond (.tmp 37) (subC [1,1,1,0,1,0,0,1,0,0,1,0,1,0] b72) .skip),(spine (subC [1,1,1,0,1,0,0,1,0,0,1,1,0] b72) [(subC [1,1,1,0,1,0,0,1,0,0,1,1,1] b72)])])])) [(subC [1,1,1,0,1,0,0,1,1] b72)])]))),(spine (subC [1,1,1,1,0] b72) [.ret])])])])]) fun cx hd hi hk => ?_
  show AWp prog cx _ _ ⟨53,[(0,vs a1),(1,vs a2)],[]⟩
  replace hk : cx.E.len = 0 := hk
  unfold ref09_plus.wp at h
  obtain ⟨I10,⟨n10a,hz10⟩,hI10⟩ := h
  refine awp_spine (rc [0,1] [] [] [] ⟨53,[(0,vs a1),(1,vs a2)],[]⟩ (pe) (tc ((awp_spine (rc [0,1,5] [] [] [] ⟨53,[(0,vs a1),(1,vs a2),(5,.nils)],[]⟩ (pe) (tc ((awp_spine (rc [0,1,5,6] [] [] [] ⟨53,[(0,vs a1),(1,vs a2),(5,.nils),(6,vi 0)],[]⟩ (pe) (tc ((awp_spine (rc [0,1,5,6,7] [] [] [] ⟨53,[(0,vs a1),(1,vs a2),(5,.nils),(6,vi 0),(7,vi 0)],[]⟩ (pe) (tc ((awp_block (awp_loopN (fun n s => ∃ (x4:Int) (x5:Int) (x6 : (List Int)),I10 n x4 x5 x6 ∧ s = ⟨53,[(0,vs a1),(1,vs a2),(5,.osl 0 0),(6,vi x4),(7,vi x5)],[.row tI x6 0]⟩) (n := n10a) (s0 := ⟨53,[(0,vs a1),(1,vs a2),(5,.osl 0 0),(6,vi 0),(7,vi 0)],[.row tI ([] : List Int) 0]⟩) (wk_ghosts hk (l := [.keep [0,1,5,6,7],.adopt 5 tI,.keep [0,1,5,6,7]]) (by kernel_rfl)) ⟨0,0,([] : List Int),hz10,rfl⟩ ?_)))))))))))))))))
  rintro n10 s ⟨x4,x5,x6,hx10,rfl⟩
  have h := hI10 n10 x4 x5 x6 hx10
  refine awp_spine (rc [0,1,5,6,7,21] [] [] [] ⟨53,[(0,vs a1),(1,vs a2),(5,.osl 0 0),(6,vi x4),(7,vi x5),(21,vb (((decide (x5 < (a1.length:Int))) || (decide (x5 < (a2.length:Int)))) || (decide (x4 > (0:Int)))))],[.row tI x6 0]⟩ (pn (fun hg => ⟨hg,trivial⟩ : (!(decide (x5 < (a1.length:Int)))) = true → (!(decide (x5 < (a1.length:Int)))) = true ∧ True) (pn (fun hg => ⟨hg,hg,trivial⟩ : (!(decide (x5 < (a1.length:Int)))) = true → (!(decide (x5 < (a1.length:Int)))) = true ∧ ((!(decide (x5 < (a1.length:Int)))) = true ∧ True)) (pn (fun hc => not_f hc : (decide (x5 < (a1.length:Int))) = false → (!(decide (x5 < (a1.length:Int)))) = true) (pn (fun hg => ⟨hg,trivial⟩ : (!((decide (x5 < (a1.length:Int))) || (decide (x5 < (a2.length:Int))))) = true → (!((decide (x5 < (a1.length:Int))) || (decide (x5 < (a2.length:Int))))) = true ∧ True) (pn (fun hc => not_f hc : ((decide (x5 < (a1.length:Int))) || (decide (x5 < (a2.length:Int)))) = false → (!((decide (x5 < (a1.length:Int))) || (decide (x5 < (a2.length:Int))))) = true) pe))))) (tc ((awp_len 0 [] (T := tI) (l := a1) (by kernel_rfl) fun hl => ?_))))
  replace h := h hl
  refine awp_cond (b := ((decide (x5 < (a1.length:Int))) || (decide (x5 < (a2.length:Int)))) || (decide (x4 > (0:Int)))) (by kernel_rfl) (fun hb => ?_) (fun hb => ?_)
  · replace h := h.1 (hb)
    refine awp_skip (tc ((awp_spine (awp_block (awp_spine (rc [0,1,5,6,7,27] [] [] [] ⟨53,[(0,vs a1),(1,vs a2),(5,.osl 0 0),(6,vi x4),(7,vi x5),(27,vb (decide (x5 < (a1.length:Int))))],[.row tI x6 0]⟩ (pe) (tc ((awp_len 0 [] (T := tI) (l := a1) (by kernel_rfl) fun hl => ?_)))))))))
    replace h := h hl
    obtain ⟨R12,hA12,hB12⟩ := h
    refine awp_meet (fun s' => ∃ (x11:Int),R12 x11 ∧ Wk cx s' ⟨53,[(0,vs a1),(1,vs a2),(5,.osl 0 0),(6,vi x11),(7,vi x5)],[.row tI x6 0]⟩) ?_ ?_
    · have h := hA12
      refine awp_cond (b := decide (x5 < (a1.length:Int))) (by kernel_rfl) (fun hb => ?_) (fun hb => ?_)
      · replace h := h.1 (of_decide_eq_true hb)
        obtain ⟨o1,o2,h⟩ := h
        refine rc [0,1,5,6,7] [] [] [] ⟨53,[(0,vs a1),(1,vs a2),(5,.osl 0 0),(6,vi (x4 + (gI a1 x5))),(7,vi x5)],[.row tI x6 0]⟩ (pn o1 (pn o2 pe)) (then_n (?_))
        exact ⟨x4 + (gI a1 x5),h,wk_ghosts hk (l := [.keep [0,1,5,6,7]]) (by kernel_rfl)⟩
      · replace h := h.2 (of_decide_eq_false hb)
        refine awp_skip (then_n (?_))
        exact ⟨x4,h,wk_ghosts hk (l := [.keep [0,1,5,6,7]]) (by kernel_rfl)⟩
    · rintro s' ⟨x11,hx12,hw12⟩
      have h := hB12 x11 hx12
      refine spine_c (awp_wk hw12 (awp_spine (rc [0,1,5,6,7,37] [] [] [] ⟨53,[(0,vs a1),(1,vs a2),(5,.osl 0 0),(6,vi x11),(7,vi x5),(37,vb (decide (x5 < (a2.length:Int))))],[.row tI x6 0]⟩ (pe) (tc ((awp_len 1 [] (T := tI) (l := a2) (by kernel_rfl) fun hl => ?_))))))
      replace h := h hl
      refine awp_cond (b := decide (x5 < (a2.length:Int))) (by kernel_rfl) (fun hb => ?_) (fun hb => ?_)
      · replace h := h.1 (of_decide_eq_true hb)
        obtain ⟨o3,o4,h⟩ := h
        obtain ⟨o5,h⟩ := h
        refine rc [0,1,5,6,7] [] [] [] ⟨53,[(0,vs a1),(1,vs a2),(5,.osl 0 0),(6,vi (x11 + (gI a2 x5))),(7,vi x5)],[.row tI x6 0]⟩ (pn o3 (pn o4 pe)) (tc ((awp_spine (rc [0,1,5,6,7] [] [] [3] ⟨53,[(0,vs a1),(1,vs a2),(5,.osl 0 1),(6,vi (x11 + (gI a2 x5))),(7,vi x5)],[.row tI (x6 ++ [IntKind.wrap .i64 ((BitVec.ofInt 64 (x11 + (gI a2 x5)) &&& BitVec.ofInt 64 (65535:Int)).toNat:Int)]) 1]⟩ (pn (by decide : 1 * 1 ≤ 16777216) (pn o5 pe)) (tc ((awp_abs (fun (x13 : (List Int)) => ⟨53,[(0,vs a1),(1,vs a2),(5,.osl 0 1),(6,vi (x11 + (gI a2 x5))),(7,vi x5)],[.row tI x13 1]⟩) (x6 ++ [IntKind.wrap .i64 ((BitVec.ofInt 64 (x11 + (gI a2 x5)) &&& BitVec.ofInt 64 (65535:Int)).toNat:Int)]) ?_)))))))
        intro x13 hx13
        replace h := h x13 hx13
        obtain ⟨o6,h⟩ := h
        refine rc [0,1,5,6,7] [] [] [] ⟨53,[(0,vs a1),(1,vs a2),(5,.osl 0 1),(6,vi (Int.fdiv (x11 + (gI a2 x5)) (2 ^ (min (Int.toNat (16:Int)) 64)))),(7,vi x5)],[.row tI x13 1]⟩ (pn o6 pe) (te ((te ((te ((blk_n (tc ((awp_abs (fun (x14:Int) => ⟨53,[(0,vs a1),(1,vs a2),(5,.osl 0 1),(6,vi x14),(7,vi x5)],[.row tI x13 1]⟩) (Int.fdiv (x11 + (gI a2 x5)) (2 ^ (min (Int.toNat (16:Int)) 64))) ?_))))))))))
        intro x14 hx14
        replace h := h x14 hx14
        obtain ⟨o7,h⟩ := h
        refine rc [0,1,5,6,7] [] [] [] ⟨53,[(0,vs a1),(1,vs a2),(5,.osl 0 1),(6,vi x14),(7,vi (x5 + (1:Int)))],[.row tI x13 1]⟩ (pn o7 pe) (te ((te ((then_n (?_))))))
        obtain ⟨m,hm,h⟩ := h
        exact ⟨m,hm,⟨53,[(0,vs a1),(1,vs a2),(5,.osl 0 0),(6,vi x14),(7,vi (x5 + (1:Int)))],[.row tI x13 0]⟩,wk_ghosts hk (l := [.keep [0,1,5,6,7],.reset 0,.keep [0,1,5,6,7]]) (by kernel_rfl),x14,x5 + (1:Int),x13,h,rfl⟩
      · replace h := h.2 (of_decide_eq_false hb)
        obtain ⟨o8,h⟩ := h
        refine awp_skip (tc ((awp_spine (rc [0,1,5,6,7] [] [] [3] ⟨53,[(0,vs a1),(1,vs a2),(5,.osl 0 1),(6,vi x11),(7,vi x5)],[.row tI (x6 ++ [IntKind.wrap .i64 ((BitVec.ofInt 64 x11 &&& BitVec.ofInt 64 (65535:Int)).toNat:Int)]) 1]⟩ (pn (by decide : 1 * 1 ≤ 16777216) (pn o8 pe)) (tc ((awp_abs (fun (x15 : (List Int)) => ⟨53,[(0,vs a1),(1,vs a2),(5,.osl 0 1),(6,vi x11),(7,vi x5)],[.row tI x15 1]⟩) (x6 ++ [IntKind.wrap .i64 ((BitVec.ofInt 64 x11 &&& BitVec.ofInt 64 (65535:Int)).toNat:Int)]) ?_)))))))
        intro x15 hx15
        replace h := h x15 hx15
        obtain ⟨o9,h⟩ := h
        refine rc [0,1,5,6,7] [] [] [] ⟨53,[(0,vs a1),(1,vs a2),(5,.osl 0 1),(6,vi (Int.fdiv x11 (2 ^ (min (Int.toNat (16:Int)) 64)))),(7,vi x5)],[.row tI x15 1]⟩ (pn o9 pe) (te ((te ((te ((blk_n (tc ((awp_abs (fun (x16:Int) => ⟨53,[(0,vs a1),(1,vs a2),(5,.osl 0 1),(6,vi x16),(7,vi x5)],[.row tI x15 1]⟩) (Int.fdiv x11 (2 ^ (min (Int.toNat (16:Int)) 64))) ?_))))))))))
        intro x16 hx16
        replace h := h x16 hx16
        obtain ⟨o10,h⟩ := h
        refine rc [0,1,5,6,7] [] [] [] ⟨53,[(0,vs a1),(1,vs a2),(5,.osl 0 1),(6,vi x16),(7,vi (x5 + (1:Int)))],[.row tI x15 1]⟩ (pn o10 pe) (te ((te ((then_n (?_))))))
        obtain ⟨m,hm,h⟩ := h
        exact ⟨m,hm,⟨53,[(0,vs a1),(1,vs a2),(5,.osl 0 0),(6,vi x16),(7,vi (x5 + (1:Int)))],[.row tI x15 0]⟩,wk_ghosts hk (l := [.keep [0,1,5,6,7],.reset 0,.keep [0,1,5,6,7]]) (by kernel_rfl),x16,x5 + (1:Int),x15,h,rfl⟩
  · replace h := h.2 (hb)
    obtain ⟨o11,h⟩ := h
    refine awp_exit (then_x (then_x (blk_h (tc ((awp_spine (awp_gh hk [.freeze 0,.keep [0,1,5,6,7,21]] ⟨53,[(0,vs a1),(1,vs a2),(5,vs x6),(6,vi x4),(7,vi x5),(21,vb (((decide (x5 < (a1.length:Int))) || (decide (x5 < (a2.length:Int)))) || (decide (x4 > (0:Int)))))],[.dead]⟩ (by kernel_rfl) (rc [4] [] [(1,.dat (vs (ref09_trim.fn x6)))] [] ⟨53,[(4,vs (ref09_trim.fn x6))],[.dead]⟩ (pn (ok_ref09_trim x6 (o11)) pe) (tc ((awp_abs (fun (x17 : (List Int)) => ⟨53,[(4,vs x17)],[.dead]⟩) (ref09_trim.fn x6) ?_)))))))))))
    intro x17 hx17
    replace h := h x17 hx17
    refine awp_ret (tr (tr (tr (tr (tr (?_))))))
    exact re hk (vs x17) [.keep [4]] ⟨53,[(4,vs x17)],[.dead]⟩ ⟨x17,rfl,rfl,h⟩
theorem ok_ref09_plus (a1 : (List Int)) (a2 : (List Int)) (h : ref09_plus.pre a1 a2) : OkC prog 72 [vs a1,vs a2] (vs (ref09_plus.fn a1 a2)) :=
  OkC.of call_ref09_plus ((walk_ref09_plus a1 a2 _ (ref09_plus.spec a1 a2 h)).mono fun r o ⟨x,hr,ho,hx⟩ => ⟨by rw [hr,hx],ho⟩) rfl rfl (fun _ => rfl)

noncomputable abbrev b48 : Code := bodyOf Try.f48
theorem call_ref09_Int_Add : CallOk prog 48 := ⟨_,Try.func48,by kernel_rfl,by kernel_rfl⟩
theorem walk_ref09_Int_Add (a1 : ref09_Int) (a2 : ref09_Int) (Q : ref09_Int → Prop) (h : ref09_Int_Add.wp a1 a2 Q) : VCalls prog 48 [.agg (c_farkas_row a1),.agg (c_farkas_row a2)] [] (fun r o => ∃ x,r = .agg (c_farkas_row x) ∧ o = [] ∧ Q x) := by
  refine body Try.func48 (spine (subC [0] b48) [(spine (subC [1,0,0] b48) [(.cond (.tmp 9) (spine (subC [1,0,1,0,0] b48) [.ret]) .skip),(spine (subC [1,1,0,0] b48) [(.cond (.tmp 23) (spine (subC [1,1,0,1,0,0] b48) [.ret]) .skip),(spine (subC [1,1,1,0] b48) [.ret])])])]) fun cx hd hi hk => ?_
  show AWp prog cx _ _ ⟨40,[(0,.agg (c_farkas_row a1)),(1,.agg (c_farkas_row a2))],[]⟩
  replace hk : cx.E.len = 0 := hk
  unfold ref09_Int_Add.wp at h
  refine awp_spine (rc [2,3,4] [] [] [0,1] ⟨40,[(2,.er (c_farkas_row a1)),(3,.er (c_farkas_row a2)),(4,.ref 0 0 0)],[.box [vb false,.nils]]⟩ (pe) (tc ((awp_spine (rc [2,3,4,9] [] [] [] ⟨40,[(2,.er (c_farkas_row a1)),(3,.er (c_farkas_row a2)),(4,.ref 0 0 0),(9,vb (a1.1 == a2.1))],[.box [vb false,.nils]]⟩ (pe) (tc ((awp_cond (b := a1.1 == a2.1) (by kernel_rfl) (fun hb => ?_) (fun hb => ?_)))))))))
  · replace h := h.1 (eq_of_beq hb)
    obtain ⟨o1,h⟩ := h
    refine awp_spine (dr hk [4] [] [6] [] ⟨[[],[0],[],[2],[],[4],[2,3,4,5],(lr 7),(lr 8)],[.er (c_farkas_row a1),vb a1.1,.er [vs a1.2],vs a1.2,.er [vs a2.2],vs a2.2,vs (ref09_plus.fn a1.2 a2.2),.agg [vb a1.1,vs (ref09_plus.fn a1.2 a2.2)],.tup []],_,[8],[([],[.box [vb false,.nils]]),([8],[.box [vb a1.1,vs (ref09_plus.fn a1.2 a2.2)]])],[],[]⟩ ⟨40,[(4,.ref 0 0 0)],[.box [vb a1.1,vs (ref09_plus.fn a1.2 a2.2)]]⟩ (.n (.n (.n (.n (.n (.n (.s (ok_ref09_plus a1.2 a2.2 (o1)) (.n (.n AllO.e))))))))) (tc ((awp_abs (fun (x1 : (List Int)) => ⟨40,[(4,.ref 0 0 0)],[.box [vb a1.1,vs x1]]⟩) (ref09_plus.fn a1.2 a2.2) ?_))))
    intro x1 hx1
    replace h := h x1 hx1
    refine awp_ret (tr (tr (tr (?_))))
    exact re hk (.agg (c_farkas_row (a1.1,x1))) [.keep [4]] ⟨40,[(4,.ref 0 0 0)],[.box [vb a1.1,vs x1]]⟩ ⟨(a1.1,x1),rfl,rfl,h⟩
  · replace h := h.2 (ne_of_beq_false hb)
    obtain ⟨o2,h⟩ := h
    refine awp_skip (tc ((awp_spine (rc [2,3,4,23] [] [(4,.dat (vi (ref09_order.fn a1.2 a2.2)))] [] ⟨40,[(2,.er (c_farkas_row a1)),(3,.er (c_farkas_row a2)),(4,.ref 0 0 0),(23,vb (decide ((ref09_order.fn a1.2 a2.2) ≥ (0:Int))))],[.box [vb false,.nils]]⟩ (pn (ok_ref09_order a1.2 a2.2 (o2)) pe) (tc ((awp_abs (fun (x2:Int) => ⟨40,[(2,.er (c_farkas_row a1)),(3,.er (c_farkas_row a2)),(4,.ref 0 0 0),(23,vb (decide (x2 ≥ (0:Int))))],[.box [vb false,.nils]]⟩) (ref09_order.fn a1.2 a2.2) ?_)))))))
    intro x2 hx2
    replace h := h x2 hx2
    refine awp_cond (b := decide (x2 ≥ (0:Int))) (by kernel_rfl) (fun hb => ?_) (fun hb => ?_)
    · replace h := h.1 (of_decide_eq_true hb)
      obtain ⟨o3,h⟩ := h
      refine awp_spine (dr hk [4] [] [6] [] ⟨[[],[0],[],[2],[],[4],[2,3,4,5],(lr 7),(lr 8)],[.er (c_farkas_row a1),vb a1.1,.er [vs a1.2],vs a1.2,.er [vs a2.2],vs a2.2,vs (ref09_minus.fn a1.2 a2.2),.agg [vb a1.1,vs (ref09_minus.fn a1.2 a2.2)],.tup []],_,[8],[([],[.box [vb false,.nils]]),([8],[.box [vb a1.1,vs (ref09_minus.fn a1.2 a2.2)]])],[],[]⟩ ⟨40,[(4,.ref 0 0 0)],[.box [vb a1.1,vs (ref09_minus.fn a1.2 a2.2)]]⟩ (.n (.n (.n (.n (.n (.n (.s (ok_ref09_minus a1.2 a2.2 (o3)) (.n (.n AllO.e))))))))) (tc ((awp_abs (fun (x3 : (List Int)) => ⟨40,[(4,.ref 0 0 0)],[.box [vb a1.1,vs x3]]⟩) (ref09_minus.fn a1.2 a2.2) ?_))))
      intro x3 hx3
      replace h := h x3 hx3
      refine awp_ret (tr (tr (tr (tr (?_)))))
      exact re hk (.agg (c_farkas_row (a1.1,x3))) [.keep [4]] ⟨40,[(4,.ref 0 0 0)],[.box [vb a1.1,vs x3]]⟩ ⟨(a1.1,x3),rfl,rfl,h⟩
    · replace h := h.2 (of_decide_eq_false hb)
      obtain ⟨o4,h⟩ := h
      refine awp_skip (tc ((awp_spine (dr hk [4] [] [6] [] ⟨[[],[0],[],[2],[],[4],[2,3,4,5],(lr 7),(lr 8)],[.er (c_farkas_row a2),vb a2.1,.er [vs a2.2],vs a2.2,.er [vs a1.2],vs a1.2,vs (ref09_minus.fn a2.2 a1.2),.agg [vb a2.1,vs (ref09_minus.fn a2.2 a1.2)],.tup []],_,[8],[([],[.box [vb false,.nils]]),([8],[.box [vb a2.1,vs (ref09_minus.fn a2.2 a1.2)]])],[],[]⟩ ⟨40,[(4,.ref 0 0 0)],[.box [vb a2.1,vs (ref09_minus.fn a2.2 a1.2)]]⟩ (.n (.n (.n (.n (.n (.n (.s (ok_ref09_minus a2.2 a1.2 (o4)) (.n (.n AllO.e))))))))) (tc ((awp_abs (fun (x4 : (List Int)) => ⟨40,[(4,.ref 0 0 0)],[.box [vb a2.1,vs x4]]⟩) (ref09_minus.fn a2.2 a1.2) ?_)))))))
      intro x4 hx4
      replace h := h x4 hx4
      refine awp_ret (tr (tr (tr (tr (?_)))))
      exact re hk (.agg (c_farkas_row (a2.1,x4))) [.keep [4]] ⟨40,[(4,.ref 0 0 0)],[.box [vb a2.1,vs x4]]⟩ ⟨(a2.1,x4),rfl,rfl,h⟩
theorem ok_ref09_Int_Add (a1 : ref09_Int) (a2 : ref09_Int) (h : ref09_Int_Add.pre a1 a2) : OkC prog 48 [.agg (c_farkas_row a1),.agg (c_farkas_row a2)] (.agg (c_farkas_row (ref09_Int_Add.fn a1 a2))) :=
  OkC.of call_ref09_Int_Add ((walk_ref09_Int_Add a1 a2 _ (ref09_Int_Add.spec a1 a2 h)).mono fun r o ⟨x,hr,ho,hx⟩ => ⟨by rw [hr,hx],ho⟩) rfl rfl (fun _ => rfl)

noncomputable abbrev b90 : Code := bodyOf Try.f90
theorem call_ref09_Int_Neg : CallOk prog 90 := ⟨_,Try.func90,by kernel_rfl,by kernel_rfl⟩
theorem walk_ref09_Int_Neg (a1 : ref09_Int) (Q : ref09_Int → Prop) (h : ref09_Int_Neg.wp a1 Q) : VCalls prog 90 [.agg (c_farkas_row a1)] [] (fun r o => ∃ x,r = .agg (c_farkas_row x) ∧ o = [] ∧ Q x) := by
  refine body Try.func90 (spine (subC [0] b90) [(spine (subC [1,0] b90) [.ret])]) fun cx hd hi hk => ?_
  show AWp prog cx _ _ ⟨9,[(0,.agg (c_farkas_row a1))],[]⟩
  replace hk : cx.E.len = 0 := hk
  unfold ref09_Int_Neg.wp at h
  refine awp_spine (rc [1,2] [] [] [0] ⟨9,[(1,.er (c_farkas_row a1)),(2,.ref 0 0 0)],[.box [vb false,.nils]]⟩ (pe) (tc ((awp_spine (rc [2] [] [] [] ⟨9,[(2,.ref 0 0 0)],[.box [vb (!a1.1),vs a1.2]]⟩ (pe) (tc ((awp_ret (tr (tr (?_)))))))))))
  exact re hk (.agg (c_farkas_row (!a1.1,a1.2))) [.keep [2]] ⟨9,[(2,.ref 0 0 0)],[.box [vb (!a1.1),vs a1.2]]⟩ ⟨(!a1.1,a1.2),rfl,rfl,h⟩
theorem ok_ref09_Int_Neg (a1 : ref09_Int) : OkC prog 90 [.agg (c_farkas_row a1)] (.agg (c_farkas_row (ref09_Int_Neg.fn a1))) :=
  OkC.of call_ref09_Int_Neg ((walk_ref09_Int_Neg a1 _ (ref09_Int_Neg.spec a1)).mono fun r o ⟨x,hr,ho,hx⟩ => ⟨by rw [hr,hx],ho⟩) rfl rfl (fun _ => rfl)

noncomputable abbrev b47 : Code := bodyOf Try.f47
theorem call_ref09_Int_Sign : CallOk prog 47 := ⟨_,Try.func47,by kernel_rfl,by kernel_rfl⟩
theorem walk_ref09_Int_Sign (a1 : ref09_Int) (Q : Int → Prop) (h : ref09_Int_Sign.wp a1 Q) : VCalls prog 47 [.agg (c_farkas_row a1)] [] (fun r o => ∃ x,r = vi x ∧ o = [] ∧ Q x) := by
  refine body Try.func47 (spine (subC [0] b47) [(spine (.block 0 (spine (subC [1,0,0,0] b47) [(.cond (.tmp 3) (spine (subC [1,0,0,1,0,0] b47) [.ret]) (spine (subC [1,0,0,1,1,0] b47) [(.cond (.tmp 8) (spine (subC [1,0,0,1,1,1,0,0] b47) [.ret]) .skip)]))])) [(spine (subC [1,1,0] b47) [.ret])])]) fun cx hd hi hk => ?_
  show AWp prog cx _ _ ⟨11,[(0,.agg (c_farkas_row a1))],[]⟩
  replace hk : cx.E.len = 0 := hk
  unfold ref09_Int_Sign.wp at h
  refine awp_spine (rc [1] [] [] [0] ⟨11,[(1,.er (c_farkas_row a1))],[]⟩ (pe) (tc ((awp_spine (awp_block (awp_spine (rc [1,3] [] [] [] ⟨11,[(1,.er (c_farkas_row a1)),(3,vb ((a1.2.length:Int) == (0:Int)))],[]⟩ (pe) (tc ((awp_len 1 [1] (T := tI) (l := a1.2) (by kernel_rfl) fun hl => ?_))))))))))
  replace h := h hl
  refine awp_cond (b := (a1.2.length:Int) == (0:Int)) (by kernel_rfl) (fun hb => ?_) (fun hb => ?_)
  · replace h := h.1 (eq_of_beq hb)
    refine awp_spine (rc [2] [] [] [] ⟨11,[(2,vi 0)],[]⟩ (pe) (tc ((awp_ret (tr (tr (blk_r (tr (tr (?_))))))))))
    exact re hk (vi 0) [.keep [2]] ⟨11,[(2,vi 0)],[]⟩ ⟨0,rfl,rfl,h⟩
  · replace h := h.2 (ne_of_beq_false hb)
    refine awp_spine (rc [8] [] [] [] ⟨11,[(8,vb a1.1)],[]⟩ (pe) (tc ((awp_cond (b := a1.1) (by kernel_rfl) (fun hb => ?_) (fun hb => ?_)))))
    · replace h := h.1 (hb)
      refine awp_spine (rc [2] [] [] [] ⟨11,[(2,vi (-1))],[]⟩ (pe) (tc ((awp_ret (tr (tr (tr (blk_r (tr (tr (?_)))))))))))
      exact re hk (vi (-1)) [.keep [2]] ⟨11,[(2,vi (-1))],[]⟩ ⟨(-1),rfl,rfl,h⟩
    · replace h := h.2 (hb)
      refine awp_skip (te ((te ((blk_n (tc ((awp_spine (rc [2] [] [] [] ⟨11,[(2,vi (1:Int))],[]⟩ (pe) (tc ((awp_ret (tr (tr (tr (?_))))))))))))))))
      exact re hk (vi (1:Int)) [.keep [2]] ⟨11,[(2,vi (1:Int))],[]⟩ ⟨1,rfl,rfl,h⟩
theorem ok_ref09_Int_Sign (a1 : ref09_Int) : OkC prog 47 [.agg (c_farkas_row a1)] (vi (ref09_Int_Sign.fn a1)) :=
  OkC.of call_ref09_Int_Sign ((walk_ref09_Int_Sign a1 _ (ref09_Int_Sign.spec a1)).mono fun r o ⟨x,hr,ho,hx⟩ => ⟨by rw [hr,hx],ho⟩) rfl rfl (fun _ => rfl)

noncomputable abbrev b67 : Code := bodyOf Try.f67
theorem call_ref09_Int_Cmp : CallOk prog 67 := ⟨_,Try.func67,by kernel_rfl,by kernel_rfl⟩
theorem walk_ref09_Int_Cmp (a1 : ref09_Int) (a2 : ref09_Int) (Q : Int → Prop) (h : ref09_Int_Cmp.wp a1 a2 Q) : VCalls prog 67 [.agg (c_farkas_row a1),.agg (c_farkas_row a2)] [] (fun r o => ∃ x,r = vi x ∧ o = [] ∧ Q x) := by
  refine body Try.func67 (spine (subC [0] b67) [(spine (subC [1,0] b67) [.ret])]) fun cx hd hi hk => ?_
  show AWp prog cx _ _ ⟨10,[(0,.agg (c_farkas_row a1)),(1,.agg (c_farkas_row a2))],[]⟩
  replace hk : cx.E.len = 0 := hk
  unfold ref09_Int_Cmp.wp at h
  obtain ⟨o1,h⟩ := h
  refine awp_spine (rc [2,3] [] [] [0,1] ⟨10,[(2,.er (c_farkas_row a1)),(3,.er (c_farkas_row a2))],[]⟩ (pe) (tc ((awp_spine (dr hk [4] [] [2,3,4] [] ⟨[[],[],[1],[0,1,2],[0,1,2,3],(lr 5)],[.agg (c_farkas_row a1),.agg (c_farkas_row a2),.agg (c_farkas_row (ref09_Int_Neg.fn a2)),.agg (c_farkas_row (ref09_Int_Add.fn a1 (ref09_Int_Neg.fn a2))),vi (ref09_Int_Sign.fn (ref09_Int_Add.fn a1 (ref09_Int_Neg.fn a2))),vi (ref09_Int_Sign.fn (ref09_Int_Add.fn a1 (ref09_Int_Neg.fn a2)))],_,[],[([],[])],[],[]⟩ ⟨10,[(4,vi (ref09_Int_Sign.fn (ref09_Int_Add.fn a1 (ref09_Int_Neg.fn a2))))],[]⟩ (.n (.n (.s (ok_ref09_Int_Neg a2) (.s (ok_ref09_Int_Add a1 (ref09_Int_Neg.fn a2) (o1)) (.s (ok_ref09_Int_Sign (ref09_Int_Add.fn a1 (ref09_Int_Neg.fn a2))) (.n AllO.e)))))) (tc ((awp_abs (fun (x1 : ref09_Int) => ⟨10,[(4,vi (ref09_Int_Sign.fn (ref09_Int_Add.fn a1 x1)))],[]⟩) (ref09_Int_Neg.fn a2) ?_))))))))
  intro x1 hx1
  replace h := h x1 hx1
  refine awp_abs (fun (x2 : ref09_Int) => ⟨10,[(4,vi (ref09_Int_Sign.fn x2))],[]⟩) (ref09_Int_Add.fn a1 x1) ?_
  intro x2 hx2
  replace h := h x2 hx2
  refine awp_abs (fun (x3:Int) => ⟨10,[(4,vi x3)],[]⟩) (ref09_Int_Sign.fn x2) ?_
  intro x3 hx3
  replace h := h x3 hx3
  refine awp_ret (tr (tr (?_)))
  exact re hk (vi x3) [.keep [4]] ⟨10,[(4,vi x3)],[]⟩ ⟨x3,rfl,rfl,h⟩
theorem ok_ref09_Int_Cmp (a1 : ref09_Int) (a2 : ref09_Int) (h : ref09_Int_Cmp.pre a1 a2) : OkC prog 67 [.agg (c_farkas_row a1),.agg (c_farkas_row a2)] (vi (ref09_Int_Cmp.fn a1 a2)) :=
  OkC.of call_ref09_Int_Cmp ((walk_ref09_Int_Cmp a1 a2 _ (ref09_Int_Cmp.spec a1 a2 h)).mono fun r o ⟨x,hr,ho,hx⟩ => ⟨by rw [hr,hx],ho⟩) rfl rfl (fun _ => rfl)

noncomputable abbrev b35 : Code := bodyOf Try.f35
theorem call_ref09_Of : CallOk prog 35 := ⟨_,Try.func35,by kernel_rfl,by kernel_rfl⟩
theorem walk_ref09_Of (a1:Int) (Q : ref09_Int → Prop) (h : ref09_Of.wp a1 Q) : VCalls prog 35 [vi a1] [] (fun r o => ∃ x,r = .agg (c_farkas_row x) ∧ o = [] ∧ Q x) := by
  refine body Try.func35 (spine (subC [0] b35) [(spine (subC [1,0] b35) [(spine (subC [1,1,0] b35) [(spine (subC [1,1,1,0,0] b35) [(.cond (.tmp 11) (subC [1,1,1,0,1,0] b35) .skip),(spine (.block 0 (.loop (spine (subC [1,1,1,1,0,0,0,0,0] b35) [(.cond (.tmp 15) .skip (.exit 0)),(spine (.block 1 (subC [1,1,1,1,0,0,0,1,0,0] b35)) [(subC [1,1,1,1,0,0,0,1,1] b35)])]))) [(spine (subC [1,1,1,1,1,0] b35) [.ret])])])])])]) fun cx hd hi hk => ?_
  show AWp prog cx _ _ ⟨27,[(0,vi a1)],[]⟩
  replace hk : cx.E.len = 0 := hk
  unfold ref09_Of.wp at h
  obtain ⟨R2,hA2,hB2⟩ := h
  refine awp_spine (rc [0,2] [] [] [] ⟨27,[(0,vi a1),(2,.ref 0 0 0)],[.box [vb false,.nils]]⟩ (pe) (tc ((awp_spine (rc [0,2,3] [] [] [] ⟨27,[(0,vi a1),(2,.ref 0 0 0),(3,.ref 1 0 0)],[.box [vb false,.nils],.box [vb (decide (a1 < (0:Int))),.nils]]⟩ (pe) (tc ((awp_spine (rc [0,2,3,4] [1] [] [] ⟨27,[(0,vi a1),(2,.ref 0 0 0),(3,.ref 1 0 0),(4,vu (IntKind.wrap .u64 a1))],[.box [vb false,.nils],.box [vb (decide (a1 < (0:Int))),.nils]]⟩ (pe) (tc ((awp_spine (rc [2,3,4,11] [] [] [] ⟨27,[(2,.ref 0 0 0),(3,.ref 1 0 0),(4,vu (IntKind.wrap .u64 a1)),(11,vb (decide (a1 < (0:Int))))],[.box [vb false,.nils],.box [vb (decide (a1 < (0:Int))),.nils]]⟩ (pe) (tc ((awp_meet (fun s' => ∃ (x1:Int),R2 x1 ∧ Wk cx s' ⟨27,[(2,.ref 0 0 0),(3,.ref 1 0 0),(4,vu x1)],[.box [vb false,.nils],.box [vb (decide (a1 < (0:Int))),.nils]]⟩) ?_ ?_))))))))))))))))
  · have h := hA2
    refine awp_cond (b := decide (a1 < (0:Int))) (by kernel_rfl) (fun hb => ?_) (fun hb => ?_)
    · replace h := h.1 (of_decide_eq_true hb)
      refine rc [2,3,4] [1] [] [] ⟨27,[(2,.ref 0 0 0),(3,.ref 1 0 0),(4,vu (IntKind.wrap .u64 (-(IntKind.wrap .u64 a1))))],[.box [vb false,.nils],.box [vb (decide (a1 < (0:Int))),.nils]]⟩ (pe) (then_n (?_))
      exact ⟨IntKind.wrap .u64 (-(IntKind.wrap .u64 a1)),h,wk_ghosts hk (l := [.keep [2,3,4]]) (by kernel_rfl)⟩
    · replace h := h.2 (of_decide_eq_false hb)
      refine awp_skip (then_n (?_))
      exact ⟨IntKind.wrap .u64 a1,h,wk_ghosts hk (l := [.keep [2,3,4]]) (by kernel_rfl)⟩
  · rintro s' ⟨x1,hx2,hw2⟩
    have h := hB2 x1 hx2
    obtain ⟨I9,⟨n9a,hz9⟩,hI9⟩ := h
    refine spine_c (awp_wk hw2 (awp_spine (awp_block (awp_loopN (fun n s => ∃ (x5:Int) (x6 : (List Int)),I9 n x5 x6 ∧ s = ⟨27,[(2,.ref 0 0 0),(3,.ref 1 0 0),(4,vu x5)],[.box [vb false,.nils],.box [vb (decide (a1 < (0:Int))),.osl 2 0],.row tI x6 0]⟩) (n := n9a) (s0 := ⟨27,[(2,.ref 0 0 0),(3,.ref 1 0 0),(4,vu x1)],[.box [vb false,.nils],.box [vb (decide (a1 < (0:Int))),.osl 2 0],.row tI ([] : List Int) 0]⟩) (wk_ghosts hk (l := [.keep [2,3,4],.adoptBox 1 1 tI,.keep [2,3,4]]) (by kernel_rfl)) ⟨x1,([] : List Int),hz9,rfl⟩ ?_))))
    rintro n9 s ⟨x5,x6,hx9,rfl⟩
    have h := hI9 n9 x5 x6 hx9
    refine awp_spine (rc [2,3,4,15] [1] [] [] ⟨27,[(2,.ref 0 0 0),(3,.ref 1 0 0),(4,vu x5),(15,vb (decide (x5 > (0:Int))))],[.box [vb false,.nils],.box [vb (decide (a1 < (0:Int))),.osl 2 0],.row tI x6 0]⟩ (pe) (tc ((awp_cond (b := decide (x5 > (0:Int))) (by kernel_rfl) (fun hb => ?_) (fun hb => ?_)))))
    · replace h := h.1 (of_decide_eq_true hb)
      obtain ⟨o1,o2,h⟩ := h
      refine awp_skip (tc ((awp_spine (awp_block (rc [2,3,4] [3] [] [5] ⟨27,[(2,.ref 0 0 0),(3,.ref 1 0 0),(4,vu x5)],[.box [vb false,.nils],.box [vb (decide (a1 < (0:Int))),.osl 2 1],.row tI (x6 ++ [IntKind.wrap .u64 ((BitVec.ofInt 64 x5 &&& BitVec.ofInt 64 (65535:Int)).toNat:Int)]) 1]⟩ (pn o1 (pn (by decide : 1 * 1 ≤ 16777216) (pn o2 pe))) (blk_n (tc ((awp_abs (fun (x10 : (List Int)) => ⟨27,[(2,.ref 0 0 0),(3,.ref 1 0 0),(4,vu x5)],[.box [vb false,.nils],.box [vb (decide (a1 < (0:Int))),.osl 2 1],.row tI x10 1]⟩) (x6 ++ [IntKind.wrap .u64 ((BitVec.ofInt 64 x5 &&& BitVec.ofInt 64 (65535:Int)).toNat:Int)]) ?_)))))))))
      intro x10 hx10
      replace h := h x10 hx10
      obtain ⟨o3,h⟩ := h
      refine rc [2,3,4] [1] [] [] ⟨27,[(2,.ref 0 0 0),(3,.ref 1 0 0),(4,vu (Int.fdiv x5 (2 ^ (min (Int.toNat (16:Int)) 64))))],[.box [vb false,.nils],.box [vb (decide (a1 < (0:Int))),.osl 2 1],.row tI x10 1]⟩ (pn o3 pe) (te ((te ((then_n (?_))))))
      obtain ⟨m,hm,h⟩ := h
      exact ⟨m,hm,⟨27,[(2,.ref 0 0 0),(3,.ref 1 0 0),(4,vu (Int.fdiv x5 (2 ^ (min (Int.toNat (16:Int)) 64))))],[.box [vb false,.nils],.box [vb (decide (a1 < (0:Int))),.osl 2 0],.row tI x10 0]⟩,wk_ghosts hk (l := [.keep [2,3,4],.reset 2,.keep [2,3,4]]) (by kernel_rfl),Int.fdiv x5 (2 ^ (min (Int.toNat (16:Int)) 64)),x10,h,rfl⟩
    · replace h := h.2 (of_decide_eq_false hb)
      refine awp_exit (then_x (then_x (blk_h (tc ((awp_spine (rc [2] [] [] [] ⟨27,[(2,.ref 0 0 0)],[.box [vb (decide (a1 < (0:Int))),.osl 2 0],.box [vb (decide (a1 < (0:Int))),.osl 2 0],.row tI x6 0]⟩ (pe) (tc ((awp_ret (tr (tr (tr (tr (tr (tr (?_)))))))))))))))))
      exact re hk (.agg (c_farkas_row (decide (a1 < (0:Int)),x6))) [.keep [2],.freeze 2] ⟨27,[(2,.ref 0 0 0)],[.box [vb (decide (a1 < (0:Int))),vs x6],.box [vb (decide (a1 < (0:Int))),vs x6],.dead]⟩ ⟨(decide (a1 < (0:Int)),x6),rfl,rfl,h⟩
theorem ok_ref09_Of (a1:Int) (h : ref09_Of.pre a1) : OkC prog 35 [vi a1] (.agg (c_farkas_row (ref09_Of.fn a1))) :=
  OkC.of call_ref09_Of ((walk_ref09_Of a1 _ (ref09_Of.spec a1 h)).mono fun r o ⟨x,hr,ho,hx⟩ => ⟨by rw [hr,hx],ho⟩) rfl rfl (fun _ => rfl)

noncomputable abbrev b69 : Code := bodyOf Try.f69
theorem call_ref09_Int_Quo : CallOk prog 69 := ⟨_,Try.func69,by kernel_rfl,by kernel_rfl⟩
theorem walk_ref09_Int_Quo (a1 : ref09_Int) (a2 : ref09_Int) (Q : ref09_Int × ref09_Int → Prop) (h : ref09_Int_Quo.wp a1 a2 Q) : VCalls prog 69 [.agg (c_farkas_row a1),.agg (c_farkas_row a2)] [] (fun r o => ∃ x,r = .tup [.agg (c_farkas_row x.1),.agg (c_farkas_row x.2)] ∧ o = [] ∧ Q x) := by
  refine body Try.func69 (spine (subC [0] b69) [(spine (subC [1,0,0] b69) [(.block 0 (.loop (spine (subC [1,0,1,0,0,0,0] b69) [(.cond (.tmp 13) .skip (.exit 0)),(spine (.block 1 (spine (subC [1,0,1,0,0,1,0,0,0] b69) [(spine (subC [1,0,1,0,0,1,0,0,1,0,0] b69) [(.cond (.tmp 29) (subC [1,0,1,0,0,1,0,0,1,0,1,0] b69) .skip),(spine (subC [1,0,1,0,0,1,0,0,1,1,0] b69) [(spine (subC [1,0,1,0,0,1,0,0,1,1,1,0] b69) [(.cond (.tmp 39) (spine (subC [1,0,1,0,0,1,0,0,1,1,1,1,0,0] b69) [(subC [1,0,1,0,0,1,0,0,1,1,1,1,0,1] b69)]) .skip)])])])])) [(subC [1,0,1,0,0,1,1] b69)])]))),(spine (subC [1,1,0] b69) [.ret])])]) fun cx hd hi hk => ?_
  show AWp prog cx _ _ ⟨49,[(0,.agg (c_farkas_row a1)),(1,.agg (c_farkas_row a2))],[]⟩
  replace hk : cx.E.len = 0 := hk
  unfold ref09_Int_Quo.wp at h
  obtain ⟨o1,o2,h⟩ := h
  refine awp_spine (rc [2,3,4,5] [] [] [0,1] ⟨49,[(2,.er (c_farkas_row a1)),(3,.er (c_farkas_row a2)),(4,.ref 0 0 0),(5,.ref 1 0 0)],[.box [vb false,.nils],.box [vb false,.nils]]⟩ (pe) (tc ((awp_spine (rc [2,3,4,5,6] [] [] [] ⟨49,[(2,.er (c_farkas_row a1)),(3,.er (c_farkas_row a2)),(4,.ref 0 0 0),(5,.ref 1 0 0),(6,vi (((16:Int) * (a1.2.length:Int)) - (1:Int)))],[.box [vb false,.nils],.box [vb false,.nils]]⟩ (pn o1 (pn o2 pe)) (tc ((awp_abs (fun (x1:Int) => ⟨49,[(2,.er (c_farkas_row a1)),(3,.er (c_farkas_row a2)),(4,.ref 0 0 0),(5,.ref 1 0 0),(6,vi x1)],[.box [vb false,.nils],.box [vb false,.nils]]⟩) (((16:Int) * (a1.2.length:Int)) - (1:Int)) ?_))))))))
  intro x1 hx1
  replace h := h x1 hx1
  refine awp_len 2 [1] (T := tI) (l := a1.2) (by kernel_rfl) fun hl => ?_
  replace h := h hl
  obtain ⟨I12,⟨n12a,hz12⟩,hI12⟩ := h
  refine awp_block (awp_loopN (fun n s => ∃ (x2:Int) (x3 : Bool) (x4 : (List Int)) (x5 : Bool) (x6 : (List Int)),I12 n x2 x3 x4 x5 x6 ∧ s = ⟨49,[(2,.er (c_farkas_row a1)),(3,.er (c_farkas_row a2)),(4,.ref 0 0 0),(5,.ref 1 0 0),(6,vi x2)],[.box [vb x3,vs x4],.box [vb x5,vs x6]]⟩) (n := n12a) (s0 := ⟨49,[(2,.er (c_farkas_row a1)),(3,.er (c_farkas_row a2)),(4,.ref 0 0 0),(5,.ref 1 0 0),(6,vi x1)],[.box [vb false,vs ([] : List Int)],.box [vb false,vs ([] : List Int)]]⟩) (wk_ghosts hk (l := [.keep [2,3,4,5,6],.nilBox 0 [1] tI,.nilBox 1 [1] tI,.keep [2,3,4,5,6]]) (by kernel_rfl)) ⟨x1,false,([] : List Int),false,([] : List Int),hz12,rfl⟩ ?_)
  rintro n12 s ⟨x2,x3,x4,x5,x6,hx12,rfl⟩
  have h := hI12 n12 x2 x3 x4 x5 x6 hx12
  refine awp_spine (rc [2,3,4,5,6,13] [] [] [] ⟨49,[(2,.er (c_farkas_row a1)),(3,.er (c_farkas_row a2)),(4,.ref 0 0 0),(5,.ref 1 0 0),(6,vi x2),(13,vb (decide (x2 ≥ (0:Int))))],[.box [vb x3,vs x4],.box [vb x5,vs x6]]⟩ (pe) (tc ((awp_cond (b := decide (x2 ≥ (0:Int))) (by kernel_rfl) (fun hb => ?_) (fun hb => ?_)))))
  · replace h := h.1 (of_decide_eq_true hb)
    obtain ⟨o3,h⟩ := h
    refine awp_skip (tc ((awp_spine (awp_block (awp_spine (rc [2,3,4,5,6] [] [(2,.dat (.agg (c_farkas_row (ref09_Int_Add.fn (x5,x6) (x5,x6)))))] [] ⟨49,[(2,.er (c_farkas_row a1)),(3,.er (c_farkas_row a2)),(4,.ref 0 0 0),(5,.ref 1 0 0),(6,vi x2)],[.box [vb x3,vs x4],.box (c_farkas_row (ref09_Int_Add.fn (x5,x6) (x5,x6)))]⟩ (pn (ok_ref09_Int_Add (x5,x6) (x5,x6) (o3)) pe) (tc ((awp_abs (fun (x13 : ref09_Int) => ⟨49,[(2,.er (c_farkas_row a1)),(3,.er (c_farkas_row a2)),(4,.ref 0 0 0),(5,.ref 1 0 0),(6,vi x2)],[.box [vb x3,vs x4],.box (c_farkas_row x13)]⟩) (ref09_Int_Add.fn (x5,x6) (x5,x6)) ?_)))))))))
    intro x13 hx13
    replace h := h x13 hx13
    refine awp_abs (fun (x14 : (List Int)) => ⟨49,[(2,.er (c_farkas_row a1)),(3,.er (c_farkas_row a2)),(4,.ref 0 0 0),(5,.ref 1 0 0),(6,vi x2)],[.box [vb x3,vs x4],.box [vb x13.1,vs x14]]⟩) (x13.2) ?_
    intro x14 hx14
    replace h := h x14 hx14
    obtain ⟨o4,o5,o6,o7,h⟩ := h
    obtain ⟨R17,hA17,hB17⟩ := h
    refine awp_spine (rc [2,3,4,5,6,29] [] [] [] ⟨49,[(2,.er (c_farkas_row a1)),(3,.er (c_farkas_row a2)),(4,.ref 0 0 0),(5,.ref 1 0 0),(6,vi x2),(29,vb ((IntKind.wrap .i64 ((BitVec.ofInt 64 (Int.fdiv (gI a1.2 (Int.tdiv x2 (16:Int))) (2 ^ (min (Int.toNat (Int.tmod x2 (16:Int))) 64))) &&& BitVec.ofInt 64 (1:Int)).toNat:Int)) == (1:Int)))],[.box [vb x3,vs x4],.box [vb x13.1,vs x14]]⟩ (pn o4 (pn o5 (pn o6 (pn o7 pe)))) (tc ((awp_meet (fun s' => ∃ (x15 : Bool) (x16 : (List Int)),R17 x15 x16 ∧ Wk cx s' ⟨49,[(2,.er (c_farkas_row a1)),(3,.er (c_farkas_row a2)),(4,.ref 0 0 0),(5,.ref 1 0 0),(6,vi x2)],[.box [vb x3,vs x4],.box [vb x15,vs x16]]⟩) ?_ ?_))))
    · have h := hA17
      refine awp_cond (b := (IntKind.wrap .i64 ((BitVec.ofInt 64 (Int.fdiv (gI a1.2 (Int.tdiv x2 (16:Int))) (2 ^ (min (Int.toNat (Int.tmod x2 (16:Int))) 64))) &&& BitVec.ofInt 64 (1:Int)).toNat:Int)) == (1:Int)) (by kernel_rfl) (fun hb => ?_) (fun hb => ?_)
      · replace h := h.1 (eq_of_beq hb)
        obtain ⟨o8,o9,h⟩ := h
        refine dr hk [2,3,4,5,6] [] [1,2] [] ⟨[[],[],[0,1],[0,1,2]],[.agg [vb x13.1,vs x14],.agg (c_farkas_row (ref09_Of.fn (1:Int))),.agg (c_farkas_row (ref09_Int_Add.fn (x13.1,x14) (ref09_Of.fn (1:Int)))),.tup []],_,[3],[([],[.box [vb x3,vs x4],.box [vb x13.1,vs x14]]),([3],[.box [vb x3,vs x4],.box (c_farkas_row (ref09_Int_Add.fn (x13.1,x14) (ref09_Of.fn (1:Int))))])],[],[]⟩ ⟨49,[(2,.er (c_farkas_row a1)),(3,.er (c_farkas_row a2)),(4,.ref 0 0 0),(5,.ref 1 0 0),(6,vi x2)],[.box [vb x3,vs x4],.box (c_farkas_row (ref09_Int_Add.fn (x13.1,x14) (ref09_Of.fn (1:Int))))]⟩ (.n (.s (ok_ref09_Of (1:Int) (o8)) (.s (ok_ref09_Int_Add (x13.1,x14) (ref09_Of.fn (1:Int)) (o9)) (.n AllO.e)))) (then_n (?_))
        exact ⟨(ref09_Int_Add.fn (x13.1,x14) (ref09_Of.fn (1:Int))).1,(ref09_Int_Add.fn (x13.1,x14) (ref09_Of.fn (1:Int))).2,h,wk_ghosts hk (l := [.keep [2,3,4,5,6]]) (by kernel_rfl)⟩
      · replace h := h.2 (ne_of_beq_false hb)
        refine awp_skip (then_n (?_))
        exact ⟨x13.1,x14,h,wk_ghosts hk (l := [.keep [2,3,4,5,6]]) (by kernel_rfl)⟩
    · rintro s' ⟨x15,x16,hx17,hw17⟩
      have h := hB17 x15 x16 hx17
      obtain ⟨o10,h⟩ := h
      refine spine_c (awp_wk hw17 (awp_spine (rc [2,3,4,5,6] [] [(2,.dat (.agg (c_farkas_row (ref09_Int_Add.fn (x3,x4) (x3,x4)))))] [] ⟨49,[(2,.er (c_farkas_row a1)),(3,.er (c_farkas_row a2)),(4,.ref 0 0 0),(5,.ref 1 0 0),(6,vi x2)],[.box (c_farkas_row (ref09_Int_Add.fn (x3,x4) (x3,x4))),.box [vb x15,vs x16]]⟩ (pn (ok_ref09_Int_Add (x3,x4) (x3,x4) (o10)) pe) (tc ((awp_abs (fun (x18 : ref09_Int) => ⟨49,[(2,.er (c_farkas_row a1)),(3,.er (c_farkas_row a2)),(4,.ref 0 0 0),(5,.ref 1 0 0),(6,vi x2)],[.box (c_farkas_row x18),.box [vb x15,vs x16]]⟩) (ref09_Int_Add.fn (x3,x4) (x3,x4)) ?_))))))
      intro x18 hx18
      replace h := h x18 hx18
      refine awp_abs (fun (x19 : (List Int)) => ⟨49,[(2,.er (c_farkas_row a1)),(3,.er (c_farkas_row a2)),(4,.ref 0 0 0),(5,.ref 1 0 0),(6,vi x2)],[.box [vb x18.1,vs x19],.box [vb x15,vs x16]]⟩) (x18.2) ?_
      intro x19 hx19
      replace h := h x19 hx19
      obtain ⟨o11,h⟩ := h
      refine awp_spine (rc [2,3,4,5,6,39] [] [(2,.dat (vi (ref09_Int_Cmp.fn (x15,x16) a2)))] [] ⟨49,[(2,.er (c_farkas_row a1)),(3,.er (c_farkas_row a2)),(4,.ref 0 0 0),(5,.ref 1 0 0),(6,vi x2),(39,vb (decide ((ref09_Int_Cmp.fn (x15,x16) a2) ≥ (0:Int))))],[.box [vb x18.1,vs x19],.box [vb x15,vs x16]]⟩ (pn (ok_ref09_Int_Cmp (x15,x16) a2 (o11)) pe) (tc ((awp_abs (fun (x20:Int) => ⟨49,[(2,.er (c_farkas_row a1)),(3,.er (c_farkas_row a2)),(4,.ref 0 0 0),(5,.ref 1 0 0),(6,vi x2),(39,vb (decide (x20 ≥ (0:Int))))],[.box [vb x18.1,vs x19],.box [vb x15,vs x16]]⟩) (ref09_Int_Cmp.fn (x15,x16) a2) ?_))))
      intro x20 hx20
      replace h := h x20 hx20
      refine awp_cond (b := decide (x20 ≥ (0:Int))) (by kernel_rfl) (fun hb => ?_) (fun hb => ?_)
      · replace h := h.1 (of_decide_eq_true hb)
        obtain ⟨o12,h⟩ := h
        refine awp_spine (dr hk [2,3,4,5,6] [] [2,3] [] ⟨[[],[],[1],[0,1,2],[0,1,2,3]],[.agg [vb x15,vs x16],.agg (c_farkas_row a2),.agg (c_farkas_row (ref09_Int_Neg.fn a2)),.agg (c_farkas_row (ref09_Int_Add.fn (x15,x16) (ref09_Int_Neg.fn a2))),.tup []],_,[4],[([],[.box [vb x18.1,vs x19],.box [vb x15,vs x16]]),([4],[.box [vb x18.1,vs x19],.box (c_farkas_row (ref09_Int_Add.fn (x15,x16) (ref09_Int_Neg.fn a2)))])],[],[]⟩ ⟨49,[(2,.er (c_farkas_row a1)),(3,.er (c_farkas_row a2)),(4,.ref 0 0 0),(5,.ref 1 0 0),(6,vi x2)],[.box [vb x18.1,vs x19],.box (c_farkas_row (ref09_Int_Add.fn (x15,x16) (ref09_Int_Neg.fn a2)))]⟩ (.n (.n (.s (ok_ref09_Int_Neg a2) (.s (ok_ref09_Int_Add (x15,x16) (ref09_Int_Neg.fn a2) (o12)) (.n AllO.e))))) (tc ((awp_abs (fun (x21 : ref09_Int) => ⟨49,[(2,.er (c_farkas_row a1)),(3,.er (c_farkas_row a2)),(4,.ref 0 0 0),(5,.ref 1 0 0),(6,vi x2)],[.box [vb x18.1,vs x19],.box (c_farkas_row (ref09_Int_Add.fn (x15,x16) x21))]⟩) (ref09_Int_Neg.fn a2) ?_))))
        intro x21 hx21
        replace h := h x21 hx21
        refine awp_abs (fun (x22 : ref09_Int) => ⟨49,[(2,.er (c_farkas_row a1)),(3,.er (c_farkas_row a2)),(4,.ref 0 0 0),(5,.ref 1 0 0),(6,vi x2)],[.box [vb x18.1,vs x19],.box (c_farkas_row x22)]⟩) (ref09_Int_Add.fn (x15,x16) x21) ?_
        intro x22 hx22
        replace h := h x22 hx22
        refine awp_abs (fun (x23 : (List Int)) => ⟨49,[(2,.er (c_farkas_row a1)),(3,.er (c_farkas_row a2)),(4,.ref 0 0 0),(5,.ref 1 0 0),(6,vi x2)],[.box [vb x18.1,vs x19],.box [vb x22.1,vs x23]]⟩) (x22.2) ?_
        intro x23 hx23
        replace h := h x23 hx23
        obtain ⟨o13,o14,h⟩ := h
        refine dr hk [2,3,4,5,6] [] [1,2] [] ⟨[[],[],[0,1],[0,1,2]],[.agg [vb x18.1,vs x19],.agg (c_farkas_row (ref09_Of.fn (1:Int))),.agg (c_farkas_row (ref09_Int_Add.fn (x18.1,x19) (ref09_Of.fn (1:Int)))),.tup []],_,[3],[([],[.box [vb x18.1,vs x19],.box [vb x22.1,vs x23]]),([3],[.box (c_farkas_row (ref09_Int_Add.fn (x18.1,x19) (ref09_Of.fn (1:Int)))),.box [vb x22.1,vs x23]])],[],[]⟩ ⟨49,[(2,.er (c_farkas_row a1)),(3,.er (c_farkas_row a2)),(4,.ref 0 0 0),(5,.ref 1 0 0),(6,vi x2)],[.box (c_farkas_row (ref09_Int_Add.fn (x18.1,x19) (ref09_Of.fn (1:Int)))),.box [vb x22.1,vs x23]]⟩ (.n (.s (ok_ref09_Of (1:Int) (o13)) (.s (ok_ref09_Int_Add (x18.1,x19) (ref09_Of.fn (1:Int)) (o14)) (.n AllO.e)))) (te ((te ((te ((te ((te ((blk_n (tc ((awp_abs (fun (x24 : ref09_Int) => ⟨49,[(2,.er (c_farkas_row a1)),(3,.er (c_farkas_row a2)),(4,.ref 0 0 0),(5,.ref 1 0 0),(6,vi x2)],[.box (c_farkas_row (ref09_Int_Add.fn (x18.1,x19) x24)),.box [vb x22.1,vs x23]]⟩) (ref09_Of.fn (1:Int)) ?_))))))))))))))
        intro x24 hx24
        replace h := h x24 hx24
        refine awp_abs (fun (x25 : ref09_Int) => ⟨49,[(2,.er (c_farkas_row a1)),(3,.er (c_farkas_row a2)),(4,.ref 0 0 0),(5,.ref 1 0 0),(6,vi x2)],[.box (c_farkas_row x25),.box [vb x22.1,vs x23]]⟩) (ref09_Int_Add.fn (x18.1,x19) x24) ?_
        intro x25 hx25
        replace h := h x25 hx25
        refine awp_abs (fun (x26 : (List Int)) => ⟨49,[(2,.er (c_farkas_row a1)),(3,.er (c_farkas_row a2)),(4,.ref 0 0 0),(5,.ref 1 0 0),(6,vi x2)],[.box [vb x25.1,vs x26],.box [vb x22.1,vs x23]]⟩) (x25.2) ?_
        intro x26 hx26
        replace h := h x26 hx26
        obtain ⟨o15,h⟩ := h
        refine rc [2,3,4,5,6] [] [] [] ⟨49,[(2,.er (c_farkas_row a1)),(3,.er (c_farkas_row a2)),(4,.ref 0 0 0),(5,.ref 1 0 0),(6,vi (x2 - (1:Int)))],[.box [vb x25.1,vs x26],.box [vb x22.1,vs x23]]⟩ (pn o15 pe) (te ((te ((then_n (?_))))))
        obtain ⟨m,hm,h⟩ := h
        exact ⟨m,hm,⟨49,[(2,.er (c_farkas_row a1)),(3,.er (c_farkas_row a2)),(4,.ref 0 0 0),(5,.ref 1 0 0),(6,vi (x2 - (1:Int)))],[.box [vb x25.1,vs x26],.box [vb x22.1,vs x23]]⟩,wk_ghosts hk (l := [.keep [2,3,4,5,6]]) (by kernel_rfl),x2 - (1:Int),x25.1,x26,x22.1,x23,h,rfl⟩
      · replace h := h.2 (of_decide_eq_false hb)
        obtain ⟨o16,h⟩ := h
        refine awp_skip (te ((te ((te ((te ((blk_n (tc ((rc [2,3,4,5,6] [] [] [] ⟨49,[(2,.er (c_farkas_row a1)),(3,.er (c_farkas_row a2)),(4,.ref 0 0 0),(5,.ref 1 0 0),(6,vi (x2 - (1:Int)))],[.box [vb x18.1,vs x19],.box [vb x15,vs x16]]⟩ (pn o16 pe) (te ((te ((then_n (?_))))))))))))))))))
        obtain ⟨m,hm,h⟩ := h
        exact ⟨m,hm,⟨49,[(2,.er (c_farkas_row a1)),(3,.er (c_farkas_row a2)),(4,.ref 0 0 0),(5,.ref 1 0 0),(6,vi (x2 - (1:Int)))],[.box [vb x18.1,vs x19],.box [vb x15,vs x16]]⟩,wk_ghosts hk (l := [.keep [2,3,4,5,6]]) (by kernel_rfl),x2 - (1:Int),x18.1,x19,x15,x16,h,rfl⟩
  · replace h := h.2 (of_decide_eq_false hb)
    refine awp_exit (then_x (then_x (blk_h (tc ((awp_spine (dr hk [4,5] [] [] [] ⟨[[],[],[0],[0,1,2]],[.agg [vb x3,vs x4],.agg [vb x5,vs x6],.tup [],.tup []],_,[],[([],[.box [vb x3,vs x4],.box [vb x5,vs x6]])],[],[]⟩ ⟨49,[(4,.ref 0 0 0),(5,.ref 1 0 0)],[.box [vb x3,vs x4],.box [vb x5,vs x6]]⟩ (.n (.n (.n (.n AllO.e)))) (tc ((awp_ret (tr (tr (tr (?_))))))))))))))
    exact re hk (.tup [.agg (c_farkas_row (((x3,x4),(x5,x6)).1)),.agg (c_farkas_row (((x3,x4),(x5,x6)).2))]) [.keep [4,5]] ⟨49,[(4,.ref 0 0 0),(5,.ref 1 0 0)],[.box [vb x3,vs x4],.box [vb x5,vs x6]]⟩ ⟨((x3,x4),(x5,x6)),rfl,rfl,h⟩
theorem ok_ref09_Int_Quo (a1 : ref09_Int) (a2 : ref09_Int) (h : ref09_Int_Quo.pre a1 a2) : OkC prog 69 [.agg (c_farkas_row a1),.agg (c_farkas_row a2)] (.tup [.agg (c_farkas_row ((ref09_Int_Quo.fn a1 a2).1)),.agg (c_farkas_row ((ref09_Int_Quo.fn a1 a2).2))]) :=
  OkC.of call_ref09_Int_Quo ((walk_ref09_Int_Quo a1 a2 _ (ref09_Int_Quo.spec a1 a2 h)).mono fun r o ⟨x,hr,ho,hx⟩ => ⟨by rw [hr,hx],ho⟩) rfl rfl (fun _ => rfl)

end Go.Proofs.Ytlncingakpelbaa
