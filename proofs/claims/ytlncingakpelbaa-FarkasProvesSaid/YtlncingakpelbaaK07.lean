/- Part of a proof that the law FarkasProves of the program holds for every input: printed by a program of this work: how the functions are walked. No conditions. -/
import Derived.Test.YtlncingakpelbaaK06
namespace Go.Proofs.Ytlncingakpelbaa
open Go
set_option linter.unusedVariables false
set_option maxHeartbeats 4000000

noncomputable abbrev b38 : Code := bodyOf Try.f38
theorem call_ref09_Gcd : CallOk prog 38 := ⟨_,Try.func38,by kernel_rfl,by kernel_rfl⟩
theorem walk_ref09_Gcd (a1 : ref09_Int) (a2 : ref09_Int) (Q : ref09_Int → Prop) (h : ref09_Gcd.wp a1 a2 Q) : VCalls prog 38 [.agg (c_farkas_row a1),.agg (c_farkas_row a2)] [] (fun r o => ∃ x,r = .agg (c_farkas_row x) ∧ o = [] ∧ Q x) := by
  refine body Try.func38 (spine (subC [0] b38) [(spine (subC [1,0] b38) [(spine (.block 0 (.loop (spine (subC [1,1,0,0,0,0,0] b38) [(.cond (.tmp 13) .skip (.exit 0)),(.block 1 (spine (subC [1,1,0,0,0,1,0,0] b38) [(subC [1,1,0,0,0,1,0,1] b38)]))]))) [(spine (subC [1,1,1,0] b38) [.ret])])])]) fun cx hd hi hk => ?_
  show AWp prog cx _ _ ⟨23,[(0,.agg (c_farkas_row a1)),(1,.agg (c_farkas_row a2))],[]⟩
  replace hk : cx.E.len = 0 := hk
  unfold ref09_Gcd.wp at h
  refine awp_spine (rc [2,3,4] [] [] [] ⟨23,[(2,.ref 0 0 0),(3,.ref 1 0 0),(4,.ref 2 0 0)],[.box (c_farkas_row a1),.box (c_farkas_row a2),.box [vb false,.nils]]⟩ (pe) (tc ((awp_spine (dr hk [2,3,4] [] [1,3] [] ⟨[[],[0],[],[0,1,2],[0,1,2,3],(lr 5)],[.agg (c_farkas_row a1),.agg (c_farkas_row (ref09_Int_Abs.fn a1)),.agg (c_farkas_row a2),.agg (c_farkas_row (ref09_Int_Abs.fn a2)),.tup [],.tup []],_,[4,5],[([],[.box (c_farkas_row a1),.box (c_farkas_row a2),.box [vb false,.nils]]),([4],[.box (c_farkas_row (ref09_Int_Abs.fn a1)),.box (c_farkas_row a2),.box [vb false,.nils]]),([4,5],[.box (c_farkas_row (ref09_Int_Abs.fn a1)),.box (c_farkas_row (ref09_Int_Abs.fn a2)),.box [vb false,.nils]])],[],[]⟩ ⟨23,[(2,.ref 0 0 0),(3,.ref 1 0 0),(4,.ref 2 0 0)],[.box (c_farkas_row (ref09_Int_Abs.fn a1)),.box (c_farkas_row (ref09_Int_Abs.fn a2)),.box [vb false,.nils]]⟩ (.n (.s (ok_ref09_Int_Abs a1) (.n (.s (ok_ref09_Int_Abs a2) (.n (.n AllO.e)))))) (tc ((awp_abs (fun (x1 : ref09_Int) => ⟨23,[(2,.ref 0 0 0),(3,.ref 1 0 0),(4,.ref 2 0 0)],[.box (c_farkas_row x1),.box (c_farkas_row (ref09_Int_Abs.fn a2)),.box [vb false,.nils]]⟩) (ref09_Int_Abs.fn a1) ?_))))))))
  intro x1 hx1
  replace h := h x1 hx1
  refine awp_abs (fun (x2 : ref09_Int) => ⟨23,[(2,.ref 0 0 0),(3,.ref 1 0 0),(4,.ref 2 0 0)],[.box (c_farkas_row x1),.box (c_farkas_row x2),.box [vb false,.nils]]⟩) (ref09_Int_Abs.fn a2) ?_
  intro x2 hx2
  replace h := h x2 hx2
  obtain ⟨I15,⟨n15a,hz15⟩,hI15⟩ := h
  refine awp_spine (awp_block (awp_loopN (fun n s => ∃ (x7 : Bool) (x8 : (List Int)) (x9 : Bool) (x10 : (List Int)),I15 n x7 x8 x9 x10 ∧ s = ⟨23,[(2,.ref 0 0 0),(3,.ref 1 0 0),(4,.ref 2 0 0)],[.box [vb x7,vs x8],.box [vb x9,vs x10],.box [vb false,.nils]]⟩) (n := n15a) (s0 := ⟨23,[(2,.ref 0 0 0),(3,.ref 1 0 0),(4,.ref 2 0 0)],[.box (c_farkas_row x1),.box (c_farkas_row x2),.box [vb false,.nils]]⟩) (wk_ghosts hk (l := [.keep [2,3,4]]) (by kernel_rfl)) ⟨x1.1,x1.2,x2.1,x2.2,hz15,rfl⟩ ?_))
  rintro n15 s ⟨x7,x8,x9,x10,hx15,rfl⟩
  have h := hI15 n15 x7 x8 x9 x10 hx15
  refine awp_spine (rc [2,3,4,13] [] [(1,.dat (vi (ref09_Int_Sign.fn (x9,x10))))] [] ⟨23,[(2,.ref 0 0 0),(3,.ref 1 0 0),(4,.ref 2 0 0),(13,vb ((ref09_Int_Sign.fn (x9,x10)) != (0:Int)))],[.box [vb x7,vs x8],.box [vb x9,vs x10],.box [vb false,.nils]]⟩ (pn (ok_ref09_Int_Sign (x9,x10)) pe) (tc ((awp_abs (fun (x16:Int) => ⟨23,[(2,.ref 0 0 0),(3,.ref 1 0 0),(4,.ref 2 0 0),(13,vb (x16 != (0:Int)))],[.box [vb x7,vs x8],.box [vb x9,vs x10],.box [vb false,.nils]]⟩) (ref09_Int_Sign.fn (x9,x10)) ?_))))
  intro x16 hx16
  replace h := h x16 hx16
  refine awp_cond (b := x16 != (0:Int)) (by kernel_rfl) (fun hb => ?_) (fun hb => ?_)
  · replace h := h.1 (bne_iff_ne.mp hb)
    obtain ⟨o1,h⟩ := h
    refine awp_skip (tc ((awp_block (awp_spine (rc [2,3,4,6] [] [(2,.dat (.tup [.agg (c_farkas_row ((ref09_Int_Quo.fn (x7,x8) (x9,x10)).1)),.agg (c_farkas_row ((ref09_Int_Quo.fn (x7,x8) (x9,x10)).2))]))] [] ⟨23,[(2,.ref 0 0 0),(3,.ref 1 0 0),(4,.ref 2 0 0),(6,.ref 4 0 0)],[.box [vb x7,vs x8],.box [vb x9,vs x10],.box [vb false,.nils],.box (c_farkas_row ((ref09_Int_Quo.fn (x7,x8) (x9,x10)).1)),.box (c_farkas_row ((ref09_Int_Quo.fn (x7,x8) (x9,x10)).2))]⟩ (pn (ok_ref09_Int_Quo (x7,x8) (x9,x10) (o1)) pe) (tc ((awp_abs (fun (x17 : ref09_Int × ref09_Int) => ⟨23,[(2,.ref 0 0 0),(3,.ref 1 0 0),(4,.ref 2 0 0),(6,.ref 4 0 0)],[.box [vb x7,vs x8],.box [vb x9,vs x10],.box [vb false,.nils],.box (c_farkas_row x17.1),.box (c_farkas_row x17.2)]⟩) (ref09_Int_Quo.fn (x7,x8) (x9,x10)) ?_))))))))
    intro x17 hx17
    replace h := h x17 hx17
    refine awp_abs (fun (x18 : (List Int)) => ⟨23,[(2,.ref 0 0 0),(3,.ref 1 0 0),(4,.ref 2 0 0),(6,.ref 4 0 0)],[.box [vb x7,vs x8],.box [vb x9,vs x10],.box [vb false,.nils],.box [vb x17.1.1,vs x18],.box (c_farkas_row x17.2)]⟩) (x17.1.2) ?_
    intro x18 hx18
    replace h := h x18 hx18
    refine awp_abs (fun (x19 : (List Int)) => ⟨23,[(2,.ref 0 0 0),(3,.ref 1 0 0),(4,.ref 2 0 0),(6,.ref 4 0 0)],[.box [vb x7,vs x8],.box [vb x9,vs x10],.box [vb false,.nils],.box [vb x17.1.1,vs x18],.box [vb x17.2.1,vs x19]]⟩) (x17.2.2) ?_
    intro x19 hx19
    replace h := h x19 hx19
    refine dr hk [2,3,4] [] [] [] ⟨[[],[],[0],[0,1,2]],[.agg [vb x9,vs x10],.agg [vb x17.2.1,vs x19],.tup [],.tup []],_,[2,3],[([],[.box [vb x7,vs x8],.box [vb x9,vs x10],.box [vb false,.nils],.box [vb x17.1.1,vs x18],.box [vb x17.2.1,vs x19]]),([2],[.box [vb x9,vs x10],.box [vb x9,vs x10],.box [vb false,.nils],.box [vb x17.1.1,vs x18],.box [vb x17.2.1,vs x19]]),([2,3],[.box [vb x9,vs x10],.box [vb x17.2.1,vs x19],.box [vb false,.nils],.box [vb x17.1.1,vs x18],.box [vb x17.2.1,vs x19]])],[],[]⟩ ⟨23,[(2,.ref 0 0 0),(3,.ref 1 0 0),(4,.ref 2 0 0)],[.box [vb x9,vs x10],.box [vb x17.2.1,vs x19],.box [vb false,.nils],.box [vb x17.1.1,vs x18],.box [vb x17.2.1,vs x19]]⟩ (.n (.n (.n (.n AllO.e)))) (te ((blk_n (te ((then_n (?_)))))))
    obtain ⟨m,hm,h⟩ := h
    exact ⟨m,hm,⟨23,[(2,.ref 0 0 0),(3,.ref 1 0 0),(4,.ref 2 0 0)],[.box [vb x9,vs x10],.box [vb x17.2.1,vs x19],.box [vb false,.nils]]⟩,wk_ghosts hk (l := [.keep [2,3,4],.cut 3,.keep [2,3,4]]) (by kernel_rfl),x9,x10,x17.2.1,x19,h,rfl⟩
  · replace h := h.2 (bne_f hb)
    refine awp_exit (then_x (then_x (blk_h (tc ((awp_spine (rc [4] [] [] [] ⟨23,[(4,.ref 2 0 0)],[.box [vb x7,vs x8],.box [vb x9,vs x10],.box [vb x7,vs x8]]⟩ (pe) (tc ((awp_ret (tr (tr (tr (tr (?_)))))))))))))))
    exact re hk (.agg (c_farkas_row (x7,x8))) [.keep [4]] ⟨23,[(4,.ref 2 0 0)],[.box [vb x7,vs x8],.box [vb x9,vs x10],.box [vb x7,vs x8]]⟩ ⟨(x7,x8),rfl,rfl,h⟩
theorem ok_ref09_Gcd (a1 : ref09_Int) (a2 : ref09_Int) (h : ref09_Gcd.pre a1 a2) : OkC prog 38 [.agg (c_farkas_row a1),.agg (c_farkas_row a2)] (.agg (c_farkas_row (ref09_Gcd.fn a1 a2))) :=
  OkC.of call_ref09_Gcd ((walk_ref09_Gcd a1 a2 _ (ref09_Gcd.spec a1 a2 h)).mono fun r o ⟨x,hr,ho,hx⟩ => ⟨by rw [hr,hx],ho⟩) rfl rfl (fun _ => rfl)

noncomputable abbrev b36 : Code := bodyOf Try.f36
theorem call_ref09_Int_Mul : CallOk prog 36 := ⟨_,Try.func36,by kernel_rfl,by kernel_rfl⟩
theorem walk_ref09_Int_Mul (a1 : ref09_Int) (a2 : ref09_Int) (Q : ref09_Int → Prop) (h : ref09_Int_Mul.wp a1 a2 Q) : VCalls prog 36 [.agg (c_farkas_row a1),.agg (c_farkas_row a2)] [] (fun r o => ∃ x,r = .agg (c_farkas_row x) ∧ o = [] ∧ Q x) := by
  refine body Try.func36 (spine (subC [0] b36) [(spine (subC [1,0] b36) [(spine (subC [1,1,0,0] b36) [(.block 0 (.loop (spine (subC [1,1,0,1,0,0,0] b36) [(spine (.cond (.tmp 23) .skip (.exit 0)) [(spine (.block 1 (spine (subC [1,1,0,1,0,0,1,1,0,0,0] b36) [(spine (subC [1,1,0,1,0,0,1,1,0,0,1,0] b36) [(spine (subC [1,1,0,1,0,0,1,1,0,0,1,1,0,0] b36) [(.block 2 (.loop (spine (subC [1,1,0,1,0,0,1,1,0,0,1,1,0,1,0,0,0] b36) [(spine (.cond (.tmp 31) .skip (.exit 2)) [(spine (.block 3 (spine (subC [1,1,0,1,0,0,1,1,0,0,1,1,0,1,0,0,1,1,0,0,0] b36) [(spine (subC [1,1,0,1,0,0,1,1,0,0,1,1,0,1,0,0,1,1,0,0,1,0] b36) [(spine (subC [1,1,0,1,0,0,1,1,0,0,1,1,0,1,0,0,1,1,0,0,1,1,0] b36) [(subC [1,1,0,1,0,0,1,1,0,0,1,1,0,1,0,0,1,1,0,0,1,1,1] b36)])])])) [(subC [1,1,0,1,0,0,1,1,0,0,1,1,0,1,0,0,1,1,1] b36)])])]))),(subC [1,1,0,1,0,0,1,1,0,0,1,1,1] b36)])])])) [(subC [1,1,0,1,0,0,1,1,1] b36)])])]))),(spine (subC [1,1,1,0] b36) [.ret])])])]) fun cx hd hi hk => ?_
  show AWp prog cx _ _ ⟨77,[(0,.agg (c_farkas_row a1)),(1,.agg (c_farkas_row a2))],[]⟩
  replace hk : cx.E.len = 0 := hk
  unfold ref09_Int_Mul.wp at h
  obtain ⟨o1,o2,h⟩ := h
  refine awp_spine (rc [2,3,4] [] [] [0,1] ⟨77,[(2,.er (c_farkas_row a1)),(3,.er (c_farkas_row a2)),(4,.ref 0 0 0)],[.box [vb false,.nils]]⟩ (pe) (tc ((awp_spine (rc [2,3,4,5] [] [] [] ⟨77,[(2,.er (c_farkas_row a1)),(3,.er (c_farkas_row a2)),(4,.ref 0 0 0),(5,.osl 1 0)],[.box [vb false,.nils],.row tI (List.replicate (Int.toNat ((a1.2.length:Int) + (a2.2.length:Int))) (0:Int)) 0]⟩ (pn o1 (pn o2 pe)) (tc ((awp_abs (fun (x1 : (List Int)) => ⟨77,[(2,.er (c_farkas_row a1)),(3,.er (c_farkas_row a2)),(4,.ref 0 0 0),(5,.osl 1 0)],[.box [vb false,.nils],.row tI x1 0]⟩) (List.replicate (Int.toNat ((a1.2.length:Int) + (a2.2.length:Int))) (0:Int)) ?_))))))))
  intro x1 hx1
  replace h := h x1 hx1
  refine awp_len 2 [1] (T := tI) (l := a1.2) (by kernel_rfl) fun hl => ?_
  replace h := h hl
  refine awp_len 3 [1] (T := tI) (l := a2.2) (by kernel_rfl) fun hl => ?_
  replace h := h hl
  refine awp_spine (rc [2,3,4,5,20,21,22] [] [] [] ⟨77,[(2,.er (c_farkas_row a1)),(3,.er (c_farkas_row a2)),(4,.ref 0 0 0),(5,.osl 1 0),(20,vs a1.2),(21,vi (a1.2.length:Int)),(22,vi 0)],[.box [vb false,.nils],.row tI x1 0]⟩ (pe) (tc ((awp_len 2 [1] (T := tI) (l := a1.2) (by kernel_rfl) fun hl => ?_))))
  replace h := h hl
  obtain ⟨I8,⟨n8a,hz8⟩,hI8⟩ := h
  refine awp_block (awp_loopN (fun n s => ∃ (x4:Int) (x5 : (List Int)),I8 n x4 x5 ∧ s = ⟨77,[(2,.er (c_farkas_row a1)),(3,.er (c_farkas_row a2)),(4,.ref 0 0 0),(5,.osl 1 0),(20,vs a1.2),(21,vi (a1.2.length:Int)),(22,vi x4)],[.box [vb false,.nils],.row tI x5 0]⟩) (n := n8a) (s0 := ⟨77,[(2,.er (c_farkas_row a1)),(3,.er (c_farkas_row a2)),(4,.ref 0 0 0),(5,.osl 1 0),(20,vs a1.2),(21,vi (a1.2.length:Int)),(22,vi 0)],[.box [vb false,.nils],.row tI x1 0]⟩) (wk_ghosts hk (l := [.keep [2,3,4,5,20,21,22]]) (by kernel_rfl)) ⟨0,x1,hz8,rfl⟩ ?_)
  rintro n8 s ⟨x4,x5,hx8,rfl⟩
  have h := hI8 n8 x4 x5 hx8
  refine awp_spine (rc [2,3,4,5,20,21,22,23] [] [] [] ⟨77,[(2,.er (c_farkas_row a1)),(3,.er (c_farkas_row a2)),(4,.ref 0 0 0),(5,.osl 1 0),(20,vs a1.2),(21,vi (a1.2.length:Int)),(22,vi x4),(23,vb (decide (x4 < (a1.2.length:Int))))],[.box [vb false,.nils],.row tI x5 0]⟩ (pe) (tc ((awp_spine (awp_cond (b := decide (x4 < (a1.2.length:Int))) (by kernel_rfl) (fun hb => ?_) (fun hb => ?_))))))
  · replace h := h.1 (of_decide_eq_true hb)
    obtain ⟨o3,h⟩ := h
    refine awp_skip (tc ((awp_spine (awp_block (awp_spine (rc [2,3,4,5,6,7,20,21,22] [] [] [] ⟨77,[(2,.er (c_farkas_row a1)),(3,.er (c_farkas_row a2)),(4,.ref 0 0 0),(5,.osl 1 0),(6,vi x4),(7,vi (gI a1.2 x4)),(20,vs a1.2),(21,vi (a1.2.length:Int)),(22,vi x4)],[.box [vb false,.nils],.row tI x5 0]⟩ (pn o3 pe) (tc ((awp_spine (rc [2,3,4,5,6,7,8,20,21,22] [] [] [] ⟨77,[(2,.er (c_farkas_row a1)),(3,.er (c_farkas_row a2)),(4,.ref 0 0 0),(5,.osl 1 0),(6,vi x4),(7,vi (gI a1.2 x4)),(8,vi 0),(20,vs a1.2),(21,vi (a1.2.length:Int)),(22,vi x4)],[.box [vb false,.nils],.row tI x5 0]⟩ (pe) (tc ((awp_spine (rc [2,3,4,5,6,7,8,20,21,22,28,29,30] [] [] [] ⟨77,[(2,.er (c_farkas_row a1)),(3,.er (c_farkas_row a2)),(4,.ref 0 0 0),(5,.osl 1 0),(6,vi x4),(7,vi (gI a1.2 x4)),(8,vi 0),(20,vs a1.2),(21,vi (a1.2.length:Int)),(22,vi x4),(28,vs a2.2),(29,vi (a2.2.length:Int)),(30,vi 0)],[.box [vb false,.nils],.row tI x5 0]⟩ (pe) (tc ((awp_len 3 [1] (T := tI) (l := a2.2) (by kernel_rfl) fun hl => ?_)))))))))))))))))
    replace h := h hl
    obtain ⟨I18,⟨n18a,hz18⟩,hI18⟩ := h
    refine awp_block (awp_loopN (fun n s => ∃ (x12:Int) (x13:Int) (x14 : (List Int)),I18 n x12 x13 x14 ∧ s = ⟨77,[(2,.er (c_farkas_row a1)),(3,.er (c_farkas_row a2)),(4,.ref 0 0 0),(5,.osl 1 0),(6,vi x4),(7,vi (gI a1.2 x4)),(8,vi x12),(20,vs a1.2),(21,vi (a1.2.length:Int)),(22,vi x4),(28,vs a2.2),(29,vi (a2.2.length:Int)),(30,vi x13)],[.box [vb false,.nils],.row tI x14 0]⟩) (n := n18a) (s0 := ⟨77,[(2,.er (c_farkas_row a1)),(3,.er (c_farkas_row a2)),(4,.ref 0 0 0),(5,.osl 1 0),(6,vi x4),(7,vi (gI a1.2 x4)),(8,vi 0),(20,vs a1.2),(21,vi (a1.2.length:Int)),(22,vi x4),(28,vs a2.2),(29,vi (a2.2.length:Int)),(30,vi 0)],[.box [vb false,.nils],.row tI x5 0]⟩) (wk_ghosts hk (l := [.keep [2,3,4,5,6,7,8,20,21,22,28,29,30]]) (by kernel_rfl)) ⟨0,0,x5,hz18,rfl⟩ ?_)
    rintro n18 s ⟨x12,x13,x14,hx18,rfl⟩
    have h := hI18 n18 x12 x13 x14 hx18
    refine awp_spine (rc [2,3,4,5,6,7,8,20,21,22,28,29,30,31] [] [] [] ⟨77,[(2,.er (c_farkas_row a1)),(3,.er (c_farkas_row a2)),(4,.ref 0 0 0),(5,.osl 1 0),(6,vi x4),(7,vi (gI a1.2 x4)),(8,vi x12),(20,vs a1.2),(21,vi (a1.2.length:Int)),(22,vi x4),(28,vs a2.2),(29,vi (a2.2.length:Int)),(30,vi x13),(31,vb (decide (x13 < (a2.2.length:Int))))],[.box [vb false,.nils],.row tI x14 0]⟩ (pe) (tc ((awp_spine (awp_cond (b := decide (x13 < (a2.2.length:Int))) (by kernel_rfl) (fun hb => ?_) (fun hb => ?_))))))
    · replace h := h.1 (of_decide_eq_true hb)
      obtain ⟨o4,h⟩ := h
      obtain ⟨o5,o6,o7,o8,o9,o10,h⟩ := h
      refine awp_skip (tc ((awp_spine (awp_block (awp_spine (rc [2,3,4,5,6,7,8,9,10,20,21,22,28,29,30] [] [] [] ⟨77,[(2,.er (c_farkas_row a1)),(3,.er (c_farkas_row a2)),(4,.ref 0 0 0),(5,.osl 1 0),(6,vi x4),(7,vi (gI a1.2 x4)),(8,vi x12),(9,vi x13),(10,vi (gI a2.2 x13)),(20,vs a1.2),(21,vi (a1.2.length:Int)),(22,vi x4),(28,vs a2.2),(29,vi (a2.2.length:Int)),(30,vi x13)],[.box [vb false,.nils],.row tI x14 0]⟩ (pn o4 pe) (tc ((awp_spine (rc [2,3,4,5,6,7,8,9,20,21,22,28,29,30] [] [] [] ⟨77,[(2,.er (c_farkas_row a1)),(3,.er (c_farkas_row a2)),(4,.ref 0 0 0),(5,.osl 1 0),(6,vi x4),(7,vi (gI a1.2 x4)),(8,vi (x12 + ((x14.getD (Int.toNat (x4 + x13)) (0:Int)) + ((gI a1.2 x4) * (gI a2.2 x13))))),(9,vi x13),(20,vs a1.2),(21,vi (a1.2.length:Int)),(22,vi x4),(28,vs a2.2),(29,vi (a2.2.length:Int)),(30,vi x13)],[.box [vb false,.nils],.row tI x14 0]⟩ (pn o5 (pn o6 (pn o7 (pn o8 (pn o9 (pn o10 pe)))))) (tc ((awp_abs (fun (x19:Int) => ⟨77,[(2,.er (c_farkas_row a1)),(3,.er (c_farkas_row a2)),(4,.ref 0 0 0),(5,.osl 1 0),(6,vi x4),(7,vi (gI a1.2 x4)),(8,vi x19),(9,vi x13),(20,vs a1.2),(21,vi (a1.2.length:Int)),(22,vi x4),(28,vs a2.2),(29,vi (a2.2.length:Int)),(30,vi x13)],[.box [vb false,.nils],.row tI x14 0]⟩) (x12 + ((x14.getD (Int.toNat (x4 + x13)) (0:Int)) + ((gI a1.2 x4) * (gI a2.2 x13)))) ?_)))))))))))))
      intro x19 hx19
      replace h := h x19 hx19
      obtain ⟨o11,o12,o13,h⟩ := h
      refine awp_spine (rc [2,3,4,5,6,7,8,20,21,22,28,29,30] [] [] [] ⟨77,[(2,.er (c_farkas_row a1)),(3,.er (c_farkas_row a2)),(4,.ref 0 0 0),(5,.osl 1 0),(6,vi x4),(7,vi (gI a1.2 x4)),(8,vi x19),(20,vs a1.2),(21,vi (a1.2.length:Int)),(22,vi x4),(28,vs a2.2),(29,vi (a2.2.length:Int)),(30,vi x13)],[.box [vb false,.nils],.row tI (x14.set (Int.toNat (x4 + x13)) (IntKind.wrap .i64 ((BitVec.ofInt 64 x19 &&& BitVec.ofInt 64 (65535:Int)).toNat:Int))) 0]⟩ (pn o11 (pn o12 (pn o13 pe))) (tc ((awp_abs (fun (x20 : (List Int)) => ⟨77,[(2,.er (c_farkas_row a1)),(3,.er (c_farkas_row a2)),(4,.ref 0 0 0),(5,.osl 1 0),(6,vi x4),(7,vi (gI a1.2 x4)),(8,vi x19),(20,vs a1.2),(21,vi (a1.2.length:Int)),(22,vi x4),(28,vs a2.2),(29,vi (a2.2.length:Int)),(30,vi x13)],[.box [vb false,.nils],.row tI x20 0]⟩) (x14.set (Int.toNat (x4 + x13)) (IntKind.wrap .i64 ((BitVec.ofInt 64 x19 &&& BitVec.ofInt 64 (65535:Int)).toNat:Int))) ?_))))
      intro x20 hx20
      replace h := h x20 hx20
      obtain ⟨o14,h⟩ := h
      refine rc [2,3,4,5,6,7,8,20,21,22,28,29,30] [] [] [] ⟨77,[(2,.er (c_farkas_row a1)),(3,.er (c_farkas_row a2)),(4,.ref 0 0 0),(5,.osl 1 0),(6,vi x4),(7,vi (gI a1.2 x4)),(8,vi (Int.fdiv x19 (2 ^ (min (Int.toNat (16:Int)) 64)))),(20,vs a1.2),(21,vi (a1.2.length:Int)),(22,vi x4),(28,vs a2.2),(29,vi (a2.2.length:Int)),(30,vi x13)],[.box [vb false,.nils],.row tI x20 0]⟩ (pn o14 pe) (te ((te ((te ((blk_n (tc ((awp_abs (fun (x21:Int) => ⟨77,[(2,.er (c_farkas_row a1)),(3,.er (c_farkas_row a2)),(4,.ref 0 0 0),(5,.osl 1 0),(6,vi x4),(7,vi (gI a1.2 x4)),(8,vi x21),(20,vs a1.2),(21,vi (a1.2.length:Int)),(22,vi x4),(28,vs a2.2),(29,vi (a2.2.length:Int)),(30,vi x13)],[.box [vb false,.nils],.row tI x20 0]⟩) (Int.fdiv x19 (2 ^ (min (Int.toNat (16:Int)) 64))) ?_))))))))))
      intro x21 hx21
      replace h := h x21 hx21
      obtain ⟨o15,h⟩ := h
      refine rc [2,3,4,5,6,7,8,20,21,22,28,29,30] [] [] [] ⟨77,[(2,.er (c_farkas_row a1)),(3,.er (c_farkas_row a2)),(4,.ref 0 0 0),(5,.osl 1 0),(6,vi x4),(7,vi (gI a1.2 x4)),(8,vi x21),(20,vs a1.2),(21,vi (a1.2.length:Int)),(22,vi x4),(28,vs a2.2),(29,vi (a2.2.length:Int)),(30,vi (x13 + (1:Int)))],[.box [vb false,.nils],.row tI x20 0]⟩ (pn o15 pe) (te ((te ((te ((then_n (?_))))))))
      obtain ⟨m,hm,h⟩ := h
      exact ⟨m,hm,⟨77,[(2,.er (c_farkas_row a1)),(3,.er (c_farkas_row a2)),(4,.ref 0 0 0),(5,.osl 1 0),(6,vi x4),(7,vi (gI a1.2 x4)),(8,vi x21),(20,vs a1.2),(21,vi (a1.2.length:Int)),(22,vi x4),(28,vs a2.2),(29,vi (a2.2.length:Int)),(30,vi (x13 + (1:Int)))],[.box [vb false,.nils],.row tI x20 0]⟩,wk_ghosts hk (l := [.keep [2,3,4,5,6,7,8,20,21,22,28,29,30]]) (by kernel_rfl),x21,x13 + (1:Int),x20,h,rfl⟩
    · replace h := h.2 (of_decide_eq_false hb)
      obtain ⟨o16,o17,o18,o19,o20,o21,h⟩ := h
      refine awp_exit (then_x (then_x (then_x (blk_h (tc ((rc [2,3,4,5,20,21,22] [] [] [] ⟨77,[(2,.er (c_farkas_row a1)),(3,.er (c_farkas_row a2)),(4,.ref 0 0 0),(5,.osl 1 0),(20,vs a1.2),(21,vi (a1.2.length:Int)),(22,vi x4)],[.box [vb false,.nils],.row tI (x14.set (Int.toNat (x4 + (a2.2.length:Int))) ((x14.getD (Int.toNat (x4 + (a2.2.length:Int))) (0:Int)) + x12)) 0]⟩ (pn o16 (pn o17 (pn o18 (pn o19 (pn o20 (pn o21 pe)))))) (te ((te ((te ((blk_n (tc ((awp_abs (fun (x22 : (List Int)) => ⟨77,[(2,.er (c_farkas_row a1)),(3,.er (c_farkas_row a2)),(4,.ref 0 0 0),(5,.osl 1 0),(20,vs a1.2),(21,vi (a1.2.length:Int)),(22,vi x4)],[.box [vb false,.nils],.row tI x22 0]⟩) (x14.set (Int.toNat (x4 + (a2.2.length:Int))) ((x14.getD (Int.toNat (x4 + (a2.2.length:Int))) (0:Int)) + x12)) ?_)))))))))))))))))
      intro x22 hx22
      replace h := h x22 hx22
      refine awp_len 3 [1] (T := tI) (l := a2.2) (by kernel_rfl) fun hl => ?_
      replace h := h hl
      obtain ⟨o22,h⟩ := h
      refine rc [2,3,4,5,20,21,22] [] [] [] ⟨77,[(2,.er (c_farkas_row a1)),(3,.er (c_farkas_row a2)),(4,.ref 0 0 0),(5,.osl 1 0),(20,vs a1.2),(21,vi (a1.2.length:Int)),(22,vi (x4 + (1:Int)))],[.box [vb false,.nils],.row tI x22 0]⟩ (pn o22 pe) (te ((te ((te ((then_n (?_))))))))
      obtain ⟨m,hm,h⟩ := h
      exact ⟨m,hm,⟨77,[(2,.er (c_farkas_row a1)),(3,.er (c_farkas_row a2)),(4,.ref 0 0 0),(5,.osl 1 0),(20,vs a1.2),(21,vi (a1.2.length:Int)),(22,vi (x4 + (1:Int)))],[.box [vb false,.nils],.row tI x22 0]⟩,wk_ghosts hk (l := [.keep [2,3,4,5,20,21,22]]) (by kernel_rfl),x4 + (1:Int),x22,h,rfl⟩
  · replace h := h.2 (of_decide_eq_false hb)
    obtain ⟨o23,h⟩ := h
    refine awp_exit (then_x (then_x (then_x (blk_h (tc ((awp_spine (awp_gh hk [.freeze 1,.keep [2,3,4,5,20,21,22,23]] ⟨77,[(2,.er (c_farkas_row a1)),(3,.er (c_farkas_row a2)),(4,.ref 0 0 0),(5,vs x5),(20,vs a1.2),(21,vi (a1.2.length:Int)),(22,vi x4),(23,vb (decide (x4 < (a1.2.length:Int))))],[.box [vb false,.nils],.dead]⟩ (by kernel_rfl) (dr hk [4] [] [6] [] ⟨[[],[0],[],[2],[0,1,2,3],[],[5],(lr 7),(lr 8)],[.er (c_farkas_row a1),vb a1.1,.er (c_farkas_row a2),vb a2.1,vb (a1.1 != a2.1),vs x5,vs (ref09_trim.fn x5),.agg [vb (a1.1 != a2.1),vs (ref09_trim.fn x5)],.tup []],_,[8],[([],[.box [vb false,.nils],.dead]),([8],[.box [vb (a1.1 != a2.1),vs (ref09_trim.fn x5)],.dead])],[],[]⟩ ⟨77,[(4,.ref 0 0 0)],[.box [vb (a1.1 != a2.1),vs (ref09_trim.fn x5)],.dead]⟩ (.n (.n (.n (.n (.n (.n (.s (ok_ref09_trim x5 (o23)) (.n (.n AllO.e))))))))) (tc ((awp_abs (fun (x23 : (List Int)) => ⟨77,[(4,.ref 0 0 0)],[.box [vb (a1.1 != a2.1),vs x23],.dead]⟩) (ref09_trim.fn x5) ?_))))))))))))
    intro x23 hx23
    replace h := h x23 hx23
    refine awp_ret (tr (tr (tr (tr (?_)))))
    exact re hk (.agg (c_farkas_row (a1.1 != a2.1,x23))) [.keep [4]] ⟨77,[(4,.ref 0 0 0)],[.box [vb (a1.1 != a2.1),vs x23],.dead]⟩ ⟨(a1.1 != a2.1,x23),rfl,rfl,h⟩
theorem ok_ref09_Int_Mul (a1 : ref09_Int) (a2 : ref09_Int) (h : ref09_Int_Mul.pre a1 a2) : OkC prog 36 [.agg (c_farkas_row a1),.agg (c_farkas_row a2)] (.agg (c_farkas_row (ref09_Int_Mul.fn a1 a2))) :=
  OkC.of call_ref09_Int_Mul ((walk_ref09_Int_Mul a1 a2 _ (ref09_Int_Mul.spec a1 a2 h)).mono fun r o ⟨x,hr,ho,hx⟩ => ⟨by rw [hr,hx],ho⟩) rfl rfl (fun _ => rfl)

noncomputable abbrev b37 : Code := bodyOf Try.f37
theorem call_ref09_Int_Over : CallOk prog 37 := ⟨_,Try.func37,by kernel_rfl,by kernel_rfl⟩
theorem walk_ref09_Int_Over (a1 : ref09_Int) (a2 : ref09_Int) (Q : ref09_Int → Prop) (h : ref09_Int_Over.wp a1 a2 Q) : VCalls prog 37 [.agg (c_farkas_row a1),.agg (c_farkas_row a2)] [] (fun r o => ∃ x,r = .agg (c_farkas_row x) ∧ o = [] ∧ Q x) := by
  refine body Try.func37 (spine (subC [0] b37) [(spine (subC [1,0,0] b37) [(.cond (.tmp 10) (spine (subC [1,0,1,0,0] b37) [.ret]) .skip),(spine (subC [1,1,0] b37) [(spine (subC [1,1,1,0] b37) [(spine (subC [1,1,1,1,0] b37) [.ret])])])])]) fun cx hd hi hk => ?_
  show AWp prog cx _ _ ⟨23,[(0,.agg (c_farkas_row a1)),(1,.agg (c_farkas_row a2))],[]⟩
  replace hk : cx.E.len = 0 := hk
  unfold ref09_Int_Over.wp at h
  obtain ⟨o1,o2,h⟩ := h
  refine awp_spine (rc [2,3,4] [] [] [0,1] ⟨23,[(2,.er (c_farkas_row a1)),(3,.er (c_farkas_row a2)),(4,.ref 0 0 0)],[.box [vb false,.nils]]⟩ (pe) (tc ((awp_spine (dr hk [2,3,4,10] [] [1,2] [] ⟨[[],[],[0,1],[0,1,2]],[.agg (c_farkas_row a2),.agg (c_farkas_row (ref09_Of.fn (1:Int))),vi (ref09_Int_Cmp.fn a2 (ref09_Of.fn (1:Int))),vb ((ref09_Int_Cmp.fn a2 (ref09_Of.fn (1:Int))) == (0:Int))],_,[],[([],[.box [vb false,.nils]])],[],[]⟩ ⟨23,[(2,.er (c_farkas_row a1)),(3,.er (c_farkas_row a2)),(4,.ref 0 0 0),(10,vb ((ref09_Int_Cmp.fn a2 (ref09_Of.fn (1:Int))) == (0:Int)))],[.box [vb false,.nils]]⟩ (.n (.s (ok_ref09_Of (1:Int) (o1)) (.s (ok_ref09_Int_Cmp a2 (ref09_Of.fn (1:Int)) (o2)) (.n AllO.e)))) (tc ((awp_abs (fun (x1 : ref09_Int) => ⟨23,[(2,.er (c_farkas_row a1)),(3,.er (c_farkas_row a2)),(4,.ref 0 0 0),(10,vb ((ref09_Int_Cmp.fn a2 x1) == (0:Int)))],[.box [vb false,.nils]]⟩) (ref09_Of.fn (1:Int)) ?_))))))))
  intro x1 hx1
  replace h := h x1 hx1
  refine awp_abs (fun (x2:Int) => ⟨23,[(2,.er (c_farkas_row a1)),(3,.er (c_farkas_row a2)),(4,.ref 0 0 0),(10,vb (x2 == (0:Int)))],[.box [vb false,.nils]]⟩) (ref09_Int_Cmp.fn a2 x1) ?_
  intro x2 hx2
  replace h := h x2 hx2
  refine awp_cond (b := x2 == (0:Int)) (by kernel_rfl) (fun hb => ?_) (fun hb => ?_)
  · replace h := h.1 (eq_of_beq hb)
    refine awp_spine (rc [4] [] [] [] ⟨23,[(4,.ref 0 0 0)],[.box (c_farkas_row a1)]⟩ (pe) (tc ((awp_ret (tr (tr (tr (?_))))))))
    exact re hk (.agg (c_farkas_row a1)) [.keep [4]] ⟨23,[(4,.ref 0 0 0)],[.box (c_farkas_row a1)]⟩ ⟨a1,rfl,rfl,h⟩
  · replace h := h.2 (ne_of_beq_false hb)
    obtain ⟨o3,h⟩ := h
    refine awp_skip (tc ((awp_spine (dr hk [2,4,5] [] [1,3] [] ⟨[[],[0],[],[0,1,2],[0,1,2,3],(lr 5),(lr 5),[],[],[0,1,2,3,4,5,7,8],(lr 10)],[.agg (c_farkas_row a1),.agg (c_farkas_row (ref09_Int_Abs.fn a1)),.agg (c_farkas_row a2),.tup [.agg (c_farkas_row ((ref09_Int_Quo.fn (ref09_Int_Abs.fn a1) a2).1)),.agg (c_farkas_row ((ref09_Int_Quo.fn (ref09_Int_Abs.fn a1) a2).2))],.tup [.agg (c_farkas_row ((ref09_Int_Quo.fn (ref09_Int_Abs.fn a1) a2).1)),.agg (c_farkas_row ((ref09_Int_Quo.fn (ref09_Int_Abs.fn a1) a2).2))],.agg (c_farkas_row ((ref09_Int_Quo.fn (ref09_Int_Abs.fn a1) a2).1)),.agg (c_farkas_row ((ref09_Int_Quo.fn (ref09_Int_Abs.fn a1) a2).2)),.ref 1 0 0,.ref 2 0 0,.tup [],.tup []],_,[7,8,9,10],[([],[.box [vb false,.nils]]),([7],[.box [vb false,.nils],.box [vb false,.nils]]),([7,8],[.box [vb false,.nils],.box [vb false,.nils],.box [vb false,.nils]]),([7,8,9],[.box [vb false,.nils],.box (c_farkas_row ((ref09_Int_Quo.fn (ref09_Int_Abs.fn a1) a2).1)),.box [vb false,.nils]]),([7,8,9,10],[.box [vb false,.nils],.box (c_farkas_row ((ref09_Int_Quo.fn (ref09_Int_Abs.fn a1) a2).1)),.box (c_farkas_row ((ref09_Int_Quo.fn (ref09_Int_Abs.fn a1) a2).2))]),([8],[.box [vb false,.nils],.box [vb false,.nils]])],[([8],[(8,.ref 1 0 0)])],[([8],[(7,1)])]⟩ ⟨23,[(2,.er (c_farkas_row a1)),(4,.ref 0 0 0),(5,.ref 1 0 0)],[.box [vb false,.nils],.box (c_farkas_row ((ref09_Int_Quo.fn (ref09_Int_Abs.fn a1) a2).1)),.box (c_farkas_row ((ref09_Int_Quo.fn (ref09_Int_Abs.fn a1) a2).2))]⟩ (.n (.s (ok_ref09_Int_Abs a1) (.n (.s (ok_ref09_Int_Quo (ref09_Int_Abs.fn a1) a2 (o3)) (.n (.n (.n (.n (.n (.n (.n AllO.e))))))))))) (tc ((awp_abs (fun (x3 : ref09_Int) => ⟨23,[(2,.er (c_farkas_row a1)),(4,.ref 0 0 0),(5,.ref 1 0 0)],[.box [vb false,.nils],.box (c_farkas_row ((ref09_Int_Quo.fn x3 a2).1)),.box (c_farkas_row ((ref09_Int_Quo.fn x3 a2).2))]⟩) (ref09_Int_Abs.fn a1) ?_)))))))
    intro x3 hx3
    replace h := h x3 hx3
    refine awp_abs (fun (x4 : ref09_Int × ref09_Int) => ⟨23,[(2,.er (c_farkas_row a1)),(4,.ref 0 0 0),(5,.ref 1 0 0)],[.box [vb false,.nils],.box (c_farkas_row x4.1),.box (c_farkas_row x4.2)]⟩) (ref09_Int_Quo.fn x3 a2) ?_
    intro x4 hx4
    replace h := h x4 hx4
    refine awp_abs (fun (x5 : (List Int)) => ⟨23,[(2,.er (c_farkas_row a1)),(4,.ref 0 0 0),(5,.ref 1 0 0)],[.box [vb false,.nils],.box [vb x4.1.1,vs x5],.box (c_farkas_row x4.2)]⟩) (x4.1.2) ?_
    intro x5 hx5
    replace h := h x5 hx5
    refine awp_abs (fun (x6 : (List Int)) => ⟨23,[(2,.er (c_farkas_row a1)),(4,.ref 0 0 0),(5,.ref 1 0 0)],[.box [vb false,.nils],.box [vb x4.1.1,vs x5],.box [vb x4.2.1,vs x6]]⟩) (x4.2.2) ?_
    intro x6 hx6
    replace h := h x6 hx6
    refine awp_spine (rc [4,5] [] [] [] ⟨23,[(4,.ref 0 0 0),(5,.ref 1 0 0)],[.box [vb false,.nils],.box [vb a1.1,vs x5],.box [vb x4.2.1,vs x6]]⟩ (pe) (tc ((awp_spine (rc [4] [] [] [] ⟨23,[(4,.ref 0 0 0)],[.box [vb a1.1,vs x5],.box [vb a1.1,vs x5],.box [vb x4.2.1,vs x6]]⟩ (pe) (tc ((awp_ret (tr (tr (tr (tr (tr (?_))))))))))))))
    exact re hk (.agg (c_farkas_row (a1.1,x5))) [.keep [4]] ⟨23,[(4,.ref 0 0 0)],[.box [vb a1.1,vs x5],.box [vb a1.1,vs x5],.box [vb x4.2.1,vs x6]]⟩ ⟨(a1.1,x5),rfl,rfl,h⟩
theorem ok_ref09_Int_Over (a1 : ref09_Int) (a2 : ref09_Int) (h : ref09_Int_Over.pre a1 a2) : OkC prog 37 [.agg (c_farkas_row a1),.agg (c_farkas_row a2)] (.agg (c_farkas_row (ref09_Int_Over.fn a1 a2))) :=
  OkC.of call_ref09_Int_Over ((walk_ref09_Int_Over a1 a2 _ (ref09_Int_Over.spec a1 a2 h)).mono fun r o ⟨x,hr,ho,hx⟩ => ⟨by rw [hr,hx],ho⟩) rfl rfl (fun _ => rfl)

noncomputable abbrev b39 : Code := bodyOf Try.f39
theorem call_ref09_Int_Small : CallOk prog 39 := ⟨_,Try.func39,by kernel_rfl,by kernel_rfl⟩
theorem walk_ref09_Int_Small (a1 : ref09_Int) (Q : Int × Bool → Prop) (h : ref09_Int_Small.wp a1 Q) : VCalls prog 39 [.agg (c_farkas_row a1)] [] (fun r o => ∃ x,r = .tup [vi x.1,vb x.2] ∧ o = [] ∧ Q x) := by
  refine body Try.func39 (spine (subC [0] b39) [(spine (subC [1,0,0] b39) [(.cond (.tmp 10) (spine (subC [1,0,1,0,0] b39) [.ret]) .skip),(spine (subC [1,1,0] b39) [(spine (subC [1,1,1,0,0] b39) [(.block 0 (.loop (spine (subC [1,1,1,0,1,0,0,0,0] b39) [(.cond (.tmp 16) .skip (.exit 0)),(spine (.block 1 (subC [1,1,1,0,1,0,0,1,0,0] b39)) [(subC [1,1,1,0,1,0,0,1,1] b39)])]))),(spine (subC [1,1,1,1,0,0] b39) [(.cond (.tmp 28) (subC [1,1,1,1,0,1,0] b39) .skip),(spine (subC [1,1,1,1,1,0] b39) [.ret])])])])])]) fun cx hd hi hk => ?_
  show AWp prog cx _ _ ⟨32,[(0,.agg (c_farkas_row a1))],[]⟩
  replace hk : cx.E.len = 0 := hk
  unfold ref09_Int_Small.wp at h
  obtain ⟨o1,o2,h⟩ := h
  refine awp_spine (rc [1] [] [] [0] ⟨32,[(1,.er (c_farkas_row a1))],[]⟩ (pe) (tc ((awp_spine (rc [1,10] [] [(1,.dat (.agg (c_farkas_row (ref09_Int_Abs.fn a1)))),(2,.dat (.agg (c_farkas_row (ref09_Of.fn (268435456:Int))))),(3,.dat (vi (ref09_Int_Cmp.fn (ref09_Int_Abs.fn a1) (ref09_Of.fn (268435456:Int)))))] [] ⟨32,[(1,.er (c_farkas_row a1)),(10,vb (decide ((ref09_Int_Cmp.fn (ref09_Int_Abs.fn a1) (ref09_Of.fn (268435456:Int))) > (0:Int))))],[]⟩ (pn (ok_ref09_Int_Abs a1) (pn (ok_ref09_Of (268435456:Int) (o1)) (pn (ok_ref09_Int_Cmp (ref09_Int_Abs.fn a1) (ref09_Of.fn (268435456:Int)) (o2)) pe))) (tc ((awp_abs (fun (x1 : ref09_Int) => ⟨32,[(1,.er (c_farkas_row a1)),(10,vb (decide ((ref09_Int_Cmp.fn x1 (ref09_Of.fn (268435456:Int))) > (0:Int))))],[]⟩) (ref09_Int_Abs.fn a1) ?_))))))))
  intro x1 hx1
  replace h := h x1 hx1
  refine awp_abs (fun (x2 : ref09_Int) => ⟨32,[(1,.er (c_farkas_row a1)),(10,vb (decide ((ref09_Int_Cmp.fn x1 x2) > (0:Int))))],[]⟩) (ref09_Of.fn (268435456:Int)) ?_
  intro x2 hx2
  replace h := h x2 hx2
  refine awp_abs (fun (x3:Int) => ⟨32,[(1,.er (c_farkas_row a1)),(10,vb (decide (x3 > (0:Int))))],[]⟩) (ref09_Int_Cmp.fn x1 x2) ?_
  intro x3 hx3
  replace h := h x3 hx3
  refine awp_cond (b := decide (x3 > (0:Int))) (by kernel_rfl) (fun hb => ?_) (fun hb => ?_)
  · replace h := h.1 (of_decide_eq_true hb)
    refine awp_spine (rc [2,3] [] [] [] ⟨32,[(2,vi 0),(3,vb false)],[]⟩ (pe) (tc ((awp_ret (tr (tr (tr (?_))))))))
    exact re hk (.tup [vi ((0,false).1),vb ((0,false).2)]) [.keep [2,3]] ⟨32,[(2,vi 0),(3,vb false)],[]⟩ ⟨(0,false),rfl,rfl,h⟩
  · replace h := h.2 (of_decide_eq_false hb)
    obtain ⟨o3,h⟩ := h
    refine awp_skip (tc ((awp_spine (rc [1,4] [] [] [] ⟨32,[(1,.er (c_farkas_row a1)),(4,vi 0)],[]⟩ (pe) (tc ((awp_spine (rc [1,4,5] [] [] [] ⟨32,[(1,.er (c_farkas_row a1)),(4,vi 0),(5,vi ((a1.2.length:Int) - (1:Int)))],[]⟩ (pn o3 pe) (tc ((awp_abs (fun (x4:Int) => ⟨32,[(1,.er (c_farkas_row a1)),(4,vi 0),(5,vi x4)],[]⟩) ((a1.2.length:Int) - (1:Int)) ?_)))))))))))
    intro x4 hx4
    replace h := h x4 hx4
    refine awp_len 1 [1] (T := tI) (l := a1.2) (by kernel_rfl) fun hl => ?_
    replace h := h hl
    obtain ⟨I11,⟨n11a,hz11⟩,hI11⟩ := h
    refine awp_block (awp_loopN (fun n s => ∃ (x7:Int) (x8:Int),I11 n x7 x8 ∧ s = ⟨32,[(1,.er (c_farkas_row a1)),(4,vi x7),(5,vi x8)],[]⟩) (n := n11a) (s0 := ⟨32,[(1,.er (c_farkas_row a1)),(4,vi 0),(5,vi x4)],[]⟩) (wk_ghosts hk (l := [.keep [1,4,5]]) (by kernel_rfl)) ⟨0,x4,hz11,rfl⟩ ?_)
    rintro n11 s ⟨x7,x8,hx11,rfl⟩
    have h := hI11 n11 x7 x8 hx11
    refine awp_spine (rc [1,4,5,16] [] [] [] ⟨32,[(1,.er (c_farkas_row a1)),(4,vi x7),(5,vi x8),(16,vb (decide (x8 ≥ (0:Int))))],[]⟩ (pe) (tc ((awp_cond (b := decide (x8 ≥ (0:Int))) (by kernel_rfl) (fun hb => ?_) (fun hb => ?_)))))
    · replace h := h.1 (of_decide_eq_true hb)
      obtain ⟨o4,o5,h⟩ := h
      refine awp_skip (tc ((awp_spine (awp_block (rc [1,4,5] [] [] [] ⟨32,[(1,.er (c_farkas_row a1)),(4,vi (IntKind.wrap .i64 ((BitVec.ofInt 64 (IntKind.wrap .i64 (x7 * 2 ^ (min (Int.toNat (16:Int)) 64))) ||| BitVec.ofInt 64 (gI a1.2 x8)).toNat:Int))),(5,vi x8)],[]⟩ (pn o4 (pn o5 pe)) (blk_n (tc ((awp_abs (fun (x12:Int) => ⟨32,[(1,.er (c_farkas_row a1)),(4,vi x12),(5,vi x8)],[]⟩) (IntKind.wrap .i64 ((BitVec.ofInt 64 (IntKind.wrap .i64 (x7 * 2 ^ (min (Int.toNat (16:Int)) 64))) ||| BitVec.ofInt 64 (gI a1.2 x8)).toNat:Int)) ?_)))))))))
      intro x12 hx12
      replace h := h x12 hx12
      obtain ⟨o6,h⟩ := h
      refine rc [1,4,5] [] [] [] ⟨32,[(1,.er (c_farkas_row a1)),(4,vi x12),(5,vi (x8 - (1:Int)))],[]⟩ (pn o6 pe) (te ((te ((then_n (?_))))))
      obtain ⟨m,hm,h⟩ := h
      exact ⟨m,hm,⟨32,[(1,.er (c_farkas_row a1)),(4,vi x12),(5,vi (x8 - (1:Int)))],[]⟩,wk_ghosts hk (l := [.keep [1,4,5]]) (by kernel_rfl),x12,x8 - (1:Int),h,rfl⟩
    · replace h := h.2 (of_decide_eq_false hb)
      refine awp_exit (then_x (then_x (blk_h (tc ((awp_spine (rc [4,28] [] [] [] ⟨32,[(4,vi x7),(28,vb a1.1)],[]⟩ (pe) (tc ((awp_cond (b := a1.1) (by kernel_rfl) (fun hb => ?_) (fun hb => ?_)))))))))))
      · replace h := h.1 (hb)
        obtain ⟨o7,h⟩ := h
        refine rc [4] [] [] [] ⟨32,[(4,vi (-x7))],[]⟩ (pn o7 pe) (tc ((awp_spine (rc [2,3] [] [] [] ⟨32,[(2,vi (-x7)),(3,vb true)],[]⟩ (pe) (tc ((awp_ret (tr (tr (tr (tr (tr (tr (?_))))))))))))))
        exact re hk (.tup [vi ((-x7,true).1),vb ((-x7,true).2)]) [.keep [2,3]] ⟨32,[(2,vi (-x7)),(3,vb true)],[]⟩ ⟨(-x7,true),rfl,rfl,h⟩
      · replace h := h.2 (hb)
        refine awp_skip (tc ((awp_spine (rc [2,3] [] [] [] ⟨32,[(2,vi x7),(3,vb true)],[]⟩ (pe) (tc ((awp_ret (tr (tr (tr (tr (tr (tr (?_))))))))))))))
        exact re hk (.tup [vi ((x7,true).1),vb ((x7,true).2)]) [.keep [2,3]] ⟨32,[(2,vi x7),(3,vb true)],[]⟩ ⟨(x7,true),rfl,rfl,h⟩
theorem ok_ref09_Int_Small (a1 : ref09_Int) (h : ref09_Int_Small.pre a1) : OkC prog 39 [.agg (c_farkas_row a1)] (.tup [vi ((ref09_Int_Small.fn a1).1),vb ((ref09_Int_Small.fn a1).2)]) :=
  OkC.of call_ref09_Int_Small ((walk_ref09_Int_Small a1 _ (ref09_Int_Small.spec a1 h)).mono fun r o ⟨x,hr,ho,hx⟩ => ⟨by rw [hr,hx],ho⟩) rfl rfl (fun _ => rfl)

noncomputable abbrev b70 : Code := bodyOf Try.f70
theorem call_ref01_Fits : CallOk prog 70 := ⟨_,Try.func70,by kernel_rfl,by kernel_rfl⟩
theorem walk_ref01_Fits (a1:Int) (Q : Bool → Prop) (h : ref01_Fits.wp a1 Q) : VCalls prog 70 [vi a1] [] (fun r o => ∃ x,r = vb x ∧ o = [] ∧ Q x) := by
  refine body Try.func70 (spine (subC [0] b70) [(spine (subC [1,0] b70) [.ret])]) fun cx hd hi hk => ?_
  show AWp prog cx _ _ ⟨9,[(0,vi a1)],[]⟩
  replace hk : cx.E.len = 0 := hk
  unfold ref01_Fits.wp at h
  refine awp_spine (rc [0] [] [] [] ⟨9,[(0,vi a1)],[]⟩ (pe) (tc ((awp_spine (rc [2] [] [] [] ⟨9,[(2,vb ((decide (a1 ≥ (-1048576))) && (decide (a1 ≤ (1048576:Int)))))],[]⟩ (pn (fun hg => ⟨hg,trivial⟩ : (decide (a1 ≥ (-1048576))) = true → (decide (a1 ≥ (-1048576))) = true ∧ True) (pn (fun hc => hc : (decide (a1 ≥ (-1048576))) = true → (decide (a1 ≥ (-1048576))) = true) pe)) (tc ((awp_ret (tr (tr (?_)))))))))))
  exact re hk (vb ((decide (a1 ≥ (-1048576))) && (decide (a1 ≤ (1048576:Int))))) [.keep [2]] ⟨9,[(2,vb ((decide (a1 ≥ (-1048576))) && (decide (a1 ≤ (1048576:Int)))))],[]⟩ ⟨(decide (a1 ≥ (-1048576))) && (decide (a1 ≤ (1048576:Int))),rfl,rfl,h⟩
theorem ok_ref01_Fits (a1:Int) : OkC prog 70 [vi a1] (vb (ref01_Fits.fn a1)) :=
  OkC.of call_ref01_Fits ((walk_ref01_Fits a1 _ (ref01_Fits.spec a1)).mono fun r o ⟨x,hr,ho,hx⟩ => ⟨by rw [hr,hx],ho⟩) rfl rfl (fun _ => rfl)

noncomputable abbrev b41 : Code := bodyOf Try.f41
theorem call_ref02_Valid : CallOk prog 41 := ⟨_,Try.func41,by kernel_rfl,by kernel_rfl⟩
theorem walk_ref02_Valid (a1 : api_Lin) (Q : Bool → Prop) (h : ref02_Valid.wp a1 Q) : VCalls prog 41 [.agg (c_api_Lin a1)] [] (fun r o => ∃ x,r = vb x ∧ o = [] ∧ Q x) := by
  refine body Try.func41 (spine (subC [0] b41) [(spine (subC [1,0,0] b41) [(.block 0 (.loop (spine (subC [1,0,1,0,0,0] b41) [(spine (.cond (.tmp 9) .skip (.exit 0)) [(spine (.block 1 (spine (subC [1,0,1,0,0,1,1,0,0,0] b41) [(spine (subC [1,0,1,0,0,1,1,0,0,1,0] b41) [(.cond (.tmp 14) (spine (subC [1,0,1,0,0,1,1,0,0,1,1,0,0] b41) [.ret]) .skip)])])) [(subC [1,0,1,0,0,1,1,1] b41)])])]))),(spine (subC [1,1,0] b41) [.ret])])]) fun cx hd hi hk => ?_
  show AWp prog cx _ _ ⟨25,[(0,.agg (c_api_Lin a1))],[]⟩
  replace hk : cx.E.len = 0 := hk
  unfold ref02_Valid.wp at h
  refine awp_spine (rc [1] [] [] [0] ⟨25,[(1,.er (c_api_Lin a1))],[]⟩ (pe) (tc ((awp_spine (rc [1,6,7,8] [] [] [] ⟨25,[(1,.er (c_api_Lin a1)),(6,vs a1.1),(7,vi (a1.1.length:Int)),(8,vi 0)],[]⟩ (pe) (tc ((awp_len 1 [0] (T := tI) (l := a1.1) (by kernel_rfl) fun hl => ?_))))))))
  replace h := h hl
  obtain ⟨I4,⟨n4a,hz4⟩,hI4⟩ := h
  refine awp_block (awp_loopN (fun n s => ∃ (x2:Int),I4 n x2 ∧ s = ⟨25,[(1,.er (c_api_Lin a1)),(6,vs a1.1),(7,vi (a1.1.length:Int)),(8,vi x2)],[]⟩) (n := n4a) (s0 := ⟨25,[(1,.er (c_api_Lin a1)),(6,vs a1.1),(7,vi (a1.1.length:Int)),(8,vi 0)],[]⟩) (wk_ghosts hk (l := [.keep [1,6,7,8]]) (by kernel_rfl)) ⟨0,hz4,rfl⟩ ?_)
  rintro n4 s ⟨x2,hx4,rfl⟩
  have h := hI4 n4 x2 hx4
  refine awp_spine (rc [1,6,7,8,9] [] [] [] ⟨25,[(1,.er (c_api_Lin a1)),(6,vs a1.1),(7,vi (a1.1.length:Int)),(8,vi x2),(9,vb (decide (x2 < (a1.1.length:Int))))],[]⟩ (pe) (tc ((awp_spine (awp_cond (b := decide (x2 < (a1.1.length:Int))) (by kernel_rfl) (fun hb => ?_) (fun hb => ?_))))))
  · replace h := h.1 (of_decide_eq_true hb)
    obtain ⟨o1,h⟩ := h
    refine awp_skip (tc ((awp_spine (awp_block (awp_spine (rc [1,4,6,7,8] [] [] [] ⟨25,[(1,.er (c_api_Lin a1)),(4,vi (gI a1.1 x2)),(6,vs a1.1),(7,vi (a1.1.length:Int)),(8,vi x2)],[]⟩ (pn o1 pe) (tc ((awp_spine (rc [1,6,7,8,14] [] [(1,.dat (vb (ref01_Fits.fn (gI a1.1 x2))))] [] ⟨25,[(1,.er (c_api_Lin a1)),(6,vs a1.1),(7,vi (a1.1.length:Int)),(8,vi x2),(14,vb (!(ref01_Fits.fn (gI a1.1 x2))))],[]⟩ (pn (ok_ref01_Fits (gI a1.1 x2)) pe) (tc ((awp_cond (b := !(ref01_Fits.fn (gI a1.1 x2))) (by kernel_rfl) (fun hb => ?_) (fun hb => ?_))))))))))))))
    · replace h := h.1 ((nt hb))
      refine awp_spine (rc [2] [] [] [] ⟨25,[(2,vb false)],[]⟩ (pe) (tc ((awp_ret (tr (tr (tr (blk_r (tr (tr (tr (tr (blk_r (tr (tr (?_))))))))))))))))
      exact re hk (vb false) [.keep [2]] ⟨25,[(2,vb false)],[]⟩ ⟨false,rfl,rfl,h⟩
    · replace h := h.2 ((nf hb))
      obtain ⟨o2,h⟩ := h
      refine awp_skip (te ((te ((blk_n (tc ((rc [1,6,7,8] [] [] [] ⟨25,[(1,.er (c_api_Lin a1)),(6,vs a1.1),(7,vi (a1.1.length:Int)),(8,vi (x2 + (1:Int)))],[]⟩ (pn o2 pe) (te ((te ((te ((then_n (?_))))))))))))))))
      obtain ⟨m,hm,h⟩ := h
      exact ⟨m,hm,⟨25,[(1,.er (c_api_Lin a1)),(6,vs a1.1),(7,vi (a1.1.length:Int)),(8,vi (x2 + (1:Int)))],[]⟩,wk_ghosts hk (l := [.keep [1,6,7,8]]) (by kernel_rfl),x2 + (1:Int),h,rfl⟩
  · replace h := h.2 (of_decide_eq_false hb)
    refine awp_exit (then_x (then_x (then_x (blk_h (tc ((awp_spine (rc [2] [] [(7,.dat (vb (ref01_Fits.fn a1.2)))] [] ⟨25,[(2,vb ((decide ((a1.1.length:Int) ≤ (12:Int))) && (ref01_Fits.fn a1.2)))],[]⟩ (pn (fun hg => ⟨hg,trivial⟩ : (decide ((a1.1.length:Int) ≤ (12:Int))) = true → (decide ((a1.1.length:Int) ≤ (12:Int))) = true ∧ True) (pn (fun hg => ⟨hg,ok_ref01_Fits a1.2⟩ : (decide ((a1.1.length:Int) ≤ (12:Int))) = true → (decide ((a1.1.length:Int) ≤ (12:Int))) = true ∧ (OkC prog 70 [vi a1.2] (vb (ref01_Fits.fn a1.2)))) (pn (fun hc => hc : (decide ((a1.1.length:Int) ≤ (12:Int))) = true → (decide ((a1.1.length:Int) ≤ (12:Int))) = true) pe))) (tc ((awp_ret (tr (tr (tr (?_)))))))))))))))
    exact re hk (vb ((decide ((a1.1.length:Int) ≤ (12:Int))) && (ref01_Fits.fn a1.2))) [.keep [2]] ⟨25,[(2,vb ((decide ((a1.1.length:Int) ≤ (12:Int))) && (ref01_Fits.fn a1.2)))],[]⟩ ⟨(decide ((a1.1.length:Int) ≤ (12:Int))) && (ref01_Fits.fn a1.2),rfl,rfl,h⟩
theorem ok_ref02_Valid (a1 : api_Lin) : OkC prog 41 [.agg (c_api_Lin a1)] (vb (ref02_Valid.fn a1)) :=
  OkC.of call_ref02_Valid ((walk_ref02_Valid a1 _ (ref02_Valid.spec a1)).mono fun r o ⟨x,hr,ho,hx⟩ => ⟨by rw [hr,hx],ho⟩) rfl rfl (fun _ => rfl)

noncomputable abbrev b16 : Code := bodyOf Try.f16
theorem call_ref03_Valid : CallOk prog 16 := ⟨_,Try.func16,by kernel_rfl,by kernel_rfl⟩
theorem walk_ref03_Valid (a1 : api_Cond) (Q : Bool → Prop) (h : ref03_Valid.wp a1 Q) : VCalls prog 16 [.agg (c_api_Cond a1)] [] (fun r o => ∃ x,r = vb x ∧ o = [] ∧ Q x) := by
  refine body Try.func16 (spine (subC [0] b16) [(spine (subC [1,0,0] b16) [(.cond (.tmp 6) (spine (subC [1,0,1,0,0] b16) [.ret]) .skip),(spine (subC [1,1,0,0] b16) [(.cond (.tmp 9) (spine (subC [1,1,0,1,0,0] b16) [.ret]) .skip),(spine (subC [1,1,1,0] b16) [.ret])])])]) fun cx hd hi hk => ?_
  show AWp prog cx _ _ ⟨31,[(0,.agg (c_api_Cond a1))],[]⟩
  replace hk : cx.E.len = 0 := hk
  unfold ref03_Valid.wp at h
  refine awp_spine (rc [1] [] [] [0] ⟨31,[(1,.er (c_api_Cond a1))],[]⟩ (pe) (tc ((awp_spine (rc [1,6] [] [(2,.dat (vb (ref02_Valid.fn a1.2.2)))] [] ⟨31,[(1,.er (c_api_Cond a1)),(6,vb (!(ref02_Valid.fn a1.2.2)))],[]⟩ (pn (ok_ref02_Valid a1.2.2) pe) (tc ((awp_cond (b := !(ref02_Valid.fn a1.2.2)) (by kernel_rfl) (fun hb => ?_) (fun hb => ?_)))))))))
  · replace h := h.1 ((nt hb))
    refine awp_spine (rc [2] [] [] [] ⟨31,[(2,vb false)],[]⟩ (pe) (tc ((awp_ret (tr (tr (tr (?_))))))))
    exact re hk (vb false) [.keep [2]] ⟨31,[(2,vb false)],[]⟩ ⟨false,rfl,rfl,h⟩
  · replace h := h.2 ((nf hb))
    refine awp_skip (tc ((awp_spine (rc [1,9] [] [] [] ⟨31,[(1,.er (c_api_Cond a1)),(9,vb (a1.1 == (2:Int)))],[]⟩ (pe) (tc ((awp_cond (b := a1.1 == (2:Int)) (by kernel_rfl) (fun hb => ?_) (fun hb => ?_))))))))
    · replace h := h.1 (eq_of_beq hb)
      refine awp_spine (rc [2] [] [] [] ⟨31,[(2,vb ((decide (a1.2.1 ≥ (1:Int))) && (decide (a1.2.1 ≤ (512:Int)))))],[]⟩ (pn (fun hg => ⟨hg,trivial⟩ : (decide (a1.2.1 ≥ (1:Int))) = true → (decide (a1.2.1 ≥ (1:Int))) = true ∧ True) (pn (fun hg => ⟨hg,trivial⟩ : (decide (a1.2.1 ≥ (1:Int))) = true → (decide (a1.2.1 ≥ (1:Int))) = true ∧ True) (pn (fun hc => hc : (decide (a1.2.1 ≥ (1:Int))) = true → (decide (a1.2.1 ≥ (1:Int))) = true) pe))) (tc ((awp_ret (tr (tr (tr (tr (?_)))))))))
      exact re hk (vb ((decide (a1.2.1 ≥ (1:Int))) && (decide (a1.2.1 ≤ (512:Int))))) [.keep [2]] ⟨31,[(2,vb ((decide (a1.2.1 ≥ (1:Int))) && (decide (a1.2.1 ≤ (512:Int)))))],[]⟩ ⟨(decide (a1.2.1 ≥ (1:Int))) && (decide (a1.2.1 ≤ (512:Int))),rfl,rfl,h⟩
    · replace h := h.2 (ne_of_beq_false hb)
      refine awp_skip (tc ((awp_spine (rc [2] [] [] [] ⟨31,[(2,vb (((a1.1 == (0:Int)) || (a1.1 == (1:Int))) && (a1.2.1 == (0:Int))))],[]⟩ (pn (fun hg => ⟨hg,trivial⟩ : (!(a1.1 == (0:Int))) = true → (!(a1.1 == (0:Int))) = true ∧ True) (pn (fun hg => ⟨hg,trivial⟩ : (!(a1.1 == (0:Int))) = true → (!(a1.1 == (0:Int))) = true ∧ True) (pn (fun hc => not_f hc : (a1.1 == (0:Int)) = false → (!(a1.1 == (0:Int))) = true) (pn (fun hg => ⟨hg,trivial⟩ : ((a1.1 == (0:Int)) || (a1.1 == (1:Int))) = true → ((a1.1 == (0:Int)) || (a1.1 == (1:Int))) = true ∧ True) (pn (fun hg => ⟨hg,trivial⟩ : ((a1.1 == (0:Int)) || (a1.1 == (1:Int))) = true → ((a1.1 == (0:Int)) || (a1.1 == (1:Int))) = true ∧ True) (pn (fun hc => hc : ((a1.1 == (0:Int)) || (a1.1 == (1:Int))) = true → ((a1.1 == (0:Int)) || (a1.1 == (1:Int))) = true) pe)))))) (tc ((awp_ret (tr (tr (tr (tr (?_))))))))))))
      exact re hk (vb (((a1.1 == (0:Int)) || (a1.1 == (1:Int))) && (a1.2.1 == (0:Int)))) [.keep [2]] ⟨31,[(2,vb (((a1.1 == (0:Int)) || (a1.1 == (1:Int))) && (a1.2.1 == (0:Int))))],[]⟩ ⟨((a1.1 == (0:Int)) || (a1.1 == (1:Int))) && (a1.2.1 == (0:Int)),rfl,rfl,h⟩
theorem ok_ref03_Valid (a1 : api_Cond) : OkC prog 16 [.agg (c_api_Cond a1)] (vb (ref03_Valid.fn a1)) :=
  OkC.of call_ref03_Valid ((walk_ref03_Valid a1 _ (ref03_Valid.spec a1)).mono fun r o ⟨x,hr,ho,hx⟩ => ⟨by rw [hr,hx],ho⟩) rfl rfl (fun _ => rfl)

noncomputable abbrev b28 : Code := bodyOf Try.f28
theorem call_ref09_asked : CallOk prog 28 := ⟨_,Try.func28,by kernel_rfl,by kernel_rfl⟩
theorem walk_ref09_asked (a1 : (List api_Cond)) (a2:Int) (Q : Int → Prop) (h : ref09_asked.wp a1 a2 Q) : VCalls prog 28 [.d (.sl t_api_Cond) a1,vi a2] [] (fun r o => ∃ x,r = vi x ∧ o = [] ∧ Q x) := by
  refine body Try.func28 (spine (subC [0] b28) [(spine (subC [1,0,0] b28) [(.cond (.tmp 13) (spine (subC [1,0,1,0,0] b28) [.ret]) .skip),(spine (subC [1,1,0,0] b28) [(.cond (.tmp 16) (spine (subC [1,1,0,1,0,0] b28) [.ret]) .skip),(spine (subC [1,1,1,0] b28) [(spine (subC [1,1,1,1,0,0] b28) [(.block 0 (.loop (spine (subC [1,1,1,1,0,1,0,0,0] b28) [(spine (.cond (.tmp 20) .skip (.exit 0)) [(spine (.block 1 (spine (subC [1,1,1,1,0,1,0,0,1,1,0,0,0] b28) [(spine (subC [1,1,1,1,0,1,0,0,1,1,0,0,1,0,0] b28) [(.cond (.tmp 25) (spine (subC [1,1,1,1,0,1,0,0,1,1,0,0,1,0,1,0,0] b28) [.ret]) .skip),(spine (subC [1,1,1,1,0,1,0,0,1,1,0,0,1,1,0] b28) [(.cond (.tmp 31) (subC [1,1,1,1,0,1,0,0,1,1,0,0,1,1,1,0] b28) .skip)])])])) [(subC [1,1,1,1,0,1,0,0,1,1,1] b28)])])]))),(spine (subC [1,1,1,1,1,0] b28) [.ret])])])])])]) fun cx hd hi hk => ?_
  show AWp prog cx _ _ ⟨34,[(0,.d (.sl t_api_Cond) a1),(1,vi a2)],[]⟩
  replace hk : cx.E.len = 0 := hk
  unfold ref09_asked.wp at h
  refine awp_spine (rc [0,1] [] [] [] ⟨34,[(0,.d (.sl t_api_Cond) a1),(1,vi a2)],[]⟩ (pe) (tc ((awp_spine (rc [0,1,13] [] [] [] ⟨34,[(0,.d (.sl t_api_Cond) a1),(1,vi a2),(13,vb ((decide (a2 < (0:Int))) || (decide (a2 > (12:Int)))))],[]⟩ (pn (fun hg => ⟨hg,trivial⟩ : (!(decide (a2 < (0:Int)))) = true → (!(decide (a2 < (0:Int)))) = true ∧ True) (pn (fun hc => not_f hc : (decide (a2 < (0:Int))) = false → (!(decide (a2 < (0:Int)))) = true) pe)) (tc ((awp_cond (b := (decide (a2 < (0:Int))) || (decide (a2 > (12:Int)))) (by kernel_rfl) (fun hb => ?_) (fun hb => ?_)))))))))
  · replace h := h.1 (hb)
    refine awp_spine (rc [4] [] [] [] ⟨34,[(4,vi (6:Int))],[]⟩ (pe) (tc ((awp_ret (tr (tr (tr (?_))))))))
    exact re hk (vi (6:Int)) [.keep [4]] ⟨34,[(4,vi (6:Int))],[]⟩ ⟨6,rfl,rfl,h⟩
  · replace h := h.2 (hb)
    refine awp_skip (tc ((awp_spine (rc [0,1,16] [] [] [] ⟨34,[(0,.d (.sl t_api_Cond) a1),(1,vi a2),(16,vb (decide ((a1.length:Int) > (96:Int))))],[]⟩ (pe) (tc ((awp_len 0 [] (T := t_api_Cond) (l := a1) (by kernel_rfl) fun hl => ?_)))))))
    replace h := h hl
    refine awp_cond (b := decide ((a1.length:Int) > (96:Int))) (by kernel_rfl) (fun hb => ?_) (fun hb => ?_)
    · replace h := h.1 (of_decide_eq_true hb)
      refine awp_spine (rc [4] [] [] [] ⟨34,[(4,vi (3:Int))],[]⟩ (pe) (tc ((awp_ret (tr (tr (tr (tr (?_)))))))))
      exact re hk (vi (3:Int)) [.keep [4]] ⟨34,[(4,vi (3:Int))],[]⟩ ⟨3,rfl,rfl,h⟩
    · replace h := h.2 (of_decide_eq_false hb)
      refine awp_skip (tc ((awp_spine (rc [0,1,5] [] [] [] ⟨34,[(0,.d (.sl t_api_Cond) a1),(1,vi a2),(5,vi 0)],[]⟩ (pe) (tc ((awp_spine (rc [1,5,17,18,19] [] [] [] ⟨34,[(1,vi a2),(5,vi 0),(17,.d (.sl t_api_Cond) a1),(18,vi (a1.length:Int)),(19,vi 0)],[]⟩ (pe) (tc ((awp_len 17 [] (T := t_api_Cond) (l := a1) (by kernel_rfl) fun hl => ?_)))))))))))
      replace h := h hl
      obtain ⟨I7,⟨n7a,hz7⟩,hI7⟩ := h
      refine awp_block (awp_loopN (fun n s => ∃ (x3:Int) (x4:Int),I7 n x3 x4 ∧ s = ⟨34,[(1,vi a2),(5,vi x3),(17,.d (.sl t_api_Cond) a1),(18,vi (a1.length:Int)),(19,vi x4)],[]⟩) (n := n7a) (s0 := ⟨34,[(1,vi a2),(5,vi 0),(17,.d (.sl t_api_Cond) a1),(18,vi (a1.length:Int)),(19,vi 0)],[]⟩) (wk_ghosts hk (l := [.keep [1,5,17,18,19]]) (by kernel_rfl)) ⟨0,0,hz7,rfl⟩ ?_)
      rintro n7 s ⟨x3,x4,hx7,rfl⟩
      have h := hI7 n7 x3 x4 hx7
      refine awp_spine (rc [1,5,17,18,19,20] [] [] [] ⟨34,[(1,vi a2),(5,vi x3),(17,.d (.sl t_api_Cond) a1),(18,vi (a1.length:Int)),(19,vi x4),(20,vb (decide (x4 < (a1.length:Int))))],[]⟩ (pe) (tc ((awp_spine (awp_cond (b := decide (x4 < (a1.length:Int))) (by kernel_rfl) (fun hb => ?_) (fun hb => ?_))))))
      · replace h := h.1 (of_decide_eq_true hb)
        obtain ⟨o1,h⟩ := h
        refine awp_skip (tc ((awp_spine (awp_block (awp_spine (rc [1,5,7,17,18,19] [] [] [] ⟨34,[(1,vi a2),(5,vi x3),(7,.ref 0 0 0),(17,.d (.sl t_api_Cond) a1),(18,vi (a1.length:Int)),(19,vi x4)],[.box (c_api_Cond (a1.getD (Int.toNat x4) d_api_Cond))]⟩ (pn o1 pe) (tc ((awp_abs (fun (x8 : api_Cond) => ⟨34,[(1,vi a2),(5,vi x3),(7,.ref 0 0 0),(17,.d (.sl t_api_Cond) a1),(18,vi (a1.length:Int)),(19,vi x4)],[.box (c_api_Cond x8)]⟩) (a1.getD (Int.toNat x4) d_api_Cond) ?_)))))))))
        intro x8 hx8
        replace h := h x8 hx8
        refine awp_spine (rc [1,5,7,17,18,19,25] [] [(1,.dat (vb (ref03_Valid.fn x8)))] [] ⟨34,[(1,vi a2),(5,vi x3),(7,.ref 0 0 0),(17,.d (.sl t_api_Cond) a1),(18,vi (a1.length:Int)),(19,vi x4),(25,vb (!(ref03_Valid.fn x8)))],[.box (c_api_Cond x8)]⟩ (pn (ok_ref03_Valid x8) pe) (tc ((awp_cond (b := !(ref03_Valid.fn x8)) (by kernel_rfl) (fun hb => ?_) (fun hb => ?_)))))
        · replace h := h.1 ((nt hb))
          refine awp_spine (rc [4] [] [] [] ⟨34,[(4,vi (1:Int))],[.box (c_api_Cond x8)]⟩ (pe) (tc ((awp_ret (tr (tr (tr (blk_r (tr (tr (tr (tr (blk_r (tr (tr (tr (tr (tr (?_)))))))))))))))))))
          exact re hk (vi (1:Int)) [.keep [4]] ⟨34,[(4,vi (1:Int))],[.box (c_api_Cond x8)]⟩ ⟨1,rfl,rfl,h⟩
        · replace h := h.2 ((nf hb))
          refine awp_skip (tc ((awp_spine (rc [1,5,17,18,19,31] [] [] [] ⟨34,[(1,vi a2),(5,vi x3),(17,.d (.sl t_api_Cond) a1),(18,vi (a1.length:Int)),(19,vi x4),(31,vb ((x8.2.2.1.length:Int) != a2))],[.box (c_api_Cond x8)]⟩ (pe) (tc ((awp_cond (b := (x8.2.2.1.length:Int) != a2) (by kernel_rfl) (fun hb => ?_) (fun hb => ?_))))))))
          · replace h := h.1 (bne_iff_ne.mp hb)
            obtain ⟨o2,h⟩ := h
            refine rc [1,5,17,18,19] [] [] [] ⟨34,[(1,vi a2),(5,vi (2:Int)),(17,.d (.sl t_api_Cond) a1),(18,vi (a1.length:Int)),(19,vi x4)],[.box (c_api_Cond x8)]⟩ (pe) (te ((te ((te ((blk_n (tc ((rc [1,5,17,18,19] [] [] [] ⟨34,[(1,vi a2),(5,vi (2:Int)),(17,.d (.sl t_api_Cond) a1),(18,vi (a1.length:Int)),(19,vi (x4 + (1:Int)))],[.box (c_api_Cond x8)]⟩ (pn o2 pe) (te ((te ((te ((then_n (?_))))))))))))))))))
            obtain ⟨m,hm,h⟩ := h
            exact ⟨m,hm,⟨34,[(1,vi a2),(5,vi (2:Int)),(17,.d (.sl t_api_Cond) a1),(18,vi (a1.length:Int)),(19,vi (x4 + (1:Int)))],[]⟩,wk_ghosts hk (l := [.keep [1,5,17,18,19],.cut 0,.keep [1,5,17,18,19]]) (by kernel_rfl),2,x4 + (1:Int),h,rfl⟩
          · replace h := h.2 (bne_f hb)
            obtain ⟨o3,h⟩ := h
            refine awp_skip (te ((te ((te ((blk_n (tc ((rc [1,5,17,18,19] [] [] [] ⟨34,[(1,vi a2),(5,vi x3),(17,.d (.sl t_api_Cond) a1),(18,vi (a1.length:Int)),(19,vi (x4 + (1:Int)))],[.box (c_api_Cond x8)]⟩ (pn o3 pe) (te ((te ((te ((then_n (?_))))))))))))))))))
            obtain ⟨m,hm,h⟩ := h
            exact ⟨m,hm,⟨34,[(1,vi a2),(5,vi x3),(17,.d (.sl t_api_Cond) a1),(18,vi (a1.length:Int)),(19,vi (x4 + (1:Int)))],[]⟩,wk_ghosts hk (l := [.keep [1,5,17,18,19],.cut 0,.keep [1,5,17,18,19]]) (by kernel_rfl),x3,x4 + (1:Int),h,rfl⟩
      · replace h := h.2 (of_decide_eq_false hb)
        refine awp_exit (then_x (then_x (then_x (blk_h (tc ((awp_spine (rc [4] [] [] [] ⟨34,[(4,vi x3)],[]⟩ (pe) (tc ((awp_ret (tr (tr (tr (tr (tr (tr (?_))))))))))))))))))
        exact re hk (vi x3) [.keep [4]] ⟨34,[(4,vi x3)],[]⟩ ⟨x3,rfl,rfl,h⟩
theorem ok_ref09_asked (a1 : (List api_Cond)) (a2:Int) : OkC prog 28 [.d (.sl t_api_Cond) a1,vi a2] (vi (ref09_asked.fn a1 a2)) :=
  OkC.of call_ref09_asked ((walk_ref09_asked a1 a2 _ (ref09_asked.spec a1 a2)).mono fun r o ⟨x,hr,ho,hx⟩ => ⟨by rw [hr,hx],ho⟩) rfl rfl (fun _ => rfl)

noncomputable abbrev b30 : Code := bodyOf Try.f30
theorem call_ref09_refuted : CallOk prog 30 := ⟨_,Try.func30,by kernel_rfl,by kernel_rfl⟩
theorem walk_ref09_refuted (a1 : (List ref09_Row)) (Q : (List Int) × Bool → Prop) (h : ref09_refuted.wp a1 Q) : VCalls prog 30 [.d (.sl t_ref09_Row) a1] [] (fun r o => ∃ x,r = .tup [vs x.1,vb x.2] ∧ o = [] ∧ Q x) := by
  refine body Try.func30 (spine (subC [0] b30) [(spine (subC [1,0,0] b30) [(.block 0 (.loop (spine (subC [1,0,1,0,0,0] b30) [(spine (.cond (.tmp 12) .skip (.exit 0)) [(spine (.block 1 (spine (subC [1,0,1,0,0,1,1,0,0,0] b30) [(spine (subC [1,0,1,0,0,1,1,0,0,1,0,0] b30) [(.cond (.tmp 18) (spine (subC [1,0,1,0,0,1,1,0,0,1,0,1,0,0] b30) [.ret]) .skip),(spine (subC [1,0,1,0,0,1,1,0,0,1,1,0] b30) [(.cond (.tmp 28) (spine (subC [1,0,1,0,0,1,1,0,0,1,1,1,0,0] b30) [(spine (subC [1,0,1,0,0,1,1,0,0,1,1,1,0,1,0,0] b30) [(.block 2 (.loop (spine (subC [1,0,1,0,0,1,1,0,0,1,1,1,0,1,0,1,0,0,0] b30) [(spine (.cond (.tmp 33) .skip (.exit 2)) [(spine (.block 3 (spine (subC [1,0,1,0,0,1,1,0,0,1,1,1,0,1,0,1,0,0,1,1,0,0,0] b30) [(subC [1,0,1,0,0,1,1,0,0,1,1,1,0,1,0,1,0,0,1,1,0,0,1] b30)])) [(subC [1,0,1,0,0,1,1,0,0,1,1,1,0,1,0,1,0,0,1,1,1] b30)])])]))),(spine (subC [1,0,1,0,0,1,1,0,0,1,1,1,0,1,1,0] b30) [.ret])])]) .skip)])])])) [(subC [1,0,1,0,0,1,1,1] b30)])])]))),(spine (subC [1,1,0] b30) [.ret])])]) fun cx hd hi hk => ?_
  show AWp prog cx _ _ ⟨44,[(0,.d (.sl t_ref09_Row) a1)],[]⟩
  replace hk : cx.E.len = 0 := hk
  unfold ref09_refuted.wp at h
  refine awp_spine (rc [0] [] [] [] ⟨44,[(0,.d (.sl t_ref09_Row) a1)],[]⟩ (pe) (tc ((awp_spine (rc [9,10,11] [] [] [] ⟨44,[(9,.d (.sl t_ref09_Row) a1),(10,vi (a1.length:Int)),(11,vi 0)],[]⟩ (pe) (tc ((awp_len 9 [] (T := t_ref09_Row) (l := a1) (by kernel_rfl) fun hl => ?_))))))))
  replace h := h hl
  obtain ⟨I4,⟨n4a,hz4⟩,hI4⟩ := h
  refine awp_block (awp_loopN (fun n s => ∃ (x2:Int),I4 n x2 ∧ s = ⟨44,[(9,.d (.sl t_ref09_Row) a1),(10,vi (a1.length:Int)),(11,vi x2)],[]⟩) (n := n4a) (s0 := ⟨44,[(9,.d (.sl t_ref09_Row) a1),(10,vi (a1.length:Int)),(11,vi 0)],[]⟩) (wk_ghosts hk (l := [.keep [9,10,11]]) (by kernel_rfl)) ⟨0,hz4,rfl⟩ ?_)
  rintro n4 s ⟨x2,hx4,rfl⟩
  have h := hI4 n4 x2 hx4
  refine awp_spine (rc [9,10,11,12] [] [] [] ⟨44,[(9,.d (.sl t_ref09_Row) a1),(10,vi (a1.length:Int)),(11,vi x2),(12,vb (decide (x2 < (a1.length:Int))))],[]⟩ (pe) (tc ((awp_spine (awp_cond (b := decide (x2 < (a1.length:Int))) (by kernel_rfl) (fun hb => ?_) (fun hb => ?_))))))
  · replace h := h.1 (of_decide_eq_true hb)
    obtain ⟨o1,h⟩ := h
    refine awp_skip (tc ((awp_spine (awp_block (awp_spine (rc [5,9,10,11] [] [] [] ⟨44,[(5,.ref 0 0 0),(9,.d (.sl t_ref09_Row) a1),(10,vi (a1.length:Int)),(11,vi x2)],[.box (c_ref09_Row (a1.getD (Int.toNat x2) d_ref09_Row))]⟩ (pn o1 pe) (tc ((awp_abs (fun (x5 : ref09_Row) => ⟨44,[(5,.ref 0 0 0),(9,.d (.sl t_ref09_Row) a1),(10,vi (a1.length:Int)),(11,vi x2)],[.box (c_ref09_Row x5)]⟩) (a1.getD (Int.toNat x2) d_ref09_Row) ?_)))))))))
    intro x5 hx5
    replace h := h x5 hx5
    refine awp_spine (rc [5,9,10,11,18] [] [] [] ⟨44,[(5,.ref 0 0 0),(9,.d (.sl t_ref09_Row) a1),(10,vi (a1.length:Int)),(11,vi x2),(18,vb (decide (x5.1.2 < (0:Int))))],[.box (c_ref09_Row x5)]⟩ (pe) (tc ((awp_cond (b := decide (x5.1.2 < (0:Int))) (by kernel_rfl) (fun hb => ?_) (fun hb => ?_)))))
    · replace h := h.1 (of_decide_eq_true hb)
      refine awp_spine (rc [2,3] [] [] [] ⟨44,[(2,vs x5.2.2),(3,vb true)],[.box (c_ref09_Row x5)]⟩ (pe) (tc ((awp_ret (tr (tr (tr (blk_r (tr (tr (tr (tr (blk_r (tr (tr (?_))))))))))))))))
      exact re hk (.tup [vs ((x5.2.2,true).1),vb ((x5.2.2,true).2)]) [.keep [2,3]] ⟨44,[(2,vs x5.2.2),(3,vb true)],[.box (c_ref09_Row x5)]⟩ ⟨(x5.2.2,true),rfl,rfl,h⟩
    · replace h := h.2 (of_decide_eq_false hb)
      refine awp_skip (tc ((awp_spine (rc [5,9,10,11,28] [] [] [] ⟨44,[(5,.ref 0 0 0),(9,.d (.sl t_ref09_Row) a1),(10,vi (a1.length:Int)),(11,vi x2),(28,vb (x5.2.1 && (decide (x5.1.2 > (0:Int)))))],[.box (c_ref09_Row x5)]⟩ (pn (fun hg => ⟨hg,trivial⟩ : x5.2.1 = true → x5.2.1 = true ∧ True) (pn (fun hg => ⟨hg,trivial⟩ : x5.2.1 = true → x5.2.1 = true ∧ True) (pn (fun hg => ⟨hg,trivial⟩ : x5.2.1 = true → x5.2.1 = true ∧ True) (pn (fun hc => hc : x5.2.1 = true → x5.2.1 = true) pe)))) (tc ((awp_cond (b := x5.2.1 && (decide (x5.1.2 > (0:Int)))) (by kernel_rfl) (fun hb => ?_) (fun hb => ?_))))))))
      · replace h := h.1 (hb)
        refine awp_spine (rc [5,6] [] [] [] ⟨44,[(5,.ref 0 0 0),(6,.nils)],[.box (c_ref09_Row x5)]⟩ (pe) (tc ((awp_spine (rc [6,30,31,32] [] [] [] ⟨44,[(6,.nils),(30,vs x5.2.2),(31,vi (x5.2.2.length:Int)),(32,vi 0)],[.box (c_ref09_Row x5)]⟩ (pe) (tc ((awp_len 30 [] (T := tI) (l := x5.2.2) (by kernel_rfl) fun hl => ?_))))))))
        replace h := h hl
        obtain ⟨I12,⟨n12a,hz12⟩,hI12⟩ := h
        refine awp_block (awp_loopN (fun n s => ∃ (x8:Int) (x9 : (List Int)),I12 n x8 x9 ∧ s = ⟨44,[(6,.osl 1 0),(30,vs x5.2.2),(31,vi (x5.2.2.length:Int)),(32,vi x8)],[.box (c_ref09_Row x5),.row tI x9 0]⟩) (n := n12a) (s0 := ⟨44,[(6,.osl 1 0),(30,vs x5.2.2),(31,vi (x5.2.2.length:Int)),(32,vi 0)],[.box (c_ref09_Row x5),.row tI ([] : List Int) 0]⟩) (wk_ghosts hk (l := [.keep [6,30,31,32],.adopt 6 tI,.keep [6,30,31,32]]) (by kernel_rfl)) ⟨0,([] : List Int),hz12,rfl⟩ ?_)
        rintro n12 s ⟨x8,x9,hx12,rfl⟩
        have h := hI12 n12 x8 x9 hx12
        refine awp_spine (rc [6,30,31,32,33] [] [] [] ⟨44,[(6,.osl 1 0),(30,vs x5.2.2),(31,vi (x5.2.2.length:Int)),(32,vi x8),(33,vb (decide (x8 < (x5.2.2.length:Int))))],[.box (c_ref09_Row x5),.row tI x9 0]⟩ (pe) (tc ((awp_spine (awp_cond (b := decide (x8 < (x5.2.2.length:Int))) (by kernel_rfl) (fun hb => ?_) (fun hb => ?_))))))
        · replace h := h.1 (of_decide_eq_true hb)
          obtain ⟨o2,h⟩ := h
          obtain ⟨o3,o4,h⟩ := h
          obtain ⟨o5,h⟩ := h
          refine awp_skip (tc ((awp_spine (awp_block (awp_spine (rc [6,8,30,31,32] [] [] [] ⟨44,[(6,.osl 1 0),(8,vi (gI x5.2.2 x8)),(30,vs x5.2.2),(31,vi (x5.2.2.length:Int)),(32,vi x8)],[.box (c_ref09_Row x5),.row tI x9 0]⟩ (pn o2 pe) (tc ((rc [6,30,31,32] [] [] [3] ⟨44,[(6,.osl 1 1),(30,vs x5.2.2),(31,vi (x5.2.2.length:Int)),(32,vi x8)],[.box (c_ref09_Row x5),.row tI (x9 ++ [-(gI x5.2.2 x8)]) 1]⟩ (pn o3 (pn (by decide : 1 * 1 ≤ 16777216) (pn o4 pe))) (te ((blk_n (tc ((rc [6,30,31,32] [] [] [] ⟨44,[(6,.osl 1 1),(30,vs x5.2.2),(31,vi (x5.2.2.length:Int)),(32,vi (x8 + (1:Int)))],[.box (c_ref09_Row x5),.row tI (x9 ++ [-(gI x5.2.2 x8)]) 1]⟩ (pn o5 pe) (te ((te ((te ((then_n (?_)))))))))))))))))))))))
          obtain ⟨m,hm,h⟩ := h
          exact ⟨m,hm,⟨44,[(6,.osl 1 0),(30,vs x5.2.2),(31,vi (x5.2.2.length:Int)),(32,vi (x8 + (1:Int)))],[.box (c_ref09_Row x5),.row tI (x9 ++ [-(gI x5.2.2 x8)]) 0]⟩,wk_ghosts hk (l := [.keep [6,30,31,32],.reset 1,.keep [6,30,31,32]]) (by kernel_rfl),x8 + (1:Int),x9 ++ [-(gI x5.2.2 x8)],h,rfl⟩
        · replace h := h.2 (of_decide_eq_false hb)
          refine awp_exit (then_x (then_x (then_x (blk_h (tc ((awp_spine (rc [2,3] [] [] [] ⟨44,[(2,.osl 1 0),(3,vb true)],[.box (c_ref09_Row x5),.row tI x9 0]⟩ (pe) (tc ((awp_ret (tr (tr (tr (tr (tr (tr (blk_r (tr (tr (tr (tr (blk_r (tr (tr (?_))))))))))))))))))))))))))
          exact re hk (.tup [vs ((x9,true).1),vb ((x9,true).2)]) [.keep [2,3],.freeze 1] ⟨44,[(2,vs x9),(3,vb true)],[.box (c_ref09_Row x5),.dead]⟩ ⟨(x9,true),rfl,rfl,h⟩
      · replace h := h.2 (hb)
        obtain ⟨o6,h⟩ := h
        refine awp_skip (te ((te ((te ((blk_n (tc ((rc [9,10,11] [] [] [] ⟨44,[(9,.d (.sl t_ref09_Row) a1),(10,vi (a1.length:Int)),(11,vi (x2 + (1:Int)))],[.box (c_ref09_Row x5)]⟩ (pn o6 pe) (te ((te ((te ((then_n (?_))))))))))))))))))
        obtain ⟨m,hm,h⟩ := h
        exact ⟨m,hm,⟨44,[(9,.d (.sl t_ref09_Row) a1),(10,vi (a1.length:Int)),(11,vi (x2 + (1:Int)))],[]⟩,wk_ghosts hk (l := [.keep [9,10,11],.cut 0,.keep [9,10,11]]) (by kernel_rfl),x2 + (1:Int),h,rfl⟩
  · replace h := h.2 (of_decide_eq_false hb)
    refine awp_exit (then_x (then_x (then_x (blk_h (tc ((awp_spine (rc [2,3] [] [] [] ⟨44,[(2,.nils),(3,vb false)],[]⟩ (pe) (tc ((awp_ret (tr (tr (tr (?_)))))))))))))))
    exact re hk (.tup [vs ((([] : List Int),false).1),vb ((([] : List Int),false).2)]) [.keep [2,3],.nilAt 2 [] tI,.keep [2,3]] ⟨44,[(2,vs ([] : List Int)),(3,vb false)],[]⟩ ⟨(([] : List Int),false),rfl,rfl,h⟩
theorem ok_ref09_refuted (a1 : (List ref09_Row)) (h : ref09_refuted.pre a1) : OkC prog 30 [.d (.sl t_ref09_Row) a1] (.tup [vs ((ref09_refuted.fn a1).1),vb ((ref09_refuted.fn a1).2)]) :=
  OkC.of call_ref09_refuted ((walk_ref09_refuted a1 _ (ref09_refuted.spec a1 h)).mono fun r o ⟨x,hr,ho,hx⟩ => ⟨by rw [hr,hx],ho⟩) rfl rfl (fun _ => rfl)

noncomputable abbrev b83 : Code := bodyOf Try.f83
theorem call_ref09_Row_numbers : CallOk prog 83 := ⟨_,Try.func83,by kernel_rfl,by kernel_rfl⟩
theorem walk_ref09_Row_numbers (a1 : ref09_Row) (Q : (List Int) → Prop) (h : ref09_Row_numbers.wp a1 Q) : VCalls prog 83 [.agg (c_ref09_Row a1)] [] (fun r o => ∃ x,r = vs x ∧ o = [] ∧ Q x) := by
  refine body Try.func83 (spine (subC [0] b83) [(spine (subC [1,0] b83) [.ret])]) fun cx hd hi hk => ?_
  show AWp prog cx _ _ ⟨16,[(0,.agg (c_ref09_Row a1))],[]⟩
  replace hk : cx.E.len = 0 := hk
  unfold ref09_Row_numbers.wp at h
  obtain ⟨o1,o2,o3,h⟩ := h
  refine awp_spine (rc [1] [] [] [0] ⟨16,[(1,.er (c_ref09_Row a1))],[]⟩ (pe) (tc ((awp_spine (dr hk [2] [] [] [8] ⟨[[],[],[1],[1,2],[0,1,2,3],[],[5],[5,6],[5,6,7],(lr 9),[],[10],(lr 12),(lr 13)],[.osl 0 0,.er (c_ref09_Row a1),.er (c_ref09_Row a1),vs a1.1.1,.osl 0 1,.er (c_ref09_Row a1),.er [vi a1.1.2,vb a1.2.1,vs a1.2.2],vi a1.1.2,vs [a1.1.2],.osl 0 2,.er [vs a1.2.2],vs a1.2.2,.osl 0 3,.osl 0 3],_,[0,4,9,12],[([],[]),([0],[.row tI ([] : List Int) 0]),([0,4],[.row tI (([] : List Int) ++ a1.1.1) 1]),([0,4,9],[.row tI ((([] : List Int) ++ a1.1.1) ++ [a1.1.2]) 2]),([0,4,9,12],[.row tI (((([] : List Int) ++ a1.1.1) ++ [a1.1.2]) ++ a1.2.2) 3])],[],[]⟩ ⟨16,[(2,.osl 0 3)],[.row tI (((([] : List Int) ++ a1.1.1) ++ [a1.1.2]) ++ a1.2.2) 3]⟩ (.s (by decide : 0 * 1 ≤ 16777216) (.n (.n (.n (.s o1 (.n (.n (.n (.s (by decide : 1 * 1 ≤ 16777216) (.s o2 (.n (.n (.s o3 (.n AllO.e)))))))))))))) (tc ((awp_abs (fun (x1 : (List Int)) => ⟨16,[(2,.osl 0 3)],[.row tI x1 3]⟩) (((([] : List Int) ++ a1.1.1) ++ [a1.1.2]) ++ a1.2.2) ?_))))))))
  intro x1 hx1
  replace h := h x1 hx1
  refine awp_ret (tr (tr (?_)))
  exact re hk (vs x1) [.keep [2],.freeze 0] ⟨16,[(2,vs x1)],[.dead]⟩ ⟨x1,rfl,rfl,h⟩
theorem ok_ref09_Row_numbers (a1 : ref09_Row) (h : ref09_Row_numbers.pre a1) : OkC prog 83 [.agg (c_ref09_Row a1)] (vs (ref09_Row_numbers.fn a1)) :=
  OkC.of call_ref09_Row_numbers ((walk_ref09_Row_numbers a1 _ (ref09_Row_numbers.spec a1 h)).mono fun r o ⟨x,hr,ho,hx⟩ => ⟨by rw [hr,hx],ho⟩) rfl rfl (fun _ => rfl)

noncomputable abbrev b102 : Code := bodyOf Try.f102
theorem call_ref01_size : CallOk prog 102 := ⟨_,Try.func102,by kernel_rfl,by kernel_rfl⟩
theorem walk_ref01_size (a1:Int) (Q : Int → Prop) (h : ref01_size.wp a1 Q) : VCalls prog 102 [vi a1] [] (fun r o => ∃ x,r = vu x ∧ o = [] ∧ Q x) := by
  refine body Try.func102 (spine (subC [0] b102) [(spine (subC [1,0,0] b102) [(.cond (.tmp 4) (spine (subC [1,0,1,0,0] b102) [.ret]) .skip),(spine (subC [1,1,0] b102) [.ret])])]) fun cx hd hi hk => ?_
  show AWp prog cx _ _ ⟨10,[(0,vi a1)],[]⟩
  replace hk : cx.E.len = 0 := hk
  unfold ref01_size.wp at h
  refine awp_spine (rc [0] [] [] [] ⟨10,[(0,vi a1)],[]⟩ (pe) (tc ((awp_spine (rc [0,4] [] [] [] ⟨10,[(0,vi a1),(4,vb (decide (a1 < (0:Int))))],[]⟩ (pe) (tc ((awp_cond (b := decide (a1 < (0:Int))) (by kernel_rfl) (fun hb => ?_) (fun hb => ?_)))))))))
  · replace h := h.1 (of_decide_eq_true hb)
    refine awp_spine (rc [2] [1,2] [] [] ⟨10,[(2,vu (IntKind.wrap .u64 (-(IntKind.wrap .u64 a1))))],[]⟩ (pe) (tc ((awp_abs (fun (x1:Int) => ⟨10,[(2,vu x1)],[]⟩) (IntKind.wrap .u64 (-(IntKind.wrap .u64 a1))) ?_))))
    intro x1 hx1
    replace h := h x1 hx1
    refine awp_ret (tr (tr (tr (?_))))
    exact re hk (vu x1) [.keep [2]] ⟨10,[(2,vu x1)],[]⟩ ⟨x1,rfl,rfl,h⟩
  · replace h := h.2 (of_decide_eq_false hb)
    refine awp_skip (tc ((awp_spine (rc [2] [1] [] [] ⟨10,[(2,vu (IntKind.wrap .u64 a1))],[]⟩ (pe) (tc ((awp_ret (tr (tr (tr (?_)))))))))))
    exact re hk (vu (IntKind.wrap .u64 a1)) [.keep [2]] ⟨10,[(2,vu (IntKind.wrap .u64 a1))],[]⟩ ⟨IntKind.wrap .u64 a1,rfl,rfl,h⟩
theorem ok_ref01_size (a1:Int) (h : ref01_size.pre a1) : OkC prog 102 [vi a1] (vu (ref01_size.fn a1)) :=
  OkC.of call_ref01_size ((walk_ref01_size a1 _ (ref01_size.spec a1 h)).mono fun r o ⟨x,hr,ho,hx⟩ => ⟨by rw [hr,hx],ho⟩) rfl rfl (fun _ => rfl)

noncomputable abbrev b98 : Code := bodyOf Try.f98
theorem call_ref01_Gcd : CallOk prog 98 := ⟨_,Try.func98,by kernel_rfl,by kernel_rfl⟩
theorem walk_ref01_Gcd (a1 : (List Int)) (Q : Int × Int → Prop) (h : ref01_Gcd.wp a1 Q) : VCalls prog 98 [vs a1] [] (fun r o => ∃ x,r = .tup [vi x.1,vi x.2] ∧ o = [] ∧ Q x) := by
  refine body Try.func98 (spine (subC [0] b98) [(spine (subC [1,0] b98) [(spine (subC [1,1,0,0] b98) [(.block 0 (.loop (spine (subC [1,1,0,1,0,0,0] b98) [(spine (.cond (.tmp 11) .skip (.exit 0)) [(spine (.block 1 (spine (subC [1,1,0,1,0,0,1,1,0,0,0] b98) [(spine (subC [1,1,0,1,0,0,1,1,0,0,1,0] b98) [(.block 2 (.loop (spine (subC [1,1,0,1,0,0,1,1,0,0,1,1,0,0,0,0] b98) [(.cond (.tmp 17) .skip (.exit 2)),(.block 3 (subC [1,1,0,1,0,0,1,1,0,0,1,1,0,0,1,0] b98))])))])])) [(subC [1,1,0,1,0,0,1,1,1] b98)])])]))),(spine (subC [1,1,1,0,0] b98) [(.cond (.tmp 24) (spine (subC [1,1,1,0,1,0,0] b98) [.ret]) .skip),(spine (subC [1,1,1,1,0] b98) [.ret])])])])]) fun cx hd hi hk => ?_
  show AWp prog cx _ _ ⟨27,[(0,vs a1)],[]⟩
  replace hk : cx.E.len = 0 := hk
  unfold ref01_Gcd.wp at h
  refine awp_spine (rc [0] [] [] [] ⟨27,[(0,vs a1)],[]⟩ (pe) (tc ((awp_spine (rc [0,4] [] [] [] ⟨27,[(0,vs a1),(4,vu (0:Int))],[]⟩ (pe) (tc ((awp_spine (rc [4,8,9,10] [] [] [] ⟨27,[(4,vu (0:Int)),(8,vs a1),(9,vi (a1.length:Int)),(10,vi 0)],[]⟩ (pe) (tc ((awp_len 8 [] (T := tI) (l := a1) (by kernel_rfl) fun hl => ?_))))))))))))
  replace h := h hl
  obtain ⟨I7,⟨n7a,hz7⟩,hI7⟩ := h
  refine awp_block (awp_loopN (fun n s => ∃ (x3:Int) (x4:Int),I7 n x3 x4 ∧ s = ⟨27,[(4,vu x3),(8,vs a1),(9,vi (a1.length:Int)),(10,vi x4)],[]⟩) (n := n7a) (s0 := ⟨27,[(4,vu (0:Int)),(8,vs a1),(9,vi (a1.length:Int)),(10,vi 0)],[]⟩) (wk_ghosts hk (l := [.keep [4,8,9,10]]) (by kernel_rfl)) ⟨0,0,hz7,rfl⟩ ?_)
  rintro n7 s ⟨x3,x4,hx7,rfl⟩
  have h := hI7 n7 x3 x4 hx7
  refine awp_spine (rc [4,8,9,10,11] [] [] [] ⟨27,[(4,vu x3),(8,vs a1),(9,vi (a1.length:Int)),(10,vi x4),(11,vb (decide (x4 < (a1.length:Int))))],[]⟩ (pe) (tc ((awp_spine (awp_cond (b := decide (x4 < (a1.length:Int))) (by kernel_rfl) (fun hb => ?_) (fun hb => ?_))))))
  · replace h := h.1 (of_decide_eq_true hb)
    obtain ⟨o1,h⟩ := h
    obtain ⟨o2,h⟩ := h
    refine awp_skip (tc ((awp_spine (awp_block (awp_spine (rc [4,6,8,9,10] [] [] [] ⟨27,[(4,vu x3),(6,vi (gI a1 x4)),(8,vs a1),(9,vi (a1.length:Int)),(10,vi x4)],[]⟩ (pn o1 pe) (tc ((awp_spine (rc [4,7,8,9,10] [] [(1,.dat (vu (ref01_size.fn (gI a1 x4))))] [] ⟨27,[(4,vu x3),(7,vu (ref01_size.fn (gI a1 x4))),(8,vs a1),(9,vi (a1.length:Int)),(10,vi x4)],[]⟩ (pn (ok_ref01_size (gI a1 x4) (o2)) pe) (tc ((awp_abs (fun (x8:Int) => ⟨27,[(4,vu x3),(7,vu x8),(8,vs a1),(9,vi (a1.length:Int)),(10,vi x4)],[]⟩) (ref01_size.fn (gI a1 x4)) ?_)))))))))))))
    intro x8 hx8
    replace h := h x8 hx8
    obtain ⟨I15,⟨n15a,hz15⟩,hI15⟩ := h
    refine awp_block (awp_loopN (fun n s => ∃ (x11:Int) (x12:Int),I15 n x11 x12 ∧ s = ⟨27,[(4,vu x11),(7,vu x12),(8,vs a1),(9,vi (a1.length:Int)),(10,vi x4)],[]⟩) (n := n15a) (s0 := ⟨27,[(4,vu x3),(7,vu x8),(8,vs a1),(9,vi (a1.length:Int)),(10,vi x4)],[]⟩) (wk_ghosts hk (l := [.keep [4,7,8,9,10]]) (by kernel_rfl)) ⟨x3,x8,hz15,rfl⟩ ?_)
    rintro n15 s ⟨x11,x12,hx15,rfl⟩
    have h := hI15 n15 x11 x12 hx15
    refine awp_spine (rc [4,7,8,9,10,17] [1] [] [] ⟨27,[(4,vu x11),(7,vu x12),(8,vs a1),(9,vi (a1.length:Int)),(10,vi x4),(17,vb (x12 != (0:Int)))],[]⟩ (pe) (tc ((awp_cond (b := x12 != (0:Int)) (by kernel_rfl) (fun hb => ?_) (fun hb => ?_)))))
    · replace h := h.1 (bne_iff_ne.mp hb)
      obtain ⟨o3,h⟩ := h
      refine awp_skip (tc ((awp_block (dr hk [4,7,8,9,10] [3] [] [] ⟨[[],[],[],[1,2],[0,1],(lr 5)],[vu x12,vu x11,vu x12,vu (Int.tmod x11 x12),vu x12,vu (Int.tmod x11 x12)],_,[],[([],[])],[],[]⟩ ⟨27,[(4,vu x12),(7,vu (Int.tmod x11 x12)),(8,vs a1),(9,vi (a1.length:Int)),(10,vi x4)],[]⟩ (.n (.n (.n (.s o3 (.n (.n AllO.e)))))) (blk_n (te ((then_n (?_)))))))))
      obtain ⟨m,hm,h⟩ := h
      exact ⟨m,hm,⟨27,[(4,vu x12),(7,vu (Int.tmod x11 x12)),(8,vs a1),(9,vi (a1.length:Int)),(10,vi x4)],[]⟩,wk_ghosts hk (l := [.keep [4,7,8,9,10]]) (by kernel_rfl),x12,Int.tmod x11 x12,h,rfl⟩
    · replace h := h.2 (bne_f hb)
      obtain ⟨o4,h⟩ := h
      refine awp_exit (then_x (then_x (blk_h (te ((te ((blk_n (tc ((rc [4,8,9,10] [] [] [] ⟨27,[(4,vu x11),(8,vs a1),(9,vi (a1.length:Int)),(10,vi (x4 + (1:Int)))],[]⟩ (pn o4 pe) (te ((te ((te ((then_n (?_)))))))))))))))))))
      obtain ⟨m,hm,h⟩ := h
      exact ⟨m,hm,⟨27,[(4,vu x11),(8,vs a1),(9,vi (a1.length:Int)),(10,vi (x4 + (1:Int)))],[]⟩,wk_ghosts hk (l := [.keep [4,8,9,10]]) (by kernel_rfl),x11,x4 + (1:Int),h,rfl⟩
  · replace h := h.2 (of_decide_eq_false hb)
    refine awp_exit (then_x (then_x (then_x (blk_h (tc ((awp_spine (rc [4,24] [1] [] [] ⟨27,[(4,vu x3),(24,vb (x3 == (9223372036854775808:Int)))],[]⟩ (pe) (tc ((awp_cond (b := x3 == (9223372036854775808:Int)) (by kernel_rfl) (fun hb => ?_) (fun hb => ?_))))))))))))
    · replace h := h.1 (eq_of_beq hb)
      refine awp_spine (rc [2,3] [] [] [] ⟨27,[(2,vi 0),(3,vi (3:Int))],[]⟩ (pe) (tc ((awp_ret (tr (tr (tr (tr (tr (?_))))))))))
      exact re hk (.tup [vi ((0,3).1),vi ((0,3).2)]) [.keep [2,3]] ⟨27,[(2,vi 0),(3,vi (3:Int))],[]⟩ ⟨(0,3),rfl,rfl,h⟩
    · replace h := h.2 (ne_of_beq_false hb)
      obtain ⟨o5,h⟩ := h
      refine awp_skip (tc ((awp_spine (rc [2,3] [] [] [] ⟨27,[(2,vi x3),(3,vi 0)],[]⟩ (pn o5 pe) (tc ((awp_ret (tr (tr (tr (tr (tr (?_)))))))))))))
      exact re hk (.tup [vi ((x3,0).1),vi ((x3,0).2)]) [.keep [2,3]] ⟨27,[(2,vi x3),(3,vi 0)],[]⟩ ⟨(x3,0),rfl,rfl,h⟩
theorem ok_ref01_Gcd (a1 : (List Int)) (h : ref01_Gcd.pre a1) : OkC prog 98 [vs a1] (.tup [vi ((ref01_Gcd.fn a1).1),vi ((ref01_Gcd.fn a1).2)]) :=
  OkC.of call_ref01_Gcd ((walk_ref01_Gcd a1 _ (ref01_Gcd.spec a1 h)).mono fun r o ⟨x,hr,ho,hx⟩ => ⟨by rw [hr,hx],ho⟩) rfl rfl (fun _ => rfl)

noncomputable abbrev b81 : Code := bodyOf Try.f81
theorem call_ref09_mix : CallOk prog 81 := ⟨_,Try.func81,by kernel_rfl,by kernel_rfl⟩
theorem walk_ref09_mix (a1:Int) (a2 : ref09_Row) (a3:Int) (a4 : ref09_Row) (Q : ref09_Row → Prop) (h : ref09_mix.wp a1 a2 a3 a4 Q) : VCalls prog 81 [vi a1,.agg (c_ref09_Row a2),vi a3,.agg (c_ref09_Row a4)] [] (fun r o => ∃ x,r = .agg (c_ref09_Row x) ∧ o = [] ∧ Q x) := by
  refine body Try.func81 (spine (subC [0] b81) [(spine (subC [1,0] b81) [(spine (subC [1,1,0] b81) [(spine (subC [1,1,1,0,0] b81) [(.block 0 (.loop (spine (subC [1,1,1,0,1,0,0,0] b81) [(spine (.cond (.tmp 27) .skip (.exit 0)) [(spine (.block 1 (spine (subC [1,1,1,0,1,0,0,1,1,0,0,0] b81) [(subC [1,1,1,0,1,0,0,1,1,0,0,1] b81)])) [(subC [1,1,1,0,1,0,0,1,1,1] b81)])])]))),(spine (subC [1,1,1,1,0,0] b81) [(spine (subC [1,1,1,1,0,1,0] b81) [(.cond (.tmp 52) (spine (subC [1,1,1,1,0,1,1,0,0] b81) [(.block 2 (.loop (spine (subC [1,1,1,1,0,1,1,0,1,0,0,0] b81) [(spine (.cond (.tmp 56) .skip (.exit 2)) [(spine (.block 3 (spine (subC [1,1,1,1,0,1,1,0,1,0,0,1,1,0,0,0] b81) [(subC [1,1,1,1,0,1,1,0,1,0,0,1,1,0,0,1] b81)])) [(subC [1,1,1,1,0,1,1,0,1,0,0,1,1,1] b81)])])])))]) .skip)]),(spine (subC [1,1,1,1,1,0] b81) [(spine (subC [1,1,1,1,1,1,0] b81) [.ret])])])])])])]) fun cx hd hi hk => ?_
  show AWp prog cx _ _ ⟨85,[(0,vi a1),(1,.agg (c_ref09_Row a2)),(2,vi a3),(3,.agg (c_ref09_Row a4))],[]⟩
  replace hk : cx.E.len = 0 := hk
  unfold ref09_mix.wp at h
  obtain ⟨o1,o2,h⟩ := h
  refine awp_spine (rc [0,2,5,7,8] [] [] [0,1] ⟨85,[(0,vi a1),(2,vi a3),(5,.er (c_ref09_Row a2)),(7,.er (c_ref09_Row a4)),(8,.ref 0 0 0)],[.box [.nils,vi 0,vb false,.nils]]⟩ (pe) (tc ((awp_spine (dr hk [0,2,5,8,9,10] [] [1,3] [] ⟨[[],[0],[],[0,1,2],[0,1,2,3],(lr 5)],[.agg (c_ref09_Row a2),vs (ref09_Row_numbers.fn a2),.agg (c_ref09_Row a4),vs (ref09_Row_numbers.fn a4),vs (ref09_Row_numbers.fn a2),vs (ref09_Row_numbers.fn a4)],_,[],[([],[.box [.nils,vi 0,vb false,.nils]])],[],[]⟩ ⟨85,[(0,vi a1),(2,vi a3),(5,.er (c_ref09_Row a2)),(8,.ref 0 0 0),(9,vs (ref09_Row_numbers.fn a2)),(10,vs (ref09_Row_numbers.fn a4))],[.box [.nils,vi 0,vb false,.nils]]⟩ (.n (.s (ok_ref09_Row_numbers a2 (o1)) (.n (.s (ok_ref09_Row_numbers a4 (o2)) (.n (.n AllO.e)))))) (tc ((awp_abs (fun (x1 : (List Int)) => ⟨85,[(0,vi a1),(2,vi a3),(5,.er (c_ref09_Row a2)),(8,.ref 0 0 0),(9,vs x1),(10,vs (ref09_Row_numbers.fn a4))],[.box [.nils,vi 0,vb false,.nils]]⟩) (ref09_Row_numbers.fn a2) ?_))))))))
  intro x1 hx1
  replace h := h x1 hx1
  refine awp_abs (fun (x2 : (List Int)) => ⟨85,[(0,vi a1),(2,vi a3),(5,.er (c_ref09_Row a2)),(8,.ref 0 0 0),(9,vs x1),(10,vs x2)],[.box [.nils,vi 0,vb false,.nils]]⟩) (ref09_Row_numbers.fn a4) ?_
  intro x2 hx2
  replace h := h x2 hx2
  obtain ⟨o3,h⟩ := h
  refine awp_spine (rc [0,2,5,8,9,10,11] [] [] [] ⟨85,[(0,vi a1),(2,vi a3),(5,.er (c_ref09_Row a2)),(8,.ref 0 0 0),(9,vs x1),(10,vs x2),(11,.osl 1 0)],[.box [.nils,vi 0,vb false,.nils],.row tI (List.replicate (Int.toNat (x1.length:Int)) (0:Int)) 0]⟩ (pn o3 pe) (tc ((awp_abs (fun (x3 : (List Int)) => ⟨85,[(0,vi a1),(2,vi a3),(5,.er (c_ref09_Row a2)),(8,.ref 0 0 0),(9,vs x1),(10,vs x2),(11,.osl 1 0)],[.box [.nils,vi 0,vb false,.nils],.row tI x3 0]⟩) (List.replicate (Int.toNat (x1.length:Int)) (0:Int)) ?_))))
  intro x3 hx3
  replace h := h x3 hx3
  refine awp_len 9 [] (T := tI) (l := x1) (by kernel_rfl) fun hl => ?_
  replace h := h hl
  refine awp_spine (rc [0,2,5,8,9,10,11,25,26] [] [] [] ⟨85,[(0,vi a1),(2,vi a3),(5,.er (c_ref09_Row a2)),(8,.ref 0 0 0),(9,vs x1),(10,vs x2),(11,.osl 1 0),(25,vi (x1.length:Int)),(26,vi 0)],[.box [.nils,vi 0,vb false,.nils],.row tI x3 0]⟩ (pe) (tc ((awp_len 9 [] (T := tI) (l := x1) (by kernel_rfl) fun hl => ?_))))
  replace h := h hl
  obtain ⟨I10,⟨n10a,hz10⟩,hI10⟩ := h
  refine awp_block (awp_loopN (fun n s => ∃ (x6:Int) (x7 : (List Int)),I10 n x6 x7 ∧ s = ⟨85,[(0,vi a1),(2,vi a3),(5,.er (c_ref09_Row a2)),(8,.ref 0 0 0),(9,vs x1),(10,vs x2),(11,.osl 1 0),(25,vi (x1.length:Int)),(26,vi x6)],[.box [.nils,vi 0,vb false,.nils],.row tI x7 0]⟩) (n := n10a) (s0 := ⟨85,[(0,vi a1),(2,vi a3),(5,.er (c_ref09_Row a2)),(8,.ref 0 0 0),(9,vs x1),(10,vs x2),(11,.osl 1 0),(25,vi (x1.length:Int)),(26,vi 0)],[.box [.nils,vi 0,vb false,.nils],.row tI x3 0]⟩) (wk_ghosts hk (l := [.keep [0,2,5,8,9,10,11,25,26]]) (by kernel_rfl)) ⟨0,x3,hz10,rfl⟩ ?_)
  rintro n10 s ⟨x6,x7,hx10,rfl⟩
  have h := hI10 n10 x6 x7 hx10
  refine awp_spine (rc [0,2,5,8,9,10,11,25,26,27] [] [] [] ⟨85,[(0,vi a1),(2,vi a3),(5,.er (c_ref09_Row a2)),(8,.ref 0 0 0),(9,vs x1),(10,vs x2),(11,.osl 1 0),(25,vi (x1.length:Int)),(26,vi x6),(27,vb (decide (x6 < (x1.length:Int))))],[.box [.nils,vi 0,vb false,.nils],.row tI x7 0]⟩ (pe) (tc ((awp_spine (awp_cond (b := decide (x6 < (x1.length:Int))) (by kernel_rfl) (fun hb => ?_) (fun hb => ?_))))))
  · replace h := h.1 (of_decide_eq_true hb)
    obtain ⟨o4,o5,o6,o7,o8,o9,o10,h⟩ := h
    refine awp_skip (tc ((awp_spine (awp_block (awp_spine (rc [0,2,5,8,9,10,11,12,25,26] [] [] [] ⟨85,[(0,vi a1),(2,vi a3),(5,.er (c_ref09_Row a2)),(8,.ref 0 0 0),(9,vs x1),(10,vs x2),(11,.osl 1 0),(12,vi x6),(25,vi (x1.length:Int)),(26,vi x6)],[.box [.nils,vi 0,vb false,.nils],.row tI x7 0]⟩ (pe) (tc ((dr hk [0,2,5,8,9,10,11,25,26] [] [] [] ⟨[[],[],[],[],[],[3,4],[3,4,5],[2,3,4,5,6],[],[],[],[9,10],[9,10,11],[8,9,10,11,12],[2,3,4,5,6,7,8,9,10,11,12,13],(lr 15),(lr 16)],[.osl 1 0,vi x6,vi a1,vs x1,vi x6,.er [vi (gI x1 x6)],vi (gI x1 x6),vi (a1 * (gI x1 x6)),vi a3,vs x2,vi x6,.er [vi (gI x2 x6)],vi (gI x2 x6),vi (a3 * (gI x2 x6)),vi ((a1 * (gI x1 x6)) + (a3 * (gI x2 x6))),.rref 1 0 (Int.toNat x6) 0,.tup []],_,[16],[([],[.box [.nils,vi 0,vb false,.nils],.row tI x7 0]),([16],[.box [.nils,vi 0,vb false,.nils],.row tI (x7.set (Int.toNat x6) ((a1 * (gI x1 x6)) + (a3 * (gI x2 x6)))) 0])],[],[]⟩ ⟨85,[(0,vi a1),(2,vi a3),(5,.er (c_ref09_Row a2)),(8,.ref 0 0 0),(9,vs x1),(10,vs x2),(11,.osl 1 0),(25,vi (x1.length:Int)),(26,vi x6)],[.box [.nils,vi 0,vb false,.nils],.row tI (x7.set (Int.toNat x6) ((a1 * (gI x1 x6)) + (a3 * (gI x2 x6)))) 0]⟩ (.n (.n (.n (.n (.n (.s o4 (.n (.s o5 (.n (.n (.n (.s o6 (.n (.s o7 (.s o8 (.s o9 (.s o10 AllO.e))))))))))))))))) (te ((blk_n (tc ((awp_abs (fun (x11 : (List Int)) => ⟨85,[(0,vi a1),(2,vi a3),(5,.er (c_ref09_Row a2)),(8,.ref 0 0 0),(9,vs x1),(10,vs x2),(11,.osl 1 0),(25,vi (x1.length:Int)),(26,vi x6)],[.box [.nils,vi 0,vb false,.nils],.row tI x11 0]⟩) (x7.set (Int.toNat x6) ((a1 * (gI x1 x6)) + (a3 * (gI x2 x6)))) ?_)))))))))))))))
    intro x11 hx11
    replace h := h x11 hx11
    obtain ⟨o11,h⟩ := h
    refine rc [0,2,5,8,9,10,11,25,26] [] [] [] ⟨85,[(0,vi a1),(2,vi a3),(5,.er (c_ref09_Row a2)),(8,.ref 0 0 0),(9,vs x1),(10,vs x2),(11,.osl 1 0),(25,vi (x1.length:Int)),(26,vi (x6 + (1:Int)))],[.box [.nils,vi 0,vb false,.nils],.row tI x11 0]⟩ (pn o11 pe) (te ((te ((te ((then_n (?_))))))))
    obtain ⟨m,hm,h⟩ := h
    exact ⟨m,hm,⟨85,[(0,vi a1),(2,vi a3),(5,.er (c_ref09_Row a2)),(8,.ref 0 0 0),(9,vs x1),(10,vs x2),(11,.osl 1 0),(25,vi (x1.length:Int)),(26,vi (x6 + (1:Int)))],[.box [.nils,vi 0,vb false,.nils],.row tI x11 0]⟩,wk_ghosts hk (l := [.keep [0,2,5,8,9,10,11,25,26]]) (by kernel_rfl),x6 + (1:Int),x11,h,rfl⟩
  · replace h := h.2 (of_decide_eq_false hb)
    obtain ⟨o12,h⟩ := h
    refine awp_exit (then_x (then_x (then_x (blk_h (tc ((awp_spine (rc [5,8,11,13] [] [(1,.dat (.tup [vi ((ref01_Gcd.fn x7).1),vi ((ref01_Gcd.fn x7).2)]))] [] ⟨85,[(5,.er (c_ref09_Row a2)),(8,.ref 0 0 0),(11,.osl 1 0),(13,vi ((ref01_Gcd.fn x7).1))],[.box [.nils,vi 0,vb false,.nils],.row tI x7 0]⟩ (pn (OkC.lent 1 (by kernel_rfl) rfl rfl (ok_ref01_Gcd x7 (o12)) : OkA prog 98 [.osl 1 0] [.box [.nils,vi 0,vb false,.nils],.row tI x7 0] (.tup [vi ((ref01_Gcd.fn x7).1),vi ((ref01_Gcd.fn x7).2)])) pe) (tc ((awp_abs (fun (x12 : Int × Int) => ⟨85,[(5,.er (c_ref09_Row a2)),(8,.ref 0 0 0),(11,.osl 1 0),(13,vi x12.1)],[.box [.nils,vi 0,vb false,.nils],.row tI x7 0]⟩) (ref01_Gcd.fn x7) ?_)))))))))))
    intro x12 hx12
    replace h := h x12 hx12
    obtain ⟨R14,hA14,hB14⟩ := h
    refine awp_meet (fun s' => ∃ (x13 : (List Int)),R14 x13 ∧ Wk cx s' ⟨85,[(5,.er (c_ref09_Row a2)),(8,.ref 0 0 0),(11,.osl 1 0)],[.box [.nils,vi 0,vb false,.nils],.row tI x13 0]⟩) ?_ ?_
    · have h := hA14
      refine awp_spine (rc [5,8,11,13,52] [] [] [] ⟨85,[(5,.er (c_ref09_Row a2)),(8,.ref 0 0 0),(11,.osl 1 0),(13,vi x12.1),(52,vb (decide (x12.1 > (1:Int))))],[.box [.nils,vi 0,vb false,.nils],.row tI x7 0]⟩ (pe) (tc ((awp_cond (b := decide (x12.1 > (1:Int))) (by kernel_rfl) (fun hb => ?_) (fun hb => ?_)))))
      · replace h := h.1 (of_decide_eq_true hb)
        obtain ⟨I21,⟨n21a,hz21⟩,hI21⟩ := h
        refine awp_spine (rc [5,8,11,13,54,55] [] [] [] ⟨85,[(5,.er (c_ref09_Row a2)),(8,.ref 0 0 0),(11,.osl 1 0),(13,vi x12.1),(54,vi (x7.length:Int)),(55,vi 0)],[.box [.nils,vi 0,vb false,.nils],.row tI x7 0]⟩ (pe) (tc ((awp_block (awp_loopN (fun n s => ∃ (x17:Int) (x18 : (List Int)),I21 n x17 x18 ∧ s = ⟨85,[(5,.er (c_ref09_Row a2)),(8,.ref 0 0 0),(11,.osl 1 0),(13,vi x12.1),(54,vi (x7.length:Int)),(55,vi x17)],[.box [.nils,vi 0,vb false,.nils],.row tI x18 0]⟩) (n := n21a) (s0 := ⟨85,[(5,.er (c_ref09_Row a2)),(8,.ref 0 0 0),(11,.osl 1 0),(13,vi x12.1),(54,vi (x7.length:Int)),(55,vi 0)],[.box [.nils,vi 0,vb false,.nils],.row tI x7 0]⟩) (wk_ghosts hk (l := [.keep [5,8,11,13,54,55]]) (by kernel_rfl)) ⟨0,x7,hz21,rfl⟩ ?_)))))
        rintro n21 s ⟨x17,x18,hx21,rfl⟩
        have h := hI21 n21 x17 x18 hx21
        refine awp_spine (rc [5,8,11,13,54,55,56] [] [] [] ⟨85,[(5,.er (c_ref09_Row a2)),(8,.ref 0 0 0),(11,.osl 1 0),(13,vi x12.1),(54,vi (x7.length:Int)),(55,vi x17),(56,vb (decide (x17 < (x7.length:Int))))],[.box [.nils,vi 0,vb false,.nils],.row tI x18 0]⟩ (pe) (tc ((awp_spine (awp_cond (b := decide (x17 < (x7.length:Int))) (by kernel_rfl) (fun hb => ?_) (fun hb => ?_))))))
        · replace h := h.1 (of_decide_eq_true hb)
          obtain ⟨o13,o14,o15,o16,o17,h⟩ := h
          refine awp_skip (tc ((awp_spine (awp_block (awp_spine (rc [5,8,11,13,15,54,55] [] [] [] ⟨85,[(5,.er (c_ref09_Row a2)),(8,.ref 0 0 0),(11,.osl 1 0),(13,vi x12.1),(15,vi x17),(54,vi (x7.length:Int)),(55,vi x17)],[.box [.nils,vi 0,vb false,.nils],.row tI x18 0]⟩ (pe) (tc ((rc [5,8,11,13,54,55] [] [] [] ⟨85,[(5,.er (c_ref09_Row a2)),(8,.ref 0 0 0),(11,.osl 1 0),(13,vi x12.1),(54,vi (x7.length:Int)),(55,vi x17)],[.box [.nils,vi 0,vb false,.nils],.row tI (x18.set (Int.toNat x17) (Int.tdiv (x18.getD (Int.toNat x17) (0:Int)) x12.1)) 0]⟩ (pn o13 (pn o14 (pn o15 (pn o16 (pn o17 pe))))) (te ((blk_n (tc ((awp_abs (fun (x22 : (List Int)) => ⟨85,[(5,.er (c_ref09_Row a2)),(8,.ref 0 0 0),(11,.osl 1 0),(13,vi x12.1),(54,vi (x7.length:Int)),(55,vi x17)],[.box [.nils,vi 0,vb false,.nils],.row tI x22 0]⟩) (x18.set (Int.toNat x17) (Int.tdiv (x18.getD (Int.toNat x17) (0:Int)) x12.1)) ?_)))))))))))))))
          intro x22 hx22
          replace h := h x22 hx22
          obtain ⟨o18,h⟩ := h
          refine rc [5,8,11,13,54,55] [] [] [] ⟨85,[(5,.er (c_ref09_Row a2)),(8,.ref 0 0 0),(11,.osl 1 0),(13,vi x12.1),(54,vi (x7.length:Int)),(55,vi (x17 + (1:Int)))],[.box [.nils,vi 0,vb false,.nils],.row tI x22 0]⟩ (pn o18 pe) (te ((te ((te ((then_n (?_))))))))
          obtain ⟨m,hm,h⟩ := h
          exact ⟨m,hm,⟨85,[(5,.er (c_ref09_Row a2)),(8,.ref 0 0 0),(11,.osl 1 0),(13,vi x12.1),(54,vi (x7.length:Int)),(55,vi (x17 + (1:Int)))],[.box [.nils,vi 0,vb false,.nils],.row tI x22 0]⟩,wk_ghosts hk (l := [.keep [5,8,11,13,54,55]]) (by kernel_rfl),x17 + (1:Int),x22,h,rfl⟩
        · replace h := h.2 (of_decide_eq_false hb)
          refine awp_exit (then_x (then_x (then_x (blk_h (te ((te ((then_n (?_))))))))))
          exact ⟨x18,h,wk_ghosts hk (l := [.keep [5,8,11]]) (by kernel_rfl)⟩
      · replace h := h.2 (of_decide_eq_false hb)
        refine awp_skip (te ((then_n (?_))))
        exact ⟨x7,h,wk_ghosts hk (l := [.keep [5,8,11]]) (by kernel_rfl)⟩
    · rintro s' ⟨x13,hx14,hw14⟩
      have h := hB14 x13 hx14
      refine spine_c (awp_wk hw14 (awp_spine (rc [5,8,11,16] [] [] [] ⟨85,[(5,.er (c_ref09_Row a2)),(8,.ref 0 0 0),(11,.osl 1 0),(16,vi (a2.1.1.length:Int))],[.box [.nils,vi 0,vb false,.nils],.row tI x13 0]⟩ (pe) (tc ((awp_len 5 [0] (T := tI) (l := a2.1.1) (by kernel_rfl) fun hl => ?_))))))
      replace h := h hl
      obtain ⟨o19,o20,o21,o22,h⟩ := h
      refine awp_spine (awp_gh hk [.freeze 1,.keep [5,8,11,16]] ⟨85,[(5,.er (c_ref09_Row a2)),(8,.ref 0 0 0),(11,vs x13),(16,vi (a2.1.1.length:Int))],[.box [.nils,vi 0,vb false,.nils],.dead]⟩ (by kernel_rfl) (dr hk [8] [] [] [] ⟨[[],[],[0,1],[],[],[3,4],[3,4,5],(lr 7),[],[8],[],[],[11],[10,11,12],(lr 14),(lr 15)],[vs x13,vi (a2.1.1.length:Int),vs (x13.take (Int.toNat (a2.1.1.length:Int))),vs x13,vi (a2.1.1.length:Int),.er [vi (gI x13 (a2.1.1.length:Int))],vi (gI x13 (a2.1.1.length:Int)),.agg [vs (x13.take (Int.toNat (a2.1.1.length:Int))),vi (gI x13 (a2.1.1.length:Int))],.er (c_farkas_row a2.2),vb a2.2.1,vs x13,vi (a2.1.1.length:Int),vi ((a2.1.1.length:Int) + (1:Int)),vs (x13.drop (Int.toNat ((a2.1.1.length:Int) + (1:Int)))),.agg [vs (x13.take (Int.toNat (a2.1.1.length:Int))),vi (gI x13 (a2.1.1.length:Int)),vb a2.2.1,vs (x13.drop (Int.toNat ((a2.1.1.length:Int) + (1:Int))))],.tup []],_,[15],[([],[.box [.nils,vi 0,vb false,.nils],.dead]),([15],[.box [vs (x13.take (Int.toNat (a2.1.1.length:Int))),vi (gI x13 (a2.1.1.length:Int)),vb a2.2.1,vs (x13.drop (Int.toNat ((a2.1.1.length:Int) + (1:Int))))],.dead])],[],[]⟩ ⟨85,[(8,.ref 0 0 0)],[.box [vs (x13.take (Int.toNat (a2.1.1.length:Int))),vi (gI x13 (a2.1.1.length:Int)),vb a2.2.1,vs (x13.drop (Int.toNat ((a2.1.1.length:Int) + (1:Int))))],.dead]⟩ (.n (.n (.s o19 (.n (.n (.s o20 (.n (.n (.n (.n (.n (.n (.s o21 (.s o22 (.n (.n AllO.e)))))))))))))))) (tc ((awp_abs (fun (x23 : (List Int)) => ⟨85,[(8,.ref 0 0 0)],[.box [vs x23,vi (gI x13 (a2.1.1.length:Int)),vb a2.2.1,vs (x13.drop (Int.toNat ((a2.1.1.length:Int) + (1:Int))))],.dead]⟩) (x13.take (Int.toNat (a2.1.1.length:Int))) ?_)))))
      intro x23 hx23
      replace h := h x23 hx23
      refine awp_abs (fun (x24 : (List Int)) => ⟨85,[(8,.ref 0 0 0)],[.box [vs x23,vi (gI x13 (a2.1.1.length:Int)),vb a2.2.1,vs x24],.dead]⟩) (x13.drop (Int.toNat ((a2.1.1.length:Int) + (1:Int)))) ?_
      intro x24 hx24
      replace h := h x24 hx24
      refine awp_ret (tr (tr (tr (tr (tr (tr (tr (?_))))))))
      exact re hk (.agg (c_ref09_Row ((x23,gI x13 (a2.1.1.length:Int)),a2.2.1,x24))) [.keep [8]] ⟨85,[(8,.ref 0 0 0)],[.box [vs x23,vi (gI x13 (a2.1.1.length:Int)),vb a2.2.1,vs x24],.dead]⟩ ⟨((x23,gI x13 (a2.1.1.length:Int)),a2.2.1,x24),rfl,rfl,h⟩
theorem ok_ref09_mix (a1:Int) (a2 : ref09_Row) (a3:Int) (a4 : ref09_Row) (h : ref09_mix.pre a1 a2 a3 a4) : OkC prog 81 [vi a1,.agg (c_ref09_Row a2),vi a3,.agg (c_ref09_Row a4)] (.agg (c_ref09_Row (ref09_mix.fn a1 a2 a3 a4))) :=
  OkC.of call_ref09_mix ((walk_ref09_mix a1 a2 a3 a4 _ (ref09_mix.spec a1 a2 a3 a4 h)).mono fun r o ⟨x,hr,ho,hx⟩ => ⟨by rw [hr,hx],ho⟩) rfl rfl (fun _ => rfl)

noncomputable abbrev b82 : Code := bodyOf Try.f82
theorem call_ref09_same : CallOk prog 82 := ⟨_,Try.func82,by kernel_rfl,by kernel_rfl⟩
theorem walk_ref09_same (a1 : ref09_Row) (a2 : ref09_Row) (Q : Bool → Prop) (h : ref09_same.wp a1 a2 Q) : VCalls prog 82 [.agg (c_ref09_Row a1),.agg (c_ref09_Row a2)] [] (fun r o => ∃ x,r = vb x ∧ o = [] ∧ Q x) := by
  refine body Try.func82 (spine (subC [0] b82) [(spine (subC [1,0,0] b82) [(.cond (.tmp 19) (spine (subC [1,0,1,0,0] b82) [.ret]) .skip),(spine (subC [1,1,0,0] b82) [(.block 0 (.loop (spine (subC [1,1,0,1,0,0,0] b82) [(spine (.cond (.tmp 25) .skip (.exit 0)) [(spine (.block 1 (spine (subC [1,1,0,1,0,0,1,1,0,0,0] b82) [(spine (subC [1,1,0,1,0,0,1,1,0,0,1,0] b82) [(.cond (.tmp 39) (spine (subC [1,1,0,1,0,0,1,1,0,0,1,1,0,0] b82) [.ret]) .skip)])])) [(subC [1,1,0,1,0,0,1,1,1] b82)])])]))),(spine (subC [1,1,1,0] b82) [.ret])])])]) fun cx hd hi hk => ?_
  show AWp prog cx _ _ ⟨41,[(0,.agg (c_ref09_Row a1)),(1,.agg (c_ref09_Row a2))],[]⟩
  replace hk : cx.E.len = 0 := hk
  unfold ref09_same.wp at h
  refine awp_spine (rc [2,3] [] [] [0,1] ⟨41,[(2,.er (c_ref09_Row a1)),(3,.er (c_ref09_Row a2))],[]⟩ (pe) (tc ((awp_spine (rc [2,3,19] [] [] [] ⟨41,[(2,.er (c_ref09_Row a1)),(3,.er (c_ref09_Row a2)),(19,vb ((a1.2.1 != a2.2.1) || (a1.1.2 != a2.1.2)))],[]⟩ (pn (fun hg => ⟨hg,trivial⟩ : (!(a1.2.1 != a2.2.1)) = true → (!(a1.2.1 != a2.2.1)) = true ∧ True) (pn (fun hg => ⟨hg,trivial⟩ : (!(a1.2.1 != a2.2.1)) = true → (!(a1.2.1 != a2.2.1)) = true ∧ True) (pn (fun hg => ⟨hg,trivial⟩ : (!(a1.2.1 != a2.2.1)) = true → (!(a1.2.1 != a2.2.1)) = true ∧ True) (pn (fun hg => ⟨hg,trivial⟩ : (!(a1.2.1 != a2.2.1)) = true → (!(a1.2.1 != a2.2.1)) = true ∧ True) (pn (fun hg => ⟨hg,hg,trivial⟩ : (!(a1.2.1 != a2.2.1)) = true → (!(a1.2.1 != a2.2.1)) = true ∧ ((!(a1.2.1 != a2.2.1)) = true ∧ True)) (pn (fun hc => not_f hc : (a1.2.1 != a2.2.1) = false → (!(a1.2.1 != a2.2.1)) = true) pe)))))) (tc ((awp_cond (b := (a1.2.1 != a2.2.1) || (a1.1.2 != a2.1.2)) (by kernel_rfl) (fun hb => ?_) (fun hb => ?_)))))))))
  · replace h := h.1 (hb)
    refine awp_spine (rc [4] [] [] [] ⟨41,[(4,vb false)],[]⟩ (pe) (tc ((awp_ret (tr (tr (tr (?_))))))))
    exact re hk (vb false) [.keep [4]] ⟨41,[(4,vb false)],[]⟩ ⟨false,rfl,rfl,h⟩
  · replace h := h.2 (hb)
    refine awp_skip (tc ((awp_spine (rc [2,3,23,24] [] [] [] ⟨41,[(2,.er (c_ref09_Row a1)),(3,.er (c_ref09_Row a2)),(23,vi (a1.1.1.length:Int)),(24,vi 0)],[]⟩ (pe) (tc ((awp_len 2 [0] (T := tI) (l := a1.1.1) (by kernel_rfl) fun hl => ?_)))))))
    replace h := h hl
    obtain ⟨I4,⟨n4a,hz4⟩,hI4⟩ := h
    refine awp_block (awp_loopN (fun n s => ∃ (x2:Int),I4 n x2 ∧ s = ⟨41,[(2,.er (c_ref09_Row a1)),(3,.er (c_ref09_Row a2)),(23,vi (a1.1.1.length:Int)),(24,vi x2)],[]⟩) (n := n4a) (s0 := ⟨41,[(2,.er (c_ref09_Row a1)),(3,.er (c_ref09_Row a2)),(23,vi (a1.1.1.length:Int)),(24,vi 0)],[]⟩) (wk_ghosts hk (l := [.keep [2,3,23,24]]) (by kernel_rfl)) ⟨0,hz4,rfl⟩ ?_)
    rintro n4 s ⟨x2,hx4,rfl⟩
    have h := hI4 n4 x2 hx4
    refine awp_spine (rc [2,3,23,24,25] [] [] [] ⟨41,[(2,.er (c_ref09_Row a1)),(3,.er (c_ref09_Row a2)),(23,vi (a1.1.1.length:Int)),(24,vi x2),(25,vb (decide (x2 < (a1.1.1.length:Int))))],[]⟩ (pe) (tc ((awp_spine (awp_cond (b := decide (x2 < (a1.1.1.length:Int))) (by kernel_rfl) (fun hb => ?_) (fun hb => ?_))))))
    · replace h := h.1 (of_decide_eq_true hb)
      obtain ⟨o1,o2,h⟩ := h
      refine awp_skip (tc ((awp_spine (awp_block (awp_spine (rc [2,3,5,23,24] [] [] [] ⟨41,[(2,.er (c_ref09_Row a1)),(3,.er (c_ref09_Row a2)),(5,vi x2),(23,vi (a1.1.1.length:Int)),(24,vi x2)],[]⟩ (pe) (tc ((awp_spine (dr hk [2,3,23,24,39] [] [] [] ⟨[[],[0],[0,1],[],[0,1,2,3],(lr 5),[],[6],[6,7],[],[6,7,8,9],[6,7,8,9,10],(lr 12)],[.er (c_ref09_Row a1),.er (c_ref09_Row a1),vs a1.1.1,vi x2,.er [vi (gI a1.1.1 x2)],vi (gI a1.1.1 x2),.er (c_ref09_Row a2),.er (c_ref09_Row a2),vs a2.1.1,vi x2,.er [vi (gI a2.1.1 x2)],vi (gI a2.1.1 x2),vb ((gI a1.1.1 x2) != (gI a2.1.1 x2))],_,[],[([],[])],[],[]⟩ ⟨41,[(2,.er (c_ref09_Row a1)),(3,.er (c_ref09_Row a2)),(23,vi (a1.1.1.length:Int)),(24,vi x2),(39,vb ((gI a1.1.1 x2) != (gI a2.1.1 x2)))],[]⟩ (.n (.n (.n (.n (.s o1 (.n (.n (.n (.n (.n (.s o2 (.n (.n AllO.e))))))))))))) (tc ((awp_cond (b := (gI a1.1.1 x2) != (gI a2.1.1 x2)) (by kernel_rfl) (fun hb => ?_) (fun hb => ?_))))))))))))))
      · replace h := h.1 (bne_iff_ne.mp hb)
        refine awp_spine (rc [4] [] [] [] ⟨41,[(4,vb false)],[]⟩ (pe) (tc ((awp_ret (tr (tr (tr (blk_r (tr (tr (tr (tr (blk_r (tr (tr (tr (?_)))))))))))))))))
        exact re hk (vb false) [.keep [4]] ⟨41,[(4,vb false)],[]⟩ ⟨false,rfl,rfl,h⟩
      · replace h := h.2 (bne_f hb)
        obtain ⟨o3,h⟩ := h
        refine awp_skip (te ((te ((blk_n (tc ((rc [2,3,23,24] [] [] [] ⟨41,[(2,.er (c_ref09_Row a1)),(3,.er (c_ref09_Row a2)),(23,vi (a1.1.1.length:Int)),(24,vi (x2 + (1:Int)))],[]⟩ (pn o3 pe) (te ((te ((te ((then_n (?_))))))))))))))))
        obtain ⟨m,hm,h⟩ := h
        exact ⟨m,hm,⟨41,[(2,.er (c_ref09_Row a1)),(3,.er (c_ref09_Row a2)),(23,vi (a1.1.1.length:Int)),(24,vi (x2 + (1:Int)))],[]⟩,wk_ghosts hk (l := [.keep [2,3,23,24]]) (by kernel_rfl),x2 + (1:Int),h,rfl⟩
    · replace h := h.2 (of_decide_eq_false hb)
      refine awp_exit (then_x (then_x (then_x (blk_h (tc ((awp_spine (rc [4] [] [] [] ⟨41,[(4,vb true)],[]⟩ (pe) (tc ((awp_ret (tr (tr (tr (tr (?_))))))))))))))))
      exact re hk (vb true) [.keep [4]] ⟨41,[(4,vb true)],[]⟩ ⟨true,rfl,rfl,h⟩
theorem ok_ref09_same (a1 : ref09_Row) (a2 : ref09_Row) (h : ref09_same.pre a1 a2) : OkC prog 82 [.agg (c_ref09_Row a1),.agg (c_ref09_Row a2)] (vb (ref09_same.fn a1 a2)) :=
  OkC.of call_ref09_same ((walk_ref09_same a1 a2 _ (ref09_same.spec a1 a2 h)).mono fun r o ⟨x,hr,ho,hx⟩ => ⟨by rw [hr,hx],ho⟩) rfl rfl (fun _ => rfl)

noncomputable abbrev b58 : Code := bodyOf Try.f58
theorem call_ref09_Eliminate : CallOk prog 58 := ⟨_,Try.func58,by kernel_rfl,by kernel_rfl⟩
theorem walk_ref09_Eliminate (a1 : (List ref09_Row)) (a2:Int) (Q : (List ref09_Row) × Int → Prop) (h : ref09_Eliminate.wp a1 a2 Q) : VCalls prog 58 [.d (.sl t_ref09_Row) a1,vi a2] [] (fun r o => ∃ x,r = .tup [.d (.sl t_ref09_Row) x.1,vi x.2] ∧ o = [] ∧ Q x) := by
  refine body Try.func58 (spine (subC [0] b58) [(spine (subC [1,0] b58) [(spine (subC [1,1,0,0] b58) [(.block 0 (.loop (spine (subC [1,1,0,1,0,0,0] b58) [(spine (.cond (.tmp 35) .skip (.exit 0)) [(spine (.block 1 (spine (subC [1,1,0,1,0,0,1,1,0,0,0] b58) [(spine (subC [1,1,0,1,0,0,1,1,0,0,1,0] b58) [(spine (subC [1,1,0,1,0,0,1,1,0,0,1,1,0] b58) [(.cond (.tmp 81) (subC [1,1,0,1,0,0,1,1,0,0,1,1,1,0] b58) .skip)])])])) [(subC [1,1,0,1,0,0,1,1,1] b58)])])]))),(spine (subC [1,1,1,0] b58) [(spine (subC [1,1,1,1,0,0] b58) [(.cond (.tmp 85) (spine (subC [1,1,1,1,0,1,0,0] b58) [(spine (subC [1,1,1,1,0,1,0,1,0] b58) [(spine (subC [1,1,1,1,0,1,0,1,1,0] b58) [(spine (subC [1,1,1,1,0,1,0,1,1,1,0,0] b58) [(.cond (.tmp 97) (subC [1,1,1,1,0,1,0,1,1,1,0,1,0] b58) .skip),(spine (subC [1,1,1,1,0,1,0,1,1,1,1,0] b58) [(.block 2 (.loop (spine (subC [1,1,1,1,0,1,0,1,1,1,1,1,0,0,0] b58) [(spine (.cond (.tmp 101) .skip (.exit 2)) [(spine (.block 3 (spine (subC [1,1,1,1,0,1,0,1,1,1,1,1,0,0,1,1,0,0,0] b58) [(.block 4 (spine (subC [1,1,1,1,0,1,0,1,1,1,1,1,0,0,1,1,0,0,1,0,0] b58) [(.cond (.tmp 124) .skip (spine (subC [1,1,1,1,0,1,0,1,1,1,1,1,0,0,1,1,0,0,1,0,1,1,0] b58) [(.cond (.tmp 128) (subC [1,1,1,1,0,1,0,1,1,1,1,1,0,0,1,1,0,0,1,0,1,1,1,0] b58) (subC [1,1,1,1,0,1,0,1,1,1,1,1,0,0,1,1,0,0,1,0,1,1,1,1] b58))]))]))])) [(subC [1,1,1,1,0,1,0,1,1,1,1,1,0,0,1,1,1] b58)])])])))])])])])]) (spine (subC [1,1,1,1,0,1,1,0,0] b58) [(.block 5 (.loop (spine (subC [1,1,1,1,0,1,1,0,1,0,0,0] b58) [(spine (.cond (.tmp 144) .skip (.exit 5)) [(spine (.block 6 (spine (subC [1,1,1,1,0,1,1,0,1,0,0,1,1,0,0,0] b58) [(spine (subC [1,1,1,1,0,1,1,0,1,0,0,1,1,0,0,1,0] b58) [(.cond (.tmp 153) (subC [1,1,1,1,0,1,1,0,1,0,0,1,1,0,0,1,1,0] b58) .skip)])])) [(subC [1,1,1,1,0,1,1,0,1,0,0,1,1,1] b58)])])]))),(spine (subC [1,1,1,1,0,1,1,1,0] b58) [(.block 7 (.loop (spine (subC [1,1,1,1,0,1,1,1,1,0,0,0] b58) [(spine (.cond (.tmp 162) .skip (.exit 7)) [(spine (.block 8 (spine (subC [1,1,1,1,0,1,1,1,1,0,0,1,1,0,0,0] b58) [(spine (subC [1,1,1,1,0,1,1,1,1,0,0,1,1,0,0,1,0,0] b58) [(.cond (.tmp 171) (.exit 8) .skip),(spine (subC [1,1,1,1,0,1,1,1,1,0,0,1,1,0,0,1,1,0] b58) [(.block 9 (.loop (spine (subC [1,1,1,1,0,1,1,1,1,0,0,1,1,0,0,1,1,1,0,0,0] b58) [(spine (.cond (.tmp 175) .skip (.exit 9)) [(spine (.block 10 (spine (subC [1,1,1,1,0,1,1,1,1,0,0,1,1,0,0,1,1,1,0,0,1,1,0,0,0] b58) [(spine (subC [1,1,1,1,0,1,1,1,1,0,0,1,1,0,0,1,1,1,0,0,1,1,0,0,1,0] b58) [(.cond (.tmp 184) (subC [1,1,1,1,0,1,1,1,1,0,0,1,1,0,0,1,1,1,0,0,1,1,0,0,1,1,0] b58) .skip)])])) [(subC [1,1,1,1,0,1,1,1,1,0,0,1,1,0,0,1,1,1,0,0,1,1,1] b58)])])])))])])])) [(subC [1,1,1,1,0,1,1,1,1,0,0,1,1,1] b58)])])])))])])),(spine (subC [1,1,1,1,1,0] b58) [(spine (subC [1,1,1,1,1,1,0,0] b58) [(.block 11 (.loop (spine (subC [1,1,1,1,1,1,0,1,0,0,0] b58) [(spine (.cond (.tmp 209) .skip (.exit 11)) [(spine (.block 12 (spine (subC [1,1,1,1,1,1,0,1,0,0,1,1,0,0,0] b58) [(spine (subC [1,1,1,1,1,1,0,1,0,0,1,1,0,0,1,0] b58) [(spine (subC [1,1,1,1,1,1,0,1,0,0,1,1,0,0,1,1,0,0] b58) [(.block 13 (.loop (spine (subC [1,1,1,1,1,1,0,1,0,0,1,1,0,0,1,1,0,1,0,0,0] b58) [(spine (.cond (.tmp 215) .skip (.exit 13)) [(spine (.block 14 (spine (subC [1,1,1,1,1,1,0,1,0,0,1,1,0,0,1,1,0,1,0,0,1,1,0,0,0] b58) [(subC [1,1,1,1,1,1,0,1,0,0,1,1,0,0,1,1,0,1,0,0,1,1,0,0,1] b58)])) [(subC [1,1,1,1,1,1,0,1,0,0,1,1,0,0,1,1,0,1,0,0,1,1,1] b58)])])]))),(spine (subC [1,1,1,1,1,1,0,1,0,0,1,1,0,0,1,1,1,0,0] b58) [(.cond (.tmp 226) (subC [1,1,1,1,1,1,0,1,0,0,1,1,0,0,1,1,1,0,1,0] b58) .skip),(spine (subC [1,1,1,1,1,1,0,1,0,0,1,1,0,0,1,1,1,1,0] b58) [(.cond (.tmp 233) (spine (subC [1,1,1,1,1,1,0,1,0,0,1,1,0,0,1,1,1,1,1,0,0] b58) [.ret]) .skip)])])])])])) [(subC [1,1,1,1,1,1,0,1,0,0,1,1,1] b58)])])]))),(spine (subC [1,1,1,1,1,1,1,0,0] b58) [(.block 15 (.loop (spine (subC [1,1,1,1,1,1,1,0,1,0,0,0] b58) [(spine (.cond (.tmp 238) .skip (.exit 15)) [(spine (.block 16 (spine (subC [1,1,1,1,1,1,1,0,1,0,0,1,1,0,0,0] b58) [(spine (subC [1,1,1,1,1,1,1,0,1,0,0,1,1,0,0,1,0] b58) [(.block 17 (.loop (spine (subC [1,1,1,1,1,1,1,0,1,0,0,1,1,0,0,1,1,0,0,0] b58) [(spine (.cond (.tmp 245) .skip (.exit 17)) [(spine (.block 18 (spine (subC [1,1,1,1,1,1,1,0,1,0,0,1,1,0,0,1,1,0,0,1,1,0,0,0] b58) [(spine (subC [1,1,1,1,1,1,1,0,1,0,0,1,1,0,0,1,1,0,0,1,1,0,0,1,0] b58) [(.cond (.tmp 253) (spine (subC [1,1,1,1,1,1,1,0,1,0,0,1,1,0,0,1,1,0,0,1,1,0,0,1,1,0,0] b58) [.ret]) .skip)])])) [(subC [1,1,1,1,1,1,1,0,1,0,0,1,1,0,0,1,1,0,0,1,1,1] b58)])])])))])])) [(subC [1,1,1,1,1,1,1,0,1,0,0,1,1,1] b58)])])]))),(spine (subC [1,1,1,1,1,1,1,1,0] b58) [.ret])])])])])])])])]) fun cx hd hi hk => ?_
  show AWp prog cx _ _ ⟨257,[(0,.d (.sl t_ref09_Row) a1),(1,vi a2)],[]⟩
  replace hk : cx.E.len = 0 := hk
  unfold ref09_Eliminate.wp at h
  refine awp_spine (rc [0,1] [] [] [] ⟨257,[(0,.d (.sl t_ref09_Row) a1),(1,vi a2)],[]⟩ (pe) (tc ((awp_spine (rc [0,1,6] [] [] [] ⟨257,[(0,.d (.sl t_ref09_Row) a1),(1,vi a2),(6,vi (-1))],[]⟩ (pe) (tc ((awp_spine (rc [0,1,6,32,33,34] [] [] [] ⟨257,[(0,.d (.sl t_ref09_Row) a1),(1,vi a2),(6,vi (-1)),(32,.d (.sl t_ref09_Row) a1),(33,vi (a1.length:Int)),(34,vi 0)],[]⟩ (pe) (tc ((awp_len 0 [] (T := t_ref09_Row) (l := a1) (by kernel_rfl) fun hl => ?_))))))))))))
  replace h := h hl
  obtain ⟨I7,⟨n7a,hz7⟩,hI7⟩ := h
  refine awp_block (awp_loopN (fun n s => ∃ (x3:Int) (x4:Int),I7 n x3 x4 ∧ s = ⟨257,[(0,.d (.sl t_ref09_Row) a1),(1,vi a2),(6,vi x3),(32,.d (.sl t_ref09_Row) a1),(33,vi (a1.length:Int)),(34,vi x4)],[]⟩) (n := n7a) (s0 := ⟨257,[(0,.d (.sl t_ref09_Row) a1),(1,vi a2),(6,vi (-1)),(32,.d (.sl t_ref09_Row) a1),(33,vi (a1.length:Int)),(34,vi 0)],[]⟩) (wk_ghosts hk (l := [.keep [0,1,6,32,33,34]]) (by kernel_rfl)) ⟨(-1),0,hz7,rfl⟩ ?_)
  rintro n7 s ⟨x3,x4,hx7,rfl⟩
  have h := hI7 n7 x3 x4 hx7
  refine awp_spine (rc [0,1,6,32,33,34,35] [] [] [] ⟨257,[(0,.d (.sl t_ref09_Row) a1),(1,vi a2),(6,vi x3),(32,.d (.sl t_ref09_Row) a1),(33,vi (a1.length:Int)),(34,vi x4),(35,vb (decide (x4 < (a1.length:Int))))],[]⟩ (pe) (tc ((awp_spine (awp_cond (b := decide (x4 < (a1.length:Int))) (by kernel_rfl) (fun hb => ?_) (fun hb => ?_))))))
  · replace h := h.1 (of_decide_eq_true hb)
    obtain ⟨o1,h⟩ := h
    refine awp_skip (tc ((awp_spine (awp_block (awp_spine (rc [0,1,6,7,8,32,33,34] [] [] [] ⟨257,[(0,.d (.sl t_ref09_Row) a1),(1,vi a2),(6,vi x3),(7,vi x4),(8,.ref 0 0 0),(32,.d (.sl t_ref09_Row) a1),(33,vi (a1.length:Int)),(34,vi x4)],[.box (c_ref09_Row (a1.getD (Int.toNat x4) d_ref09_Row))]⟩ (pn o1 pe) (tc ((awp_abs (fun (x8 : ref09_Row) => ⟨257,[(0,.d (.sl t_ref09_Row) a1),(1,vi a2),(6,vi x3),(7,vi x4),(8,.ref 0 0 0),(32,.d (.sl t_ref09_Row) a1),(33,vi (a1.length:Int)),(34,vi x4)],[.box (c_ref09_Row x8)]⟩) (a1.getD (Int.toNat x4) d_ref09_Row) ?_)))))))))
    intro x8 hx8
    replace h := h x8 hx8
    obtain ⟨o2,h⟩ := h
    refine awp_spine (rc [0,1,6,7,8,9,32,33,34] [] [] [] ⟨257,[(0,.d (.sl t_ref09_Row) a1),(1,vi a2),(6,vi x3),(7,vi x4),(8,.ref 0 0 0),(9,vi (gI x8.1.1 a2)),(32,.d (.sl t_ref09_Row) a1),(33,vi (a1.length:Int)),(34,vi x4)],[.box (c_ref09_Row x8)]⟩ (pn o2 pe) (tc ((awp_spine ?_))))
    obtain ⟨o3,o4,o5,o6,o7,o8,h⟩ := h
    refine dr hk [0,1,6,7,32,33,34,81] [] [] [] ⟨[[],[0],[0,1],[0,1,2],[0,1,2,3],(lr 5),(lr 6),(lr 7),(lr 8),(lr 9),(lr 10),(lr 10),[0,1,2,3,4,5,6,7,8,9,11],(lr 13),(lr 10),(lr 10),[0,1,2,3,4,5,6,7,8,9,14,15],[0,1,2,3,4,5,6,7,8,9,14,15,16],[0,1,2,3,4,5,6,7,8,9,14,15,16,17],[0,1,2,3,4,5,6,7,8,9,14,15,16,17,18],(lr 10),[0,1,2,3,4,5,6,7,8,9,14,15,16,17,18,19,20],[0,1,2,3,4,5,6,7,8,9,14,15,16,17,18,19,20,21],(lr 10),(lr 10),[0,1,2,3,4,5,6,7,8,9,23,24],[0,1,2,3,4,5,6,7,8,9,23,24,25],[0,1,2,3,4,5,6,7,8,9,23,24,25,26],[0,1,2,3,4,5,6,7,8,9,23,24,25,26,27],(lr 10),[0,1,2,3,4,5,6,7,8,9,23,24,25,26,27,28,29],[0,1,2,3,4,5,6,7,8,9,23,24,25,26,27,28,29,30],[0,1,2,3,4,5,6,7,8,9,23,24,25,26,27,28,29,30,31],[0,1,2,3,4,5,6,7,8,9,14,15,16,17,18,19,20,21,22,23,24,25,26,27,28,29,30,31,32],(lr 34),(lr 35),(lr 36)],[.ref 0 0 2,vb x8.2.1,vb x8.2.1,.when x8.2.1 (vi (gI x8.1.1 a2)),.when x8.2.1 (vb ((gI x8.1.1 a2) != (0:Int))),vb (x8.2.1 && ((gI x8.1.1 a2) != (0:Int))),vb (x8.2.1 && ((gI x8.1.1 a2) != (0:Int))),.when (x8.2.1 && ((gI x8.1.1 a2) != (0:Int))) (vi x3),.when (x8.2.1 && ((gI x8.1.1 a2) != (0:Int))) (vb (decide (x3 < (0:Int)))),.when (x8.2.1 && ((gI x8.1.1 a2) != (0:Int))) (vb (decide (x3 < (0:Int)))),.when ((x8.2.1 && ((gI x8.1.1 a2) != (0:Int))) && (!(decide (x3 < (0:Int))))) (vi (gI x8.1.1 a2)),.when ((x8.2.1 && ((gI x8.1.1 a2) != (0:Int))) && (!(decide (x3 < (0:Int))))) (vi (gI x8.1.1 a2)),.when ((x8.2.1 && ((gI x8.1.1 a2) != (0:Int))) && (!(decide (x3 < (0:Int))))) (vi (-(gI x8.1.1 a2))),.when ((x8.2.1 && ((gI x8.1.1 a2) != (0:Int))) && (!(decide (x3 < (0:Int))))) (vi (if (-(gI x8.1.1 a2)) > (gI x8.1.1 a2) then (-(gI x8.1.1 a2)) else (gI x8.1.1 a2))),.when ((x8.2.1 && ((gI x8.1.1 a2) != (0:Int))) && (!(decide (x3 < (0:Int))))) (.d (.sl t_ref09_Row) a1),.when ((x8.2.1 && ((gI x8.1.1 a2) != (0:Int))) && (!(decide (x3 < (0:Int))))) (vi x3),.when ((x8.2.1 && ((gI x8.1.1 a2) != (0:Int))) && (!(decide (x3 < (0:Int))))) (.er (c_ref09_Row (a1.getD (Int.toNat x3) d_ref09_Row))),.when ((x8.2.1 && ((gI x8.1.1 a2) != (0:Int))) && (!(decide (x3 < (0:Int))))) (.er (c_ref09_Row (a1.getD (Int.toNat x3) d_ref09_Row))),.when ((x8.2.1 && ((gI x8.1.1 a2) != (0:Int))) && (!(decide (x3 < (0:Int))))) (.er (c_ref09_Row (a1.getD (Int.toNat x3) d_ref09_Row))),.when ((x8.2.1 && ((gI x8.1.1 a2) != (0:Int))) && (!(decide (x3 < (0:Int))))) (vs (((a1.getD (Int.toNat x3) d_ref09_Row).1).1)),.when ((x8.2.1 && ((gI x8.1.1 a2) != (0:Int))) && (!(decide (x3 < (0:Int))))) (vi a2),.when ((x8.2.1 && ((gI x8.1.1 a2) != (0:Int))) && (!(decide (x3 < (0:Int))))) (.er [vi (gI (((a1.getD (Int.toNat x3) d_ref09_Row).1).1) a2)]),.when ((x8.2.1 && ((gI x8.1.1 a2) != (0:Int))) && (!(decide (x3 < (0:Int))))) (vi (gI (((a1.getD (Int.toNat x3) d_ref09_Row).1).1) a2)),.when ((x8.2.1 && ((gI x8.1.1 a2) != (0:Int))) && (!(decide (x3 < (0:Int))))) (.d (.sl t_ref09_Row) a1),.when ((x8.2.1 && ((gI x8.1.1 a2) != (0:Int))) && (!(decide (x3 < (0:Int))))) (vi x3),.when ((x8.2.1 && ((gI x8.1.1 a2) != (0:Int))) && (!(decide (x3 < (0:Int))))) (.er (c_ref09_Row (a1.getD (Int.toNat x3) d_ref09_Row))),.when ((x8.2.1 && ((gI x8.1.1 a2) != (0:Int))) && (!(decide (x3 < (0:Int))))) (.er (c_ref09_Row (a1.getD (Int.toNat x3) d_ref09_Row))),.when ((x8.2.1 && ((gI x8.1.1 a2) != (0:Int))) && (!(decide (x3 < (0:Int))))) (.er (c_ref09_Row (a1.getD (Int.toNat x3) d_ref09_Row))),.when ((x8.2.1 && ((gI x8.1.1 a2) != (0:Int))) && (!(decide (x3 < (0:Int))))) (vs (((a1.getD (Int.toNat x3) d_ref09_Row).1).1)),.when ((x8.2.1 && ((gI x8.1.1 a2) != (0:Int))) && (!(decide (x3 < (0:Int))))) (vi a2),.when ((x8.2.1 && ((gI x8.1.1 a2) != (0:Int))) && (!(decide (x3 < (0:Int))))) (.er [vi (gI (((a1.getD (Int.toNat x3) d_ref09_Row).1).1) a2)]),.when ((x8.2.1 && ((gI x8.1.1 a2) != (0:Int))) && (!(decide (x3 < (0:Int))))) (vi (gI (((a1.getD (Int.toNat x3) d_ref09_Row).1).1) a2)),.when ((x8.2.1 && ((gI x8.1.1 a2) != (0:Int))) && (!(decide (x3 < (0:Int))))) (vi (-(gI (((a1.getD (Int.toNat x3) d_ref09_Row).1).1) a2))),.when ((x8.2.1 && ((gI x8.1.1 a2) != (0:Int))) && (!(decide (x3 < (0:Int))))) (vi (if (-(gI (((a1.getD (Int.toNat x3) d_ref09_Row).1).1) a2)) > (gI (((a1.getD (Int.toNat x3) d_ref09_Row).1).1) a2) then (-(gI (((a1.getD (Int.toNat x3) d_ref09_Row).1).1) a2)) else (gI (((a1.getD (Int.toNat x3) d_ref09_Row).1).1) a2))),.when ((x8.2.1 && ((gI x8.1.1 a2) != (0:Int))) && (!(decide (x3 < (0:Int))))) (vb (decide ((if (-(gI x8.1.1 a2)) > (gI x8.1.1 a2) then (-(gI x8.1.1 a2)) else (gI x8.1.1 a2)) < (if (-(gI (((a1.getD (Int.toNat x3) d_ref09_Row).1).1) a2)) > (gI (((a1.getD (Int.toNat x3) d_ref09_Row).1).1) a2) then (-(gI (((a1.getD (Int.toNat x3) d_ref09_Row).1).1) a2)) else (gI (((a1.getD (Int.toNat x3) d_ref09_Row).1).1) a2))))),.when (x8.2.1 && ((gI x8.1.1 a2) != (0:Int))) (vb ((decide (x3 < (0:Int))) || (decide ((if (-(gI x8.1.1 a2)) > (gI x8.1.1 a2) then (-(gI x8.1.1 a2)) else (gI x8.1.1 a2)) < (if (-(gI (((a1.getD (Int.toNat x3) d_ref09_Row).1).1) a2)) > (gI (((a1.getD (Int.toNat x3) d_ref09_Row).1).1) a2) then (-(gI (((a1.getD (Int.toNat x3) d_ref09_Row).1).1) a2)) else (gI (((a1.getD (Int.toNat x3) d_ref09_Row).1).1) a2)))))),vb ((x8.2.1 && ((gI x8.1.1 a2) != (0:Int))) && ((decide (x3 < (0:Int))) || (decide ((if (-(gI x8.1.1 a2)) > (gI x8.1.1 a2) then (-(gI x8.1.1 a2)) else (gI x8.1.1 a2)) < (if (-(gI (((a1.getD (Int.toNat x3) d_ref09_Row).1).1) a2)) > (gI (((a1.getD (Int.toNat x3) d_ref09_Row).1).1) a2) then (-(gI (((a1.getD (Int.toNat x3) d_ref09_Row).1).1) a2)) else (gI (((a1.getD (Int.toNat x3) d_ref09_Row).1).1) a2))))))],_,[],[([],[.box (c_ref09_Row x8)])],[],[]⟩ ⟨257,[(0,.d (.sl t_ref09_Row) a1),(1,vi a2),(6,vi x3),(7,vi x4),(32,.d (.sl t_ref09_Row) a1),(33,vi (a1.length:Int)),(34,vi x4),(81,vb ((x8.2.1 && ((gI x8.1.1 a2) != (0:Int))) && ((decide (x3 < (0:Int))) || (decide ((if (-(gI x8.1.1 a2)) > (gI x8.1.1 a2) then (-(gI x8.1.1 a2)) else (gI x8.1.1 a2)) < (if (-(gI (((a1.getD (Int.toNat x3) d_ref09_Row).1).1) a2)) > (gI (((a1.getD (Int.toNat x3) d_ref09_Row).1).1) a2) then (-(gI (((a1.getD (Int.toNat x3) d_ref09_Row).1).1) a2)) else (gI (((a1.getD (Int.toNat x3) d_ref09_Row).1).1) a2)))))))],[.box (c_ref09_Row x8)]⟩ (.n (.n (.n (.n (.s (fun hg => ⟨hg,trivial⟩ : x8.2.1 = true → x8.2.1 = true ∧ True) (.s (fun hc => hc : x8.2.1 = true → x8.2.1 = true) (.n (.n (.s (fun hg => ⟨hg,trivial⟩ : (x8.2.1 && ((gI x8.1.1 a2) != (0:Int))) = true → (x8.2.1 && ((gI x8.1.1 a2) != (0:Int))) = true ∧ True) (.s (fun hg => ⟨hg,trivial⟩ : (x8.2.1 && ((gI x8.1.1 a2) != (0:Int))) = true → (x8.2.1 && ((gI x8.1.1 a2) != (0:Int))) = true ∧ True) (.n (.n (.s (fun hg => ⟨hg,(o3 hg)⟩ : ((x8.2.1 && ((gI x8.1.1 a2) != (0:Int))) && (!(decide (x3 < (0:Int))))) = true → ((x8.2.1 && ((gI x8.1.1 a2) != (0:Int))) && (!(decide (x3 < (0:Int))))) = true ∧ (-9223372036854775808 ≤ -(gI x8.1.1 a2) ∧ -(gI x8.1.1 a2) ≤ 9223372036854775807)) (.s (fun hg => ⟨hg,hg,trivial⟩ : ((x8.2.1 && ((gI x8.1.1 a2) != (0:Int))) && (!(decide (x3 < (0:Int))))) = true → ((x8.2.1 && ((gI x8.1.1 a2) != (0:Int))) && (!(decide (x3 < (0:Int))))) = true ∧ (((x8.2.1 && ((gI x8.1.1 a2) != (0:Int))) && (!(decide (x3 < (0:Int))))) = true ∧ True)) (.n (.n (.s (fun hg => ⟨hg,hg,(o4 hg)⟩ : ((x8.2.1 && ((gI x8.1.1 a2) != (0:Int))) && (!(decide (x3 < (0:Int))))) = true → ((x8.2.1 && ((gI x8.1.1 a2) != (0:Int))) && (!(decide (x3 < (0:Int))))) = true ∧ (((x8.2.1 && ((gI x8.1.1 a2) != (0:Int))) && (!(decide (x3 < (0:Int))))) = true ∧ ((0:Int) ≤ x3 ∧ x3 < (a1.length:Int)))) (.s (fun hg => ⟨hg,trivial⟩ : ((x8.2.1 && ((gI x8.1.1 a2) != (0:Int))) && (!(decide (x3 < (0:Int))))) = true → ((x8.2.1 && ((gI x8.1.1 a2) != (0:Int))) && (!(decide (x3 < (0:Int))))) = true ∧ True) (.s (fun hg => ⟨hg,trivial⟩ : ((x8.2.1 && ((gI x8.1.1 a2) != (0:Int))) && (!(decide (x3 < (0:Int))))) = true → ((x8.2.1 && ((gI x8.1.1 a2) != (0:Int))) && (!(decide (x3 < (0:Int))))) = true ∧ True) (.s (fun hg => ⟨hg,trivial⟩ : ((x8.2.1 && ((gI x8.1.1 a2) != (0:Int))) && (!(decide (x3 < (0:Int))))) = true → ((x8.2.1 && ((gI x8.1.1 a2) != (0:Int))) && (!(decide (x3 < (0:Int))))) = true ∧ True) (.n (.s (fun hg => ⟨hg,hg,(o5 hg)⟩ : ((x8.2.1 && ((gI x8.1.1 a2) != (0:Int))) && (!(decide (x3 < (0:Int))))) = true → ((x8.2.1 && ((gI x8.1.1 a2) != (0:Int))) && (!(decide (x3 < (0:Int))))) = true ∧ (((x8.2.1 && ((gI x8.1.1 a2) != (0:Int))) && (!(decide (x3 < (0:Int))))) = true ∧ ((0:Int) ≤ a2 ∧ a2 < ((((a1.getD (Int.toNat x3) d_ref09_Row).1).1).length:Int)))) (.s (fun hg => ⟨hg,trivial⟩ : ((x8.2.1 && ((gI x8.1.1 a2) != (0:Int))) && (!(decide (x3 < (0:Int))))) = true → ((x8.2.1 && ((gI x8.1.1 a2) != (0:Int))) && (!(decide (x3 < (0:Int))))) = true ∧ True) (.n (.n (.s (fun hg => ⟨hg,hg,(o6 hg)⟩ : ((x8.2.1 && ((gI x8.1.1 a2) != (0:Int))) && (!(decide (x3 < (0:Int))))) = true → ((x8.2.1 && ((gI x8.1.1 a2) != (0:Int))) && (!(decide (x3 < (0:Int))))) = true ∧ (((x8.2.1 && ((gI x8.1.1 a2) != (0:Int))) && (!(decide (x3 < (0:Int))))) = true ∧ ((0:Int) ≤ x3 ∧ x3 < (a1.length:Int)))) (.s (fun hg => ⟨hg,trivial⟩ : ((x8.2.1 && ((gI x8.1.1 a2) != (0:Int))) && (!(decide (x3 < (0:Int))))) = true → ((x8.2.1 && ((gI x8.1.1 a2) != (0:Int))) && (!(decide (x3 < (0:Int))))) = true ∧ True) (.s (fun hg => ⟨hg,trivial⟩ : ((x8.2.1 && ((gI x8.1.1 a2) != (0:Int))) && (!(decide (x3 < (0:Int))))) = true → ((x8.2.1 && ((gI x8.1.1 a2) != (0:Int))) && (!(decide (x3 < (0:Int))))) = true ∧ True) (.s (fun hg => ⟨hg,trivial⟩ : ((x8.2.1 && ((gI x8.1.1 a2) != (0:Int))) && (!(decide (x3 < (0:Int))))) = true → ((x8.2.1 && ((gI x8.1.1 a2) != (0:Int))) && (!(decide (x3 < (0:Int))))) = true ∧ True) (.n (.s (fun hg => ⟨hg,hg,(o7 hg)⟩ : ((x8.2.1 && ((gI x8.1.1 a2) != (0:Int))) && (!(decide (x3 < (0:Int))))) = true → ((x8.2.1 && ((gI x8.1.1 a2) != (0:Int))) && (!(decide (x3 < (0:Int))))) = true ∧ (((x8.2.1 && ((gI x8.1.1 a2) != (0:Int))) && (!(decide (x3 < (0:Int))))) = true ∧ ((0:Int) ≤ a2 ∧ a2 < ((((a1.getD (Int.toNat x3) d_ref09_Row).1).1).length:Int)))) (.s (fun hg => ⟨hg,trivial⟩ : ((x8.2.1 && ((gI x8.1.1 a2) != (0:Int))) && (!(decide (x3 < (0:Int))))) = true → ((x8.2.1 && ((gI x8.1.1 a2) != (0:Int))) && (!(decide (x3 < (0:Int))))) = true ∧ True) (.s (fun hg => ⟨hg,(o8 hg)⟩ : ((x8.2.1 && ((gI x8.1.1 a2) != (0:Int))) && (!(decide (x3 < (0:Int))))) = true → ((x8.2.1 && ((gI x8.1.1 a2) != (0:Int))) && (!(decide (x3 < (0:Int))))) = true ∧ (-9223372036854775808 ≤ -(gI (((a1.getD (Int.toNat x3) d_ref09_Row).1).1) a2) ∧ -(gI (((a1.getD (Int.toNat x3) d_ref09_Row).1).1) a2) ≤ 9223372036854775807)) (.s (fun hg => ⟨hg,hg,trivial⟩ : ((x8.2.1 && ((gI x8.1.1 a2) != (0:Int))) && (!(decide (x3 < (0:Int))))) = true → ((x8.2.1 && ((gI x8.1.1 a2) != (0:Int))) && (!(decide (x3 < (0:Int))))) = true ∧ (((x8.2.1 && ((gI x8.1.1 a2) != (0:Int))) && (!(decide (x3 < (0:Int))))) = true ∧ True)) (.s (fun hg => ⟨hg,hg,trivial⟩ : ((x8.2.1 && ((gI x8.1.1 a2) != (0:Int))) && (!(decide (x3 < (0:Int))))) = true → ((x8.2.1 && ((gI x8.1.1 a2) != (0:Int))) && (!(decide (x3 < (0:Int))))) = true ∧ (((x8.2.1 && ((gI x8.1.1 a2) != (0:Int))) && (!(decide (x3 < (0:Int))))) = true ∧ True)) (.s (fun hg => ⟨hg,fun hc => and_f hg hc⟩ : (x8.2.1 && ((gI x8.1.1 a2) != (0:Int))) = true → (x8.2.1 && ((gI x8.1.1 a2) != (0:Int))) = true ∧ ((decide (x3 < (0:Int))) = false → ((x8.2.1 && ((gI x8.1.1 a2) != (0:Int))) && (!(decide (x3 < (0:Int))))) = true)) (.s (fun hc => hc : (x8.2.1 && ((gI x8.1.1 a2) != (0:Int))) = true → (x8.2.1 && ((gI x8.1.1 a2) != (0:Int))) = true) AllO.e))))))))))))))))))))))))))))))))))))) (tc (?_))
    refine awp_cond (b := (x8.2.1 && ((gI x8.1.1 a2) != (0:Int))) && ((decide (x3 < (0:Int))) || (decide ((if (-(gI x8.1.1 a2)) > (gI x8.1.1 a2) then (-(gI x8.1.1 a2)) else (gI x8.1.1 a2)) < (if (-(gI (((a1.getD (Int.toNat x3) d_ref09_Row).1).1) a2)) > (gI (((a1.getD (Int.toNat x3) d_ref09_Row).1).1) a2) then (-(gI (((a1.getD (Int.toNat x3) d_ref09_Row).1).1) a2)) else (gI (((a1.getD (Int.toNat x3) d_ref09_Row).1).1) a2)))))) (by kernel_rfl) (fun hb => ?_) (fun hb => ?_)
    · replace h := h.1 (hb)
      obtain ⟨o9,h⟩ := h
      refine rc [0,1,6,32,33,34] [] [] [] ⟨257,[(0,.d (.sl t_ref09_Row) a1),(1,vi a2),(6,vi x4),(32,.d (.sl t_ref09_Row) a1),(33,vi (a1.length:Int)),(34,vi x4)],[.box (c_ref09_Row x8)]⟩ (pe) (te ((te ((te ((blk_n (tc ((rc [0,1,6,32,33,34] [] [] [] ⟨257,[(0,.d (.sl t_ref09_Row) a1),(1,vi a2),(6,vi x4),(32,.d (.sl t_ref09_Row) a1),(33,vi (a1.length:Int)),(34,vi (x4 + (1:Int)))],[.box (c_ref09_Row x8)]⟩ (pn o9 pe) (te ((te ((te ((then_n (?_))))))))))))))))))
      obtain ⟨m,hm,h⟩ := h
      exact ⟨m,hm,⟨257,[(0,.d (.sl t_ref09_Row) a1),(1,vi a2),(6,vi x4),(32,.d (.sl t_ref09_Row) a1),(33,vi (a1.length:Int)),(34,vi (x4 + (1:Int)))],[]⟩,wk_ghosts hk (l := [.keep [0,1,6,32,33,34],.cut 0,.keep [0,1,6,32,33,34]]) (by kernel_rfl),x4,x4 + (1:Int),h,rfl⟩
    · replace h := h.2 (hb)
      obtain ⟨o10,h⟩ := h
      refine awp_skip (te ((te ((te ((blk_n (tc ((rc [0,1,6,32,33,34] [] [] [] ⟨257,[(0,.d (.sl t_ref09_Row) a1),(1,vi a2),(6,vi x3),(32,.d (.sl t_ref09_Row) a1),(33,vi (a1.length:Int)),(34,vi (x4 + (1:Int)))],[.box (c_ref09_Row x8)]⟩ (pn o10 pe) (te ((te ((te ((then_n (?_))))))))))))))))))
      obtain ⟨m,hm,h⟩ := h
      exact ⟨m,hm,⟨257,[(0,.d (.sl t_ref09_Row) a1),(1,vi a2),(6,vi x3),(32,.d (.sl t_ref09_Row) a1),(33,vi (a1.length:Int)),(34,vi (x4 + (1:Int)))],[]⟩,wk_ghosts hk (l := [.keep [0,1,6,32,33,34],.cut 0,.keep [0,1,6,32,33,34]]) (by kernel_rfl),x3,x4 + (1:Int),h,rfl⟩
  · replace h := h.2 (of_decide_eq_false hb)
    obtain ⟨R10,hA10,hB10⟩ := h
    refine awp_exit (then_x (then_x (then_x (blk_h (tc ((awp_spine (rc [0,1,6,10] [] [] [] ⟨257,[(0,.d (.sl t_ref09_Row) a1),(1,vi a2),(6,vi x3),(10,.nils)],[]⟩ (pe) (tc ((awp_spine (rc [0,1,6,10,85] [] [] [] ⟨257,[(0,.d (.sl t_ref09_Row) a1),(1,vi a2),(6,vi x3),(10,.nils),(85,vb (decide (x3 ≥ (0:Int))))],[]⟩ (pe) (tc ((awp_meet (fun s' => ∃ (x9 : (List ref09_Row)),R10 x9 ∧ Wk cx s' ⟨257,[(10,.d (.sl t_ref09_Row) x9)],[]⟩) ?_ ?_)))))))))))))))
    · have h := hA10
      refine awp_cond (b := decide (x3 ≥ (0:Int))) (by kernel_rfl) (fun hb => ?_) (fun hb => ?_)
      · replace h := h.1 (of_decide_eq_true hb)
        obtain ⟨o11,h⟩ := h
        refine awp_spine (rc [0,1,6,10,11] [] [] [] ⟨257,[(0,.d (.sl t_ref09_Row) a1),(1,vi a2),(6,vi x3),(10,.nils),(11,.ref 0 0 0)],[.box (c_ref09_Row (a1.getD (Int.toNat x3) d_ref09_Row))]⟩ (pn o11 pe) (tc ((awp_abs (fun (x11 : ref09_Row) => ⟨257,[(0,.d (.sl t_ref09_Row) a1),(1,vi a2),(6,vi x3),(10,.nils),(11,.ref 0 0 0)],[.box (c_ref09_Row x11)]⟩) (a1.getD (Int.toNat x3) d_ref09_Row) ?_))))
        intro x11 hx11
        replace h := h x11 hx11
        obtain ⟨o12,h⟩ := h
        obtain ⟨R13,hA13,hB13⟩ := h
        refine awp_spine (rc [0,1,6,10,11,12] [] [] [] ⟨257,[(0,.d (.sl t_ref09_Row) a1),(1,vi a2),(6,vi x3),(10,.nils),(11,.ref 0 0 0),(12,vi (gI x11.1.1 a2))],[.box (c_ref09_Row x11)]⟩ (pn o12 pe) (tc ((awp_spine (rc [0,1,6,10,11,12,13] [] [] [] ⟨257,[(0,.d (.sl t_ref09_Row) a1),(1,vi a2),(6,vi x3),(10,.nils),(11,.ref 0 0 0),(12,vi (gI x11.1.1 a2)),(13,vi (1:Int))],[.box (c_ref09_Row x11)]⟩ (pe) (tc ((awp_spine (rc [0,1,6,10,11,12,13,97] [] [] [] ⟨257,[(0,.d (.sl t_ref09_Row) a1),(1,vi a2),(6,vi x3),(10,.nils),(11,.ref 0 0 0),(12,vi (gI x11.1.1 a2)),(13,vi (1:Int)),(97,vb (decide ((gI x11.1.1 a2) < (0:Int))))],[.box (c_ref09_Row x11)]⟩ (pe) (tc ((awp_meet (fun s' => ∃ (x12:Int),R13 x12 ∧ Wk cx s' ⟨257,[(0,.d (.sl t_ref09_Row) a1),(1,vi a2),(6,vi x3),(10,.nils),(11,.ref 0 0 0),(12,vi (gI x11.1.1 a2)),(13,vi x12)],[.box (c_ref09_Row x11)]⟩) ?_ ?_))))))))))))
        · have h := hA13
          refine awp_cond (b := decide ((gI x11.1.1 a2) < (0:Int))) (by kernel_rfl) (fun hb => ?_) (fun hb => ?_)
          · replace h := h.1 (of_decide_eq_true hb)
            refine rc [0,1,6,10,11,12,13] [] [] [] ⟨257,[(0,.d (.sl t_ref09_Row) a1),(1,vi a2),(6,vi x3),(10,.nils),(11,.ref 0 0 0),(12,vi (gI x11.1.1 a2)),(13,vi (-1))],[.box (c_ref09_Row x11)]⟩ (pe) (then_n (?_))
            exact ⟨(-1),h,wk_ghosts hk (l := [.keep [0,1,6,10,11,12,13]]) (by kernel_rfl)⟩
          · replace h := h.2 (of_decide_eq_false hb)
            refine awp_skip (then_n (?_))
            exact ⟨1,h,wk_ghosts hk (l := [.keep [0,1,6,10,11,12,13]]) (by kernel_rfl)⟩
        · rintro s' ⟨x12,hx13,hw13⟩
          have h := hB13 x12 hx13
          refine spine_c (awp_wk hw13 (awp_spine (rc [1,6,10,11,12,13,98,99,100] [] [] [] ⟨257,[(1,vi a2),(6,vi x3),(10,.nils),(11,.ref 0 0 0),(12,vi (gI x11.1.1 a2)),(13,vi x12),(98,.d (.sl t_ref09_Row) a1),(99,vi (a1.length:Int)),(100,vi 0)],[.box (c_ref09_Row x11)]⟩ (pe) (tc ((awp_len 98 [] (T := t_ref09_Row) (l := a1) (by kernel_rfl) fun hl => ?_))))))
          replace h := h hl
          obtain ⟨I20,⟨n20a,hz20⟩,hI20⟩ := h
          refine awp_block (awp_loopN (fun n s => ∃ (x16:Int) (x17 : (List ref09_Row)),I20 n x16 x17 ∧ s = ⟨257,[(1,vi a2),(6,vi x3),(10,.osl 1 0),(11,.ref 0 0 0),(12,vi (gI x11.1.1 a2)),(13,vi x12),(98,.d (.sl t_ref09_Row) a1),(99,vi (a1.length:Int)),(100,vi x16)],[.box (c_ref09_Row x11),.row t_ref09_Row x17 0]⟩) (n := n20a) (s0 := ⟨257,[(1,vi a2),(6,vi x3),(10,.osl 1 0),(11,.ref 0 0 0),(12,vi (gI x11.1.1 a2)),(13,vi x12),(98,.d (.sl t_ref09_Row) a1),(99,vi (a1.length:Int)),(100,vi 0)],[.box (c_ref09_Row x11),.row t_ref09_Row ([] : List ref09_Row) 0]⟩) (wk_ghosts hk (l := [.keep [1,6,10,11,12,13,98,99,100],.adopt 10 t_ref09_Row,.keep [1,6,10,11,12,13,98,99,100]]) (by kernel_rfl)) ⟨0,([] : List ref09_Row),hz20,rfl⟩ ?_)
          rintro n20 s ⟨x16,x17,hx20,rfl⟩
          have h := hI20 n20 x16 x17 hx20
          refine awp_spine (rc [1,6,10,11,12,13,98,99,100,101] [] [] [] ⟨257,[(1,vi a2),(6,vi x3),(10,.osl 1 0),(11,.ref 0 0 0),(12,vi (gI x11.1.1 a2)),(13,vi x12),(98,.d (.sl t_ref09_Row) a1),(99,vi (a1.length:Int)),(100,vi x16),(101,vb (decide (x16 < (a1.length:Int))))],[.box (c_ref09_Row x11),.row t_ref09_Row x17 0]⟩ (pe) (tc ((awp_spine (awp_cond (b := decide (x16 < (a1.length:Int))) (by kernel_rfl) (fun hb => ?_) (fun hb => ?_))))))
          · replace h := h.1 (of_decide_eq_true hb)
            obtain ⟨o13,h⟩ := h
            refine awp_skip (tc ((awp_spine (awp_block (awp_spine (rc [1,6,10,11,12,13,14,15,98,99,100] [] [] [] ⟨257,[(1,vi a2),(6,vi x3),(10,.osl 1 0),(11,.ref 0 0 0),(12,vi (gI x11.1.1 a2)),(13,vi x12),(14,vi x16),(15,.ref 2 0 0),(98,.d (.sl t_ref09_Row) a1),(99,vi (a1.length:Int)),(100,vi x16)],[.box (c_ref09_Row x11),.row t_ref09_Row x17 0,.box (c_ref09_Row (a1.getD (Int.toNat x16) d_ref09_Row))]⟩ (pn o13 pe) (tc ((awp_abs (fun (x21 : ref09_Row) => ⟨257,[(1,vi a2),(6,vi x3),(10,.osl 1 0),(11,.ref 0 0 0),(12,vi (gI x11.1.1 a2)),(13,vi x12),(14,vi x16),(15,.ref 2 0 0),(98,.d (.sl t_ref09_Row) a1),(99,vi (a1.length:Int)),(100,vi x16)],[.box (c_ref09_Row x11),.row t_ref09_Row x17 0,.box (c_ref09_Row x21)]⟩) (a1.getD (Int.toNat x16) d_ref09_Row) ?_)))))))))
            intro x21 hx21
            replace h := h x21 hx21
            refine awp_block (awp_spine (rc [1,6,10,11,12,13,15,98,99,100,124] [] [] [] ⟨257,[(1,vi a2),(6,vi x3),(10,.osl 1 0),(11,.ref 0 0 0),(12,vi (gI x11.1.1 a2)),(13,vi x12),(15,.ref 2 0 0),(98,.d (.sl t_ref09_Row) a1),(99,vi (a1.length:Int)),(100,vi x16),(124,vb (x16 == x3))],[.box (c_ref09_Row x11),.row t_ref09_Row x17 0,.box (c_ref09_Row x21)]⟩ (pe) (tc ((awp_cond (b := x16 == x3) (by kernel_rfl) (fun hb => ?_) (fun hb => ?_))))))
            · replace h := h.1 (eq_of_beq hb)
              obtain ⟨o14,h⟩ := h
              refine awp_skip (te ((blk_n (te ((blk_n (tc ((rc [1,6,10,11,12,13,98,99,100] [] [] [] ⟨257,[(1,vi a2),(6,vi x3),(10,.osl 1 0),(11,.ref 0 0 0),(12,vi (gI x11.1.1 a2)),(13,vi x12),(98,.d (.sl t_ref09_Row) a1),(99,vi (a1.length:Int)),(100,vi (x16 + (1:Int)))],[.box (c_ref09_Row x11),.row t_ref09_Row x17 0,.box (c_ref09_Row x21)]⟩ (pn o14 pe) (te ((te ((te ((then_n (?_)))))))))))))))))
              obtain ⟨m,hm,h⟩ := h
              exact ⟨m,hm,⟨257,[(1,vi a2),(6,vi x3),(10,.osl 1 0),(11,.ref 0 0 0),(12,vi (gI x11.1.1 a2)),(13,vi x12),(98,.d (.sl t_ref09_Row) a1),(99,vi (a1.length:Int)),(100,vi (x16 + (1:Int)))],[.box (c_ref09_Row x11),.row t_ref09_Row x17 0]⟩,wk_ghosts hk (l := [.keep [1,6,10,11,12,13,98,99,100],.cut 2,.keep [1,6,10,11,12,13,98,99,100]]) (by kernel_rfl),x16 + (1:Int),x17,h,rfl⟩
            · replace h := h.2 (ne_of_beq_false hb)
              obtain ⟨o15,h⟩ := h
              refine awp_spine (rc [1,6,10,11,12,13,15,98,99,100,128] [] [] [] ⟨257,[(1,vi a2),(6,vi x3),(10,.osl 1 0),(11,.ref 0 0 0),(12,vi (gI x11.1.1 a2)),(13,vi x12),(15,.ref 2 0 0),(98,.d (.sl t_ref09_Row) a1),(99,vi (a1.length:Int)),(100,vi x16),(128,vb ((gI x21.1.1 a2) == (0:Int)))],[.box (c_ref09_Row x11),.row t_ref09_Row x17 0,.box (c_ref09_Row x21)]⟩ (pn o15 pe) (tc ((awp_cond (b := (gI x21.1.1 a2) == (0:Int)) (by kernel_rfl) (fun hb => ?_) (fun hb => ?_)))))
              · replace h := h.1 (eq_of_beq hb)
                obtain ⟨o16,h⟩ := h
                obtain ⟨o17,h⟩ := h
                refine rc [1,6,10,11,12,13,98,99,100] [] [] [2] ⟨257,[(1,vi a2),(6,vi x3),(10,.osl 1 1),(11,.ref 0 0 0),(12,vi (gI x11.1.1 a2)),(13,vi x12),(98,.d (.sl t_ref09_Row) a1),(99,vi (a1.length:Int)),(100,vi x16)],[.box (c_ref09_Row x11),.row t_ref09_Row (x17 ++ [x21]) 1,.box (c_ref09_Row x21)]⟩ (pn (by decide : 1 * 4 ≤ 16777216) (pn o16 pe)) (te ((te ((blk_n (te ((blk_n (tc ((rc [1,6,10,11,12,13,98,99,100] [] [] [] ⟨257,[(1,vi a2),(6,vi x3),(10,.osl 1 1),(11,.ref 0 0 0),(12,vi (gI x11.1.1 a2)),(13,vi x12),(98,.d (.sl t_ref09_Row) a1),(99,vi (a1.length:Int)),(100,vi (x16 + (1:Int)))],[.box (c_ref09_Row x11),.row t_ref09_Row (x17 ++ [x21]) 1,.box (c_ref09_Row x21)]⟩ (pn o17 pe) (te ((te ((te ((then_n (?_)))))))))))))))))))
                obtain ⟨m,hm,h⟩ := h
                exact ⟨m,hm,⟨257,[(1,vi a2),(6,vi x3),(10,.osl 1 0),(11,.ref 0 0 0),(12,vi (gI x11.1.1 a2)),(13,vi x12),(98,.d (.sl t_ref09_Row) a1),(99,vi (a1.length:Int)),(100,vi (x16 + (1:Int)))],[.box (c_ref09_Row x11),.row t_ref09_Row (x17 ++ [x21]) 0]⟩,wk_ghosts hk (l := [.keep [1,6,10,11,12,13,98,99,100],.cut 2,.reset 1,.keep [1,6,10,11,12,13,98,99,100]]) (by kernel_rfl),x16 + (1:Int),x17 ++ [x21],h,rfl⟩
              · replace h := h.2 (ne_of_beq_false hb)
                obtain ⟨o18,o19,o20,o21,o22,o23,h⟩ := h
                refine dr hk [1,6,10,11,12,13,98,99,100] [] [16] [17] ⟨[[],[],[],[2],[1,2,3],[],[],[6],[],[8],[8,9],[],[8,9,10,11],[8,9,10,11,12],[6,7,8,9,10,11,12,13],[],[1,2,3,4,5,6,7,8,9,10,11,12,13,14,15],[1,2,3,4,5,6,7,8,9,10,11,12,13,14,15,16],(lr 18),(lr 19)],[.osl 1 0,vi (gI x11.1.1 a2),vi (gI x11.1.1 a2),vi (-(gI x11.1.1 a2)),vi (if (-(gI x11.1.1 a2)) > (gI x11.1.1 a2) then (-(gI x11.1.1 a2)) else (gI x11.1.1 a2)),.agg (c_ref09_Row x21),vi x12,vi (-x12),.ref 2 0 0,.ref 2 0 0,vs x21.1.1,vi a2,.er [vi (gI x21.1.1 a2)],vi (gI x21.1.1 a2),vi ((-x12) * (gI x21.1.1 a2)),.agg (c_ref09_Row x11),.agg (c_ref09_Row (ref09_mix.fn (if (-(gI x11.1.1 a2)) > (gI x11.1.1 a2) then (-(gI x11.1.1 a2)) else (gI x11.1.1 a2)) x21 ((-x12) * (gI x21.1.1 a2)) x11)),.d (.sl t_ref09_Row) [ref09_mix.fn (if (-(gI x11.1.1 a2)) > (gI x11.1.1 a2) then (-(gI x11.1.1 a2)) else (gI x11.1.1 a2)) x21 ((-x12) * (gI x21.1.1 a2)) x11],.osl 1 1,.osl 1 1],_,[18],[([],[.box (c_ref09_Row x11),.row t_ref09_Row x17 0,.box (c_ref09_Row x21)]),([18],[.box (c_ref09_Row x11),.row t_ref09_Row (x17 ++ [ref09_mix.fn (if (-(gI x11.1.1 a2)) > (gI x11.1.1 a2) then (-(gI x11.1.1 a2)) else (gI x11.1.1 a2)) x21 ((-x12) * (gI x21.1.1 a2)) x11]) 1,.box (c_ref09_Row x21)])],[],[]⟩ ⟨257,[(1,vi a2),(6,vi x3),(10,.osl 1 1),(11,.ref 0 0 0),(12,vi (gI x11.1.1 a2)),(13,vi x12),(98,.d (.sl t_ref09_Row) a1),(99,vi (a1.length:Int)),(100,vi x16)],[.box (c_ref09_Row x11),.row t_ref09_Row (x17 ++ [ref09_mix.fn (if (-(gI x11.1.1 a2)) > (gI x11.1.1 a2) then (-(gI x11.1.1 a2)) else (gI x11.1.1 a2)) x21 ((-x12) * (gI x21.1.1 a2)) x11]) 1,.box (c_ref09_Row x21)]⟩ (.n (.n (.n (.s o18 (.n (.n (.n (.s o19 (.n (.n (.n (.n (.s o20 (.n (.s o21 (.n (.s (ok_ref09_mix (if (-(gI x11.1.1 a2)) > (gI x11.1.1 a2) then (-(gI x11.1.1 a2)) else (gI x11.1.1 a2)) x21 ((-x12) * (gI x21.1.1 a2)) x11 (o22)) (.s (by decide : 1 * 4 ≤ 16777216) (.s o23 (.n AllO.e)))))))))))))))))))) (te ((te ((blk_n (te ((blk_n (tc ((awp_abs (fun (x22 : (List ref09_Row)) => ⟨257,[(1,vi a2),(6,vi x3),(10,.osl 1 1),(11,.ref 0 0 0),(12,vi (gI x11.1.1 a2)),(13,vi x12),(98,.d (.sl t_ref09_Row) a1),(99,vi (a1.length:Int)),(100,vi x16)],[.box (c_ref09_Row x11),.row t_ref09_Row x22 1,.box (c_ref09_Row x21)]⟩) (x17 ++ [ref09_mix.fn (if (-(gI x11.1.1 a2)) > (gI x11.1.1 a2) then (-(gI x11.1.1 a2)) else (gI x11.1.1 a2)) x21 ((-x12) * (gI x21.1.1 a2)) x11]) ?_)))))))))))
                intro x22 hx22
                replace h := h x22 hx22
                obtain ⟨o24,h⟩ := h
                refine rc [1,6,10,11,12,13,98,99,100] [] [] [] ⟨257,[(1,vi a2),(6,vi x3),(10,.osl 1 1),(11,.ref 0 0 0),(12,vi (gI x11.1.1 a2)),(13,vi x12),(98,.d (.sl t_ref09_Row) a1),(99,vi (a1.length:Int)),(100,vi (x16 + (1:Int)))],[.box (c_ref09_Row x11),.row t_ref09_Row x22 1,.box (c_ref09_Row x21)]⟩ (pn o24 pe) (te ((te ((te ((then_n (?_))))))))
                obtain ⟨m,hm,h⟩ := h
                exact ⟨m,hm,⟨257,[(1,vi a2),(6,vi x3),(10,.osl 1 0),(11,.ref 0 0 0),(12,vi (gI x11.1.1 a2)),(13,vi x12),(98,.d (.sl t_ref09_Row) a1),(99,vi (a1.length:Int)),(100,vi (x16 + (1:Int)))],[.box (c_ref09_Row x11),.row t_ref09_Row x22 0]⟩,wk_ghosts hk (l := [.keep [1,6,10,11,12,13,98,99,100],.cut 2,.reset 1,.keep [1,6,10,11,12,13,98,99,100]]) (by kernel_rfl),x16 + (1:Int),x22,h,rfl⟩
          · replace h := h.2 (of_decide_eq_false hb)
            refine awp_exit (then_x (then_x (then_x (blk_h (te ((te ((te ((te ((te ((then_n (?_))))))))))))))))
            exact ⟨x17,h,wk_ghosts hk (l := [.keep [10],.freeze 1,.keep [10],.cut 0,.keep [10]]) (by kernel_rfl)⟩
      · replace h := h.2 (of_decide_eq_false hb)
        refine awp_spine (rc [0,1,10,141,142,143] [] [] [] ⟨257,[(0,.d (.sl t_ref09_Row) a1),(1,vi a2),(10,.nils),(141,.d (.sl t_ref09_Row) a1),(142,vi (a1.length:Int)),(143,vi 0)],[]⟩ (pe) (tc ((awp_len 0 [] (T := t_ref09_Row) (l := a1) (by kernel_rfl) fun hl => ?_))))
        replace h := h hl
        obtain ⟨I29,⟨n29a,hz29⟩,hI29⟩ := h
        refine awp_block (awp_loopN (fun n s => ∃ (x25:Int) (x26 : (List ref09_Row)),I29 n x25 x26 ∧ s = ⟨257,[(0,.d (.sl t_ref09_Row) a1),(1,vi a2),(10,.osl 0 0),(141,.d (.sl t_ref09_Row) a1),(142,vi (a1.length:Int)),(143,vi x25)],[.row t_ref09_Row x26 0]⟩) (n := n29a) (s0 := ⟨257,[(0,.d (.sl t_ref09_Row) a1),(1,vi a2),(10,.osl 0 0),(141,.d (.sl t_ref09_Row) a1),(142,vi (a1.length:Int)),(143,vi 0)],[.row t_ref09_Row ([] : List ref09_Row) 0]⟩) (wk_ghosts hk (l := [.keep [0,1,10,141,142,143],.adopt 10 t_ref09_Row,.keep [0,1,10,141,142,143]]) (by kernel_rfl)) ⟨0,([] : List ref09_Row),hz29,rfl⟩ ?_)
        rintro n29 s ⟨x25,x26,hx29,rfl⟩
        have h := hI29 n29 x25 x26 hx29
        refine awp_spine (rc [0,1,10,141,142,143,144] [] [] [] ⟨257,[(0,.d (.sl t_ref09_Row) a1),(1,vi a2),(10,.osl 0 0),(141,.d (.sl t_ref09_Row) a1),(142,vi (a1.length:Int)),(143,vi x25),(144,vb (decide (x25 < (a1.length:Int))))],[.row t_ref09_Row x26 0]⟩ (pe) (tc ((awp_spine (awp_cond (b := decide (x25 < (a1.length:Int))) (by kernel_rfl) (fun hb => ?_) (fun hb => ?_))))))
        · replace h := h.1 (of_decide_eq_true hb)
          obtain ⟨o25,h⟩ := h
          refine awp_skip (tc ((awp_spine (awp_block (awp_spine (rc [0,1,10,17,141,142,143] [] [] [] ⟨257,[(0,.d (.sl t_ref09_Row) a1),(1,vi a2),(10,.osl 0 0),(17,.ref 1 0 0),(141,.d (.sl t_ref09_Row) a1),(142,vi (a1.length:Int)),(143,vi x25)],[.row t_ref09_Row x26 0,.box (c_ref09_Row (a1.getD (Int.toNat x25) d_ref09_Row))]⟩ (pn o25 pe) (tc ((awp_abs (fun (x30 : ref09_Row) => ⟨257,[(0,.d (.sl t_ref09_Row) a1),(1,vi a2),(10,.osl 0 0),(17,.ref 1 0 0),(141,.d (.sl t_ref09_Row) a1),(142,vi (a1.length:Int)),(143,vi x25)],[.row t_ref09_Row x26 0,.box (c_ref09_Row x30)]⟩) (a1.getD (Int.toNat x25) d_ref09_Row) ?_)))))))))
          intro x30 hx30
          replace h := h x30 hx30
          obtain ⟨o26,h⟩ := h
          refine awp_spine (rc [0,1,10,17,141,142,143,153] [] [] [] ⟨257,[(0,.d (.sl t_ref09_Row) a1),(1,vi a2),(10,.osl 0 0),(17,.ref 1 0 0),(141,.d (.sl t_ref09_Row) a1),(142,vi (a1.length:Int)),(143,vi x25),(153,vb ((gI x30.1.1 a2) == (0:Int)))],[.row t_ref09_Row x26 0,.box (c_ref09_Row x30)]⟩ (pn o26 pe) (tc ((awp_cond (b := (gI x30.1.1 a2) == (0:Int)) (by kernel_rfl) (fun hb => ?_) (fun hb => ?_)))))
          · replace h := h.1 (eq_of_beq hb)
            obtain ⟨o27,h⟩ := h
            obtain ⟨o28,h⟩ := h
            refine rc [0,1,10,141,142,143] [] [] [2] ⟨257,[(0,.d (.sl t_ref09_Row) a1),(1,vi a2),(10,.osl 0 1),(141,.d (.sl t_ref09_Row) a1),(142,vi (a1.length:Int)),(143,vi x25)],[.row t_ref09_Row (x26 ++ [x30]) 1,.box (c_ref09_Row x30)]⟩ (pn (by decide : 1 * 4 ≤ 16777216) (pn o27 pe)) (te ((te ((blk_n (tc ((rc [0,1,10,141,142,143] [] [] [] ⟨257,[(0,.d (.sl t_ref09_Row) a1),(1,vi a2),(10,.osl 0 1),(141,.d (.sl t_ref09_Row) a1),(142,vi (a1.length:Int)),(143,vi (x25 + (1:Int)))],[.row t_ref09_Row (x26 ++ [x30]) 1,.box (c_ref09_Row x30)]⟩ (pn o28 pe) (te ((te ((te ((then_n (?_))))))))))))))))
            obtain ⟨m,hm,h⟩ := h
            exact ⟨m,hm,⟨257,[(0,.d (.sl t_ref09_Row) a1),(1,vi a2),(10,.osl 0 0),(141,.d (.sl t_ref09_Row) a1),(142,vi (a1.length:Int)),(143,vi (x25 + (1:Int)))],[.row t_ref09_Row (x26 ++ [x30]) 0]⟩,wk_ghosts hk (l := [.keep [0,1,10,141,142,143],.cut 1,.reset 0,.keep [0,1,10,141,142,143]]) (by kernel_rfl),x25 + (1:Int),x26 ++ [x30],h,rfl⟩
          · replace h := h.2 (ne_of_beq_false hb)
            obtain ⟨o29,h⟩ := h
            refine awp_skip (te ((te ((blk_n (tc ((rc [0,1,10,141,142,143] [] [] [] ⟨257,[(0,.d (.sl t_ref09_Row) a1),(1,vi a2),(10,.osl 0 0),(141,.d (.sl t_ref09_Row) a1),(142,vi (a1.length:Int)),(143,vi (x25 + (1:Int)))],[.row t_ref09_Row x26 0,.box (c_ref09_Row x30)]⟩ (pn o29 pe) (te ((te ((te ((then_n (?_))))))))))))))))
            obtain ⟨m,hm,h⟩ := h
            exact ⟨m,hm,⟨257,[(0,.d (.sl t_ref09_Row) a1),(1,vi a2),(10,.osl 0 0),(141,.d (.sl t_ref09_Row) a1),(142,vi (a1.length:Int)),(143,vi (x25 + (1:Int)))],[.row t_ref09_Row x26 0]⟩,wk_ghosts hk (l := [.keep [0,1,10,141,142,143],.cut 1,.keep [0,1,10,141,142,143]]) (by kernel_rfl),x25 + (1:Int),x26,h,rfl⟩
        · replace h := h.2 (of_decide_eq_false hb)
          refine awp_exit (then_x (then_x (then_x (blk_h (tc ((awp_spine (rc [0,1,10,159,160,161] [] [] [] ⟨257,[(0,.d (.sl t_ref09_Row) a1),(1,vi a2),(10,.osl 0 0),(159,.d (.sl t_ref09_Row) a1),(160,vi (a1.length:Int)),(161,vi 0)],[.row t_ref09_Row x26 0]⟩ (pe) (tc ((awp_len 0 [] (T := t_ref09_Row) (l := a1) (by kernel_rfl) fun hl => ?_)))))))))))
          replace h := h hl
          obtain ⟨I37,⟨n37a,hz37⟩,hI37⟩ := h
          refine awp_block (awp_loopN (fun n s => ∃ (x33:Int) (x34 : (List ref09_Row)),I37 n x33 x34 ∧ s = ⟨257,[(0,.d (.sl t_ref09_Row) a1),(1,vi a2),(10,.osl 0 0),(159,.d (.sl t_ref09_Row) a1),(160,vi (a1.length:Int)),(161,vi x33)],[.row t_ref09_Row x34 0]⟩) (n := n37a) (s0 := ⟨257,[(0,.d (.sl t_ref09_Row) a1),(1,vi a2),(10,.osl 0 0),(159,.d (.sl t_ref09_Row) a1),(160,vi (a1.length:Int)),(161,vi 0)],[.row t_ref09_Row x26 0]⟩) (wk_ghosts hk (l := [.keep [0,1,10,159,160,161]]) (by kernel_rfl)) ⟨0,x26,hz37,rfl⟩ ?_)
          rintro n37 s ⟨x33,x34,hx37,rfl⟩
          have h := hI37 n37 x33 x34 hx37
          refine awp_spine (rc [0,1,10,159,160,161,162] [] [] [] ⟨257,[(0,.d (.sl t_ref09_Row) a1),(1,vi a2),(10,.osl 0 0),(159,.d (.sl t_ref09_Row) a1),(160,vi (a1.length:Int)),(161,vi x33),(162,vb (decide (x33 < (a1.length:Int))))],[.row t_ref09_Row x34 0]⟩ (pe) (tc ((awp_spine (awp_cond (b := decide (x33 < (a1.length:Int))) (by kernel_rfl) (fun hb => ?_) (fun hb => ?_))))))
          · replace h := h.1 (of_decide_eq_true hb)
            obtain ⟨o30,h⟩ := h
            refine awp_skip (tc ((awp_spine (awp_block (awp_spine (rc [0,1,10,19,159,160,161] [] [] [] ⟨257,[(0,.d (.sl t_ref09_Row) a1),(1,vi a2),(10,.osl 0 0),(19,.ref 1 0 0),(159,.d (.sl t_ref09_Row) a1),(160,vi (a1.length:Int)),(161,vi x33)],[.row t_ref09_Row x34 0,.box (c_ref09_Row (a1.getD (Int.toNat x33) d_ref09_Row))]⟩ (pn o30 pe) (tc ((awp_abs (fun (x38 : ref09_Row) => ⟨257,[(0,.d (.sl t_ref09_Row) a1),(1,vi a2),(10,.osl 0 0),(19,.ref 1 0 0),(159,.d (.sl t_ref09_Row) a1),(160,vi (a1.length:Int)),(161,vi x33)],[.row t_ref09_Row x34 0,.box (c_ref09_Row x38)]⟩) (a1.getD (Int.toNat x33) d_ref09_Row) ?_)))))))))
            intro x38 hx38
            replace h := h x38 hx38
            obtain ⟨o31,h⟩ := h
            refine awp_spine (rc [0,1,10,19,159,160,161,171] [] [] [] ⟨257,[(0,.d (.sl t_ref09_Row) a1),(1,vi a2),(10,.osl 0 0),(19,.ref 1 0 0),(159,.d (.sl t_ref09_Row) a1),(160,vi (a1.length:Int)),(161,vi x33),(171,vb (decide ((gI x38.1.1 a2) ≤ (0:Int))))],[.row t_ref09_Row x34 0,.box (c_ref09_Row x38)]⟩ (pn o31 pe) (tc ((awp_cond (b := decide ((gI x38.1.1 a2) ≤ (0:Int))) (by kernel_rfl) (fun hb => ?_) (fun hb => ?_)))))
            · replace h := h.1 (of_decide_eq_true hb)
              obtain ⟨o32,h⟩ := h
              refine awp_exit (then_x (then_x (blk_h (tc ((rc [0,1,10,159,160,161] [] [] [] ⟨257,[(0,.d (.sl t_ref09_Row) a1),(1,vi a2),(10,.osl 0 0),(159,.d (.sl t_ref09_Row) a1),(160,vi (a1.length:Int)),(161,vi (x33 + (1:Int)))],[.row t_ref09_Row x34 0,.box (c_ref09_Row x38)]⟩ (pn o32 pe) (te ((te ((te ((then_n (?_))))))))))))))
              obtain ⟨m,hm,h⟩ := h
              exact ⟨m,hm,⟨257,[(0,.d (.sl t_ref09_Row) a1),(1,vi a2),(10,.osl 0 0),(159,.d (.sl t_ref09_Row) a1),(160,vi (a1.length:Int)),(161,vi (x33 + (1:Int)))],[.row t_ref09_Row x34 0]⟩,wk_ghosts hk (l := [.keep [0,1,10,159,160,161],.cut 1,.keep [0,1,10,159,160,161]]) (by kernel_rfl),x33 + (1:Int),x34,h,rfl⟩
            · replace h := h.2 (of_decide_eq_false hb)
              refine awp_skip (tc ((awp_spine (rc [0,1,10,19,159,160,161,172,173,174] [] [] [] ⟨257,[(0,.d (.sl t_ref09_Row) a1),(1,vi a2),(10,.osl 0 0),(19,.ref 1 0 0),(159,.d (.sl t_ref09_Row) a1),(160,vi (a1.length:Int)),(161,vi x33),(172,.d (.sl t_ref09_Row) a1),(173,vi (a1.length:Int)),(174,vi 0)],[.row t_ref09_Row x34 0,.box (c_ref09_Row x38)]⟩ (pe) (tc ((awp_len 0 [] (T := t_ref09_Row) (l := a1) (by kernel_rfl) fun hl => ?_)))))))
              replace h := h hl
              obtain ⟨I45,⟨n45a,hz45⟩,hI45⟩ := h
              refine awp_block (awp_loopN (fun n s => ∃ (x41:Int) (x42 : (List ref09_Row)),I45 n x41 x42 ∧ s = ⟨257,[(0,.d (.sl t_ref09_Row) a1),(1,vi a2),(10,.osl 0 0),(19,.ref 1 0 0),(159,.d (.sl t_ref09_Row) a1),(160,vi (a1.length:Int)),(161,vi x33),(172,.d (.sl t_ref09_Row) a1),(173,vi (a1.length:Int)),(174,vi x41)],[.row t_ref09_Row x42 0,.box (c_ref09_Row x38)]⟩) (n := n45a) (s0 := ⟨257,[(0,.d (.sl t_ref09_Row) a1),(1,vi a2),(10,.osl 0 0),(19,.ref 1 0 0),(159,.d (.sl t_ref09_Row) a1),(160,vi (a1.length:Int)),(161,vi x33),(172,.d (.sl t_ref09_Row) a1),(173,vi (a1.length:Int)),(174,vi 0)],[.row t_ref09_Row x34 0,.box (c_ref09_Row x38)]⟩) (wk_ghosts hk (l := [.keep [0,1,10,19,159,160,161,172,173,174]]) (by kernel_rfl)) ⟨0,x34,hz45,rfl⟩ ?_)
              rintro n45 s ⟨x41,x42,hx45,rfl⟩
              have h := hI45 n45 x41 x42 hx45
              refine awp_spine (rc [0,1,10,19,159,160,161,172,173,174,175] [] [] [] ⟨257,[(0,.d (.sl t_ref09_Row) a1),(1,vi a2),(10,.osl 0 0),(19,.ref 1 0 0),(159,.d (.sl t_ref09_Row) a1),(160,vi (a1.length:Int)),(161,vi x33),(172,.d (.sl t_ref09_Row) a1),(173,vi (a1.length:Int)),(174,vi x41),(175,vb (decide (x41 < (a1.length:Int))))],[.row t_ref09_Row x42 0,.box (c_ref09_Row x38)]⟩ (pe) (tc ((awp_spine (awp_cond (b := decide (x41 < (a1.length:Int))) (by kernel_rfl) (fun hb => ?_) (fun hb => ?_))))))
              · replace h := h.1 (of_decide_eq_true hb)
                obtain ⟨o33,h⟩ := h
                refine awp_skip (tc ((awp_spine (awp_block (awp_spine (rc [0,1,10,19,21,159,160,161,172,173,174] [] [] [] ⟨257,[(0,.d (.sl t_ref09_Row) a1),(1,vi a2),(10,.osl 0 0),(19,.ref 1 0 0),(21,.ref 2 0 0),(159,.d (.sl t_ref09_Row) a1),(160,vi (a1.length:Int)),(161,vi x33),(172,.d (.sl t_ref09_Row) a1),(173,vi (a1.length:Int)),(174,vi x41)],[.row t_ref09_Row x42 0,.box (c_ref09_Row x38),.box (c_ref09_Row (a1.getD (Int.toNat x41) d_ref09_Row))]⟩ (pn o33 pe) (tc ((awp_abs (fun (x46 : ref09_Row) => ⟨257,[(0,.d (.sl t_ref09_Row) a1),(1,vi a2),(10,.osl 0 0),(19,.ref 1 0 0),(21,.ref 2 0 0),(159,.d (.sl t_ref09_Row) a1),(160,vi (a1.length:Int)),(161,vi x33),(172,.d (.sl t_ref09_Row) a1),(173,vi (a1.length:Int)),(174,vi x41)],[.row t_ref09_Row x42 0,.box (c_ref09_Row x38),.box (c_ref09_Row x46)]⟩) (a1.getD (Int.toNat x41) d_ref09_Row) ?_)))))))))
                intro x46 hx46
                replace h := h x46 hx46
                obtain ⟨o34,h⟩ := h
                refine awp_spine (rc [0,1,10,19,21,159,160,161,172,173,174,184] [] [] [] ⟨257,[(0,.d (.sl t_ref09_Row) a1),(1,vi a2),(10,.osl 0 0),(19,.ref 1 0 0),(21,.ref 2 0 0),(159,.d (.sl t_ref09_Row) a1),(160,vi (a1.length:Int)),(161,vi x33),(172,.d (.sl t_ref09_Row) a1),(173,vi (a1.length:Int)),(174,vi x41),(184,vb (decide ((gI x46.1.1 a2) < (0:Int))))],[.row t_ref09_Row x42 0,.box (c_ref09_Row x38),.box (c_ref09_Row x46)]⟩ (pn o34 pe) (tc ((awp_cond (b := decide ((gI x46.1.1 a2) < (0:Int))) (by kernel_rfl) (fun hb => ?_) (fun hb => ?_)))))
                · replace h := h.1 (of_decide_eq_true hb)
                  obtain ⟨o35,o36,o37,o38,o39,h⟩ := h
                  refine dr hk [0,1,10,19,159,160,161,172,173,174] [] [16] [17] ⟨[[],[],[1],[1,2],[],[1,2,3,4],[1,2,3,4,5],[1,2,3,4,5,6],[],[],[9],[9,10],[],[9,10,11,12],[9,10,11,12,13],[],[1,2,3,4,5,6,7,8,9,10,11,12,13,14,15],[1,2,3,4,5,6,7,8,9,10,11,12,13,14,15,16],(lr 18),(lr 19)],[.osl 0 0,.ref 2 0 0,.ref 2 0 0,vs x46.1.1,vi a2,.er [vi (gI x46.1.1 a2)],vi (gI x46.1.1 a2),vi (-(gI x46.1.1 a2)),.agg (c_ref09_Row x38),.ref 1 0 0,.ref 1 0 0,vs x38.1.1,vi a2,.er [vi (gI x38.1.1 a2)],vi (gI x38.1.1 a2),.agg (c_ref09_Row x46),.agg (c_ref09_Row (ref09_mix.fn (-(gI x46.1.1 a2)) x38 (gI x38.1.1 a2) x46)),.d (.sl t_ref09_Row) [ref09_mix.fn (-(gI x46.1.1 a2)) x38 (gI x38.1.1 a2) x46],.osl 0 1,.osl 0 1],_,[18],[([],[.row t_ref09_Row x42 0,.box (c_ref09_Row x38),.box (c_ref09_Row x46)]),([18],[.row t_ref09_Row (x42 ++ [ref09_mix.fn (-(gI x46.1.1 a2)) x38 (gI x38.1.1 a2) x46]) 1,.box (c_ref09_Row x38),.box (c_ref09_Row x46)])],[],[]⟩ ⟨257,[(0,.d (.sl t_ref09_Row) a1),(1,vi a2),(10,.osl 0 1),(19,.ref 1 0 0),(159,.d (.sl t_ref09_Row) a1),(160,vi (a1.length:Int)),(161,vi x33),(172,.d (.sl t_ref09_Row) a1),(173,vi (a1.length:Int)),(174,vi x41)],[.row t_ref09_Row (x42 ++ [ref09_mix.fn (-(gI x46.1.1 a2)) x38 (gI x38.1.1 a2) x46]) 1,.box (c_ref09_Row x38),.box (c_ref09_Row x46)]⟩ (.n (.n (.n (.n (.n (.s o35 (.n (.s o36 (.n (.n (.n (.n (.n (.s o37 (.n (.n (.s (ok_ref09_mix (-(gI x46.1.1 a2)) x38 (gI x38.1.1 a2) x46 (o38)) (.s (by decide : 1 * 4 ≤ 16777216) (.s o39 (.n AllO.e)))))))))))))))))))) (te ((te ((blk_n (tc ((awp_abs (fun (x47 : (List ref09_Row)) => ⟨257,[(0,.d (.sl t_ref09_Row) a1),(1,vi a2),(10,.osl 0 1),(19,.ref 1 0 0),(159,.d (.sl t_ref09_Row) a1),(160,vi (a1.length:Int)),(161,vi x33),(172,.d (.sl t_ref09_Row) a1),(173,vi (a1.length:Int)),(174,vi x41)],[.row t_ref09_Row x47 1,.box (c_ref09_Row x38),.box (c_ref09_Row x46)]⟩) (x42 ++ [ref09_mix.fn (-(gI x46.1.1 a2)) x38 (gI x38.1.1 a2) x46]) ?_))))))))
                  intro x47 hx47
                  replace h := h x47 hx47
                  obtain ⟨o40,h⟩ := h
                  refine rc [0,1,10,19,159,160,161,172,173,174] [] [] [] ⟨257,[(0,.d (.sl t_ref09_Row) a1),(1,vi a2),(10,.osl 0 1),(19,.ref 1 0 0),(159,.d (.sl t_ref09_Row) a1),(160,vi (a1.length:Int)),(161,vi x33),(172,.d (.sl t_ref09_Row) a1),(173,vi (a1.length:Int)),(174,vi (x41 + (1:Int)))],[.row t_ref09_Row x47 1,.box (c_ref09_Row x38),.box (c_ref09_Row x46)]⟩ (pn o40 pe) (te ((te ((te ((then_n (?_))))))))
                  obtain ⟨m,hm,h⟩ := h
                  exact ⟨m,hm,⟨257,[(0,.d (.sl t_ref09_Row) a1),(1,vi a2),(10,.osl 0 0),(19,.ref 1 0 0),(159,.d (.sl t_ref09_Row) a1),(160,vi (a1.length:Int)),(161,vi x33),(172,.d (.sl t_ref09_Row) a1),(173,vi (a1.length:Int)),(174,vi (x41 + (1:Int)))],[.row t_ref09_Row x47 0,.box (c_ref09_Row x38)]⟩,wk_ghosts hk (l := [.keep [0,1,10,19,159,160,161,172,173,174],.cut 2,.reset 0,.keep [0,1,10,19,159,160,161,172,173,174]]) (by kernel_rfl),x41 + (1:Int),x47,h,rfl⟩
                · replace h := h.2 (of_decide_eq_false hb)
                  obtain ⟨o41,h⟩ := h
                  refine awp_skip (te ((te ((blk_n (tc ((rc [0,1,10,19,159,160,161,172,173,174] [] [] [] ⟨257,[(0,.d (.sl t_ref09_Row) a1),(1,vi a2),(10,.osl 0 0),(19,.ref 1 0 0),(159,.d (.sl t_ref09_Row) a1),(160,vi (a1.length:Int)),(161,vi x33),(172,.d (.sl t_ref09_Row) a1),(173,vi (a1.length:Int)),(174,vi (x41 + (1:Int)))],[.row t_ref09_Row x42 0,.box (c_ref09_Row x38),.box (c_ref09_Row x46)]⟩ (pn o41 pe) (te ((te ((te ((then_n (?_))))))))))))))))
                  obtain ⟨m,hm,h⟩ := h
                  exact ⟨m,hm,⟨257,[(0,.d (.sl t_ref09_Row) a1),(1,vi a2),(10,.osl 0 0),(19,.ref 1 0 0),(159,.d (.sl t_ref09_Row) a1),(160,vi (a1.length:Int)),(161,vi x33),(172,.d (.sl t_ref09_Row) a1),(173,vi (a1.length:Int)),(174,vi (x41 + (1:Int)))],[.row t_ref09_Row x42 0,.box (c_ref09_Row x38)]⟩,wk_ghosts hk (l := [.keep [0,1,10,19,159,160,161,172,173,174],.cut 2,.keep [0,1,10,19,159,160,161,172,173,174]]) (by kernel_rfl),x41 + (1:Int),x42,h,rfl⟩
              · replace h := h.2 (of_decide_eq_false hb)
                obtain ⟨o42,h⟩ := h
                refine awp_exit (then_x (then_x (then_x (blk_h (te ((te ((te ((blk_n (tc ((rc [0,1,10,159,160,161] [] [] [] ⟨257,[(0,.d (.sl t_ref09_Row) a1),(1,vi a2),(10,.osl 0 0),(159,.d (.sl t_ref09_Row) a1),(160,vi (a1.length:Int)),(161,vi (x33 + (1:Int)))],[.row t_ref09_Row x42 0,.box (c_ref09_Row x38)]⟩ (pn o42 pe) (te ((te ((te ((then_n (?_))))))))))))))))))))))
                obtain ⟨m,hm,h⟩ := h
                exact ⟨m,hm,⟨257,[(0,.d (.sl t_ref09_Row) a1),(1,vi a2),(10,.osl 0 0),(159,.d (.sl t_ref09_Row) a1),(160,vi (a1.length:Int)),(161,vi (x33 + (1:Int)))],[.row t_ref09_Row x42 0]⟩,wk_ghosts hk (l := [.keep [0,1,10,159,160,161],.cut 1,.keep [0,1,10,159,160,161]]) (by kernel_rfl),x33 + (1:Int),x42,h,rfl⟩
          · replace h := h.2 (of_decide_eq_false hb)
            refine awp_exit (then_x (then_x (then_x (blk_h (te ((te ((then_n (?_))))))))))
            exact ⟨x34,h,wk_ghosts hk (l := [.keep [10],.freeze 0,.keep [10],.cut 0,.keep [10]]) (by kernel_rfl)⟩
    · rintro s' ⟨x9,hx10,hw10⟩
      have h := hB10 x9 hx10
      refine spine_c (awp_wk hw10 (awp_spine (rc [10,22] [] [] [] ⟨257,[(10,.d (.sl t_ref09_Row) x9),(22,.nils)],[]⟩ (pe) (tc ((awp_spine (rc [22,206,207,208] [] [] [] ⟨257,[(22,.nils),(206,.d (.sl t_ref09_Row) x9),(207,vi (x9.length:Int)),(208,vi 0)],[]⟩ (pe) (tc ((awp_len 206 [] (T := t_ref09_Row) (l := x9) (by kernel_rfl) fun hl => ?_))))))))))
      replace h := h hl
      obtain ⟨I54,⟨n54a,hz54⟩,hI54⟩ := h
      refine awp_block (awp_loopN (fun n s => ∃ (x50:Int) (x51 : (List ref09_Row)),I54 n x50 x51 ∧ s = ⟨257,[(22,.osl 0 0),(206,.d (.sl t_ref09_Row) x9),(207,vi (x9.length:Int)),(208,vi x50)],[.row t_ref09_Row x51 0]⟩) (n := n54a) (s0 := ⟨257,[(22,.osl 0 0),(206,.d (.sl t_ref09_Row) x9),(207,vi (x9.length:Int)),(208,vi 0)],[.row t_ref09_Row ([] : List ref09_Row) 0]⟩) (wk_ghosts hk (l := [.keep [22,206,207,208],.adopt 22 t_ref09_Row,.keep [22,206,207,208]]) (by kernel_rfl)) ⟨0,([] : List ref09_Row),hz54,rfl⟩ ?_)
      rintro n54 s ⟨x50,x51,hx54,rfl⟩
      have h := hI54 n54 x50 x51 hx54
      refine awp_spine (rc [22,206,207,208,209] [] [] [] ⟨257,[(22,.osl 0 0),(206,.d (.sl t_ref09_Row) x9),(207,vi (x9.length:Int)),(208,vi x50),(209,vb (decide (x50 < (x9.length:Int))))],[.row t_ref09_Row x51 0]⟩ (pe) (tc ((awp_spine (awp_cond (b := decide (x50 < (x9.length:Int))) (by kernel_rfl) (fun hb => ?_) (fun hb => ?_))))))
      · replace h := h.1 (of_decide_eq_true hb)
        obtain ⟨o43,h⟩ := h
        refine awp_skip (tc ((awp_spine (awp_block (awp_spine (rc [22,24,206,207,208] [] [] [] ⟨257,[(22,.osl 0 0),(24,.ref 1 0 0),(206,.d (.sl t_ref09_Row) x9),(207,vi (x9.length:Int)),(208,vi x50)],[.row t_ref09_Row x51 0,.box (c_ref09_Row (x9.getD (Int.toNat x50) d_ref09_Row))]⟩ (pn o43 pe) (tc ((awp_abs (fun (x55 : ref09_Row) => ⟨257,[(22,.osl 0 0),(24,.ref 1 0 0),(206,.d (.sl t_ref09_Row) x9),(207,vi (x9.length:Int)),(208,vi x50)],[.row t_ref09_Row x51 0,.box (c_ref09_Row x55)]⟩) (x9.getD (Int.toNat x50) d_ref09_Row) ?_)))))))))
        intro x55 hx55
        replace h := h x55 hx55
        obtain ⟨I62,⟨n62a,hz62⟩,hI62⟩ := h
        refine awp_spine (rc [22,24,25,206,207,208] [] [] [] ⟨257,[(22,.osl 0 0),(24,.ref 1 0 0),(25,vb false),(206,.d (.sl t_ref09_Row) x9),(207,vi (x9.length:Int)),(208,vi x50)],[.row t_ref09_Row x51 0,.box (c_ref09_Row x55)]⟩ (pe) (tc ((awp_spine (rc [22,24,25,206,207,208,212,213,214] [] [] [] ⟨257,[(22,.osl 0 0),(24,.ref 1 0 0),(25,vb false),(206,.d (.sl t_ref09_Row) x9),(207,vi (x9.length:Int)),(208,vi x50),(212,.osl 0 0),(213,vi (x51.length:Int)),(214,vi 0)],[.row t_ref09_Row x51 0,.box (c_ref09_Row x55)]⟩ (pe) (tc ((awp_block (awp_loopN (fun n s => ∃ (x58 : Bool) (x59:Int),I62 n x58 x59 ∧ s = ⟨257,[(22,.osl 0 0),(24,.ref 1 0 0),(25,vb x58),(206,.d (.sl t_ref09_Row) x9),(207,vi (x9.length:Int)),(208,vi x50),(212,.osl 0 0),(213,vi (x51.length:Int)),(214,vi x59)],[.row t_ref09_Row x51 0,.box (c_ref09_Row x55)]⟩) (n := n62a) (s0 := ⟨257,[(22,.osl 0 0),(24,.ref 1 0 0),(25,vb false),(206,.d (.sl t_ref09_Row) x9),(207,vi (x9.length:Int)),(208,vi x50),(212,.osl 0 0),(213,vi (x51.length:Int)),(214,vi 0)],[.row t_ref09_Row x51 0,.box (c_ref09_Row x55)]⟩) (wk_ghosts hk (l := [.keep [22,24,25,206,207,208,212,213,214]]) (by kernel_rfl)) ⟨false,0,hz62,rfl⟩ ?_)))))))))
        rintro n62 s ⟨x58,x59,hx62,rfl⟩
        have h := hI62 n62 x58 x59 hx62
        refine awp_spine (rc [22,24,25,206,207,208,212,213,214,215] [] [] [] ⟨257,[(22,.osl 0 0),(24,.ref 1 0 0),(25,vb x58),(206,.d (.sl t_ref09_Row) x9),(207,vi (x9.length:Int)),(208,vi x50),(212,.osl 0 0),(213,vi (x51.length:Int)),(214,vi x59),(215,vb (decide (x59 < (x51.length:Int))))],[.row t_ref09_Row x51 0,.box (c_ref09_Row x55)]⟩ (pe) (tc ((awp_spine (awp_cond (b := decide (x59 < (x51.length:Int))) (by kernel_rfl) (fun hb => ?_) (fun hb => ?_))))))
        · replace h := h.1 (of_decide_eq_true hb)
          obtain ⟨o44,o45,h⟩ := h
          refine awp_skip (tc ((awp_spine (awp_block (awp_spine (rc [22,24,25,27,206,207,208,212,213,214] [] [] [] ⟨257,[(22,.osl 0 0),(24,.ref 1 0 0),(25,vb x58),(27,.ref 2 0 0),(206,.d (.sl t_ref09_Row) x9),(207,vi (x9.length:Int)),(208,vi x50),(212,.osl 0 0),(213,vi (x51.length:Int)),(214,vi x59)],[.row t_ref09_Row x51 0,.box (c_ref09_Row x55),.box (c_ref09_Row (x51.getD (Int.toNat x59) d_ref09_Row))]⟩ (pn o44 (pn o45 pe)) (tc ((awp_abs (fun (x63 : ref09_Row) => ⟨257,[(22,.osl 0 0),(24,.ref 1 0 0),(25,vb x58),(27,.ref 2 0 0),(206,.d (.sl t_ref09_Row) x9),(207,vi (x9.length:Int)),(208,vi x50),(212,.osl 0 0),(213,vi (x51.length:Int)),(214,vi x59)],[.row t_ref09_Row x51 0,.box (c_ref09_Row x55),.box (c_ref09_Row x63)]⟩) (x51.getD (Int.toNat x59) d_ref09_Row) ?_)))))))))
          intro x63 hx63
          replace h := h x63 hx63
          obtain ⟨o46,h⟩ := h
          obtain ⟨o47,h⟩ := h
          refine rc [22,24,25,206,207,208,212,213,214] [] [(4,.dat (vb (ref09_same.fn x55 x63)))] [] ⟨257,[(22,.osl 0 0),(24,.ref 1 0 0),(25,vb (x58 || (ref09_same.fn x55 x63))),(206,.d (.sl t_ref09_Row) x9),(207,vi (x9.length:Int)),(208,vi x50),(212,.osl 0 0),(213,vi (x51.length:Int)),(214,vi x59)],[.row t_ref09_Row x51 0,.box (c_ref09_Row x55),.box (c_ref09_Row x63)]⟩ (pn (fun hg => ⟨hg,hg,ok_ref09_same x55 x63 ((o46 hg))⟩ : (!x58) = true → (!x58) = true ∧ ((!x58) = true ∧ (OkC prog 82 [.agg (c_ref09_Row x55),.agg (c_ref09_Row x63)] (vb (ref09_same.fn x55 x63))))) (pn (fun hc => not_f hc : x58 = false → (!x58) = true) pe)) (te ((blk_n (tc ((rc [22,24,25,206,207,208,212,213,214] [] [] [] ⟨257,[(22,.osl 0 0),(24,.ref 1 0 0),(25,vb (x58 || (ref09_same.fn x55 x63))),(206,.d (.sl t_ref09_Row) x9),(207,vi (x9.length:Int)),(208,vi x50),(212,.osl 0 0),(213,vi (x51.length:Int)),(214,vi (x59 + (1:Int)))],[.row t_ref09_Row x51 0,.box (c_ref09_Row x55),.box (c_ref09_Row x63)]⟩ (pn o47 pe) (te ((te ((te ((then_n (?_))))))))))))))
          obtain ⟨m,hm,h⟩ := h
          exact ⟨m,hm,⟨257,[(22,.osl 0 0),(24,.ref 1 0 0),(25,vb (x58 || (ref09_same.fn x55 x63))),(206,.d (.sl t_ref09_Row) x9),(207,vi (x9.length:Int)),(208,vi x50),(212,.osl 0 0),(213,vi (x51.length:Int)),(214,vi (x59 + (1:Int)))],[.row t_ref09_Row x51 0,.box (c_ref09_Row x55)]⟩,wk_ghosts hk (l := [.keep [22,24,25,206,207,208,212,213,214],.cut 2,.keep [22,24,25,206,207,208,212,213,214]]) (by kernel_rfl),x58 || (ref09_same.fn x55 x63),x59 + (1:Int),h,rfl⟩
        · replace h := h.2 (of_decide_eq_false hb)
          refine awp_exit (then_x (then_x (then_x (blk_h (tc ((awp_spine (rc [22,24,206,207,208,226] [] [] [] ⟨257,[(22,.osl 0 0),(24,.ref 1 0 0),(206,.d (.sl t_ref09_Row) x9),(207,vi (x9.length:Int)),(208,vi x50),(226,vb (!x58))],[.row t_ref09_Row x51 0,.box (c_ref09_Row x55)]⟩ (pe) (tc ((awp_cond (b := !x58) (by kernel_rfl) (fun hb => ?_) (fun hb => ?_))))))))))))
          · replace h := h.1 ((nt hb))
            obtain ⟨o48,h⟩ := h
            refine rc [22,206,207,208] [] [] [2] ⟨257,[(22,.osl 0 1),(206,.d (.sl t_ref09_Row) x9),(207,vi (x9.length:Int)),(208,vi x50)],[.row t_ref09_Row (x51 ++ [x55]) 1,.box (c_ref09_Row x55)]⟩ (pn (by decide : 1 * 4 ≤ 16777216) (pn o48 pe)) (tc ((awp_spine (rc [22,206,207,208,233] [] [] [] ⟨257,[(22,.osl 0 1),(206,.d (.sl t_ref09_Row) x9),(207,vi (x9.length:Int)),(208,vi x50),(233,vb (decide (((x51 ++ [x55]).length:Int) > (400:Int))))],[.row t_ref09_Row (x51 ++ [x55]) 1,.box (c_ref09_Row x55)]⟩ (pe) (tc ((awp_cond (b := decide (((x51 ++ [x55]).length:Int) > (400:Int))) (by kernel_rfl) (fun hb => ?_) (fun hb => ?_))))))))
            · replace h := h.1 (of_decide_eq_true hb)
              refine awp_spine (rc [4,5] [] [] [] ⟨257,[(4,.nils),(5,vi (3:Int))],[.row t_ref09_Row (x51 ++ [x55]) 1,.box (c_ref09_Row x55)]⟩ (pe) (tc ((awp_ret (tr (tr (tr (tr (tr (tr (blk_r (tr (tr (tr (tr (blk_r (tr (tr (tr (tr (tr (tr (tr (?_))))))))))))))))))))))))
              exact re hk (.tup [.d (.sl t_ref09_Row) ((([] : List ref09_Row),3).1),vi ((([] : List ref09_Row),3).2)]) [.keep [4,5],.nilAt 4 [] t_ref09_Row,.keep [4,5]] ⟨257,[(4,.d (.sl t_ref09_Row) ([] : List ref09_Row)),(5,vi (3:Int))],[.row t_ref09_Row (x51 ++ [x55]) 1,.box (c_ref09_Row x55)]⟩ ⟨(([] : List ref09_Row),3),rfl,rfl,h⟩
            · replace h := h.2 (of_decide_eq_false hb)
              obtain ⟨o49,h⟩ := h
              refine awp_skip (te ((te ((te ((te ((te ((blk_n (tc ((rc [22,206,207,208] [] [] [] ⟨257,[(22,.osl 0 1),(206,.d (.sl t_ref09_Row) x9),(207,vi (x9.length:Int)),(208,vi (x50 + (1:Int)))],[.row t_ref09_Row (x51 ++ [x55]) 1,.box (c_ref09_Row x55)]⟩ (pn o49 pe) (te ((te ((te ((then_n (?_))))))))))))))))))))))
              obtain ⟨m,hm,h⟩ := h
              exact ⟨m,hm,⟨257,[(22,.osl 0 0),(206,.d (.sl t_ref09_Row) x9),(207,vi (x9.length:Int)),(208,vi (x50 + (1:Int)))],[.row t_ref09_Row (x51 ++ [x55]) 0]⟩,wk_ghosts hk (l := [.keep [22,206,207,208],.cut 1,.reset 0,.keep [22,206,207,208]]) (by kernel_rfl),x50 + (1:Int),x51 ++ [x55],h,rfl⟩
          · replace h := h.2 ((nf hb))
            refine awp_skip (tc ((awp_spine (rc [22,206,207,208,233] [] [] [] ⟨257,[(22,.osl 0 0),(206,.d (.sl t_ref09_Row) x9),(207,vi (x9.length:Int)),(208,vi x50),(233,vb (decide ((x51.length:Int) > (400:Int))))],[.row t_ref09_Row x51 0,.box (c_ref09_Row x55)]⟩ (pe) (tc ((awp_cond (b := decide ((x51.length:Int) > (400:Int))) (by kernel_rfl) (fun hb => ?_) (fun hb => ?_))))))))
            · replace h := h.1 (of_decide_eq_true hb)
              refine awp_spine (rc [4,5] [] [] [] ⟨257,[(4,.nils),(5,vi (3:Int))],[.row t_ref09_Row x51 0,.box (c_ref09_Row x55)]⟩ (pe) (tc ((awp_ret (tr (tr (tr (tr (tr (tr (blk_r (tr (tr (tr (tr (blk_r (tr (tr (tr (tr (tr (tr (tr (?_))))))))))))))))))))))))
              exact re hk (.tup [.d (.sl t_ref09_Row) ((([] : List ref09_Row),3).1),vi ((([] : List ref09_Row),3).2)]) [.keep [4,5],.nilAt 4 [] t_ref09_Row,.keep [4,5]] ⟨257,[(4,.d (.sl t_ref09_Row) ([] : List ref09_Row)),(5,vi (3:Int))],[.row t_ref09_Row x51 0,.box (c_ref09_Row x55)]⟩ ⟨(([] : List ref09_Row),3),rfl,rfl,h⟩
            · replace h := h.2 (of_decide_eq_false hb)
              obtain ⟨o50,h⟩ := h
              refine awp_skip (te ((te ((te ((te ((te ((blk_n (tc ((rc [22,206,207,208] [] [] [] ⟨257,[(22,.osl 0 0),(206,.d (.sl t_ref09_Row) x9),(207,vi (x9.length:Int)),(208,vi (x50 + (1:Int)))],[.row t_ref09_Row x51 0,.box (c_ref09_Row x55)]⟩ (pn o50 pe) (te ((te ((te ((then_n (?_))))))))))))))))))))))
              obtain ⟨m,hm,h⟩ := h
              exact ⟨m,hm,⟨257,[(22,.osl 0 0),(206,.d (.sl t_ref09_Row) x9),(207,vi (x9.length:Int)),(208,vi (x50 + (1:Int)))],[.row t_ref09_Row x51 0]⟩,wk_ghosts hk (l := [.keep [22,206,207,208],.cut 1,.keep [22,206,207,208]]) (by kernel_rfl),x50 + (1:Int),x51,h,rfl⟩
      · replace h := h.2 (of_decide_eq_false hb)
        obtain ⟨I67,⟨n67a,hz67⟩,hI67⟩ := h
        refine awp_exit (then_x (then_x (then_x (blk_h (tc ((awp_spine (rc [22,235,236,237] [] [] [] ⟨257,[(22,.osl 0 0),(235,.osl 0 0),(236,vi (x51.length:Int)),(237,vi 0)],[.row t_ref09_Row x51 0]⟩ (pe) (tc ((awp_block (awp_loopN (fun n s => ∃ (x65:Int),I67 n x65 ∧ s = ⟨257,[(22,.osl 0 0),(235,.osl 0 0),(236,vi (x51.length:Int)),(237,vi x65)],[.row t_ref09_Row x51 0]⟩) (n := n67a) (s0 := ⟨257,[(22,.osl 0 0),(235,.osl 0 0),(236,vi (x51.length:Int)),(237,vi 0)],[.row t_ref09_Row x51 0]⟩) (wk_ghosts hk (l := [.keep [22,235,236,237]]) (by kernel_rfl)) ⟨0,hz67,rfl⟩ ?_))))))))))))
        rintro n67 s ⟨x65,hx67,rfl⟩
        have h := hI67 n67 x65 hx67
        refine awp_spine (rc [22,235,236,237,238] [] [] [] ⟨257,[(22,.osl 0 0),(235,.osl 0 0),(236,vi (x51.length:Int)),(237,vi x65),(238,vb (decide (x65 < (x51.length:Int))))],[.row t_ref09_Row x51 0]⟩ (pe) (tc ((awp_spine (awp_cond (b := decide (x65 < (x51.length:Int))) (by kernel_rfl) (fun hb => ?_) (fun hb => ?_))))))
        · replace h := h.1 (of_decide_eq_true hb)
          obtain ⟨o51,o52,h⟩ := h
          refine awp_skip (tc ((awp_spine (awp_block (awp_spine (rc [22,29,235,236,237] [] [] [] ⟨257,[(22,.osl 0 0),(29,.ref 1 0 0),(235,.osl 0 0),(236,vi (x51.length:Int)),(237,vi x65)],[.row t_ref09_Row x51 0,.box (c_ref09_Row (x51.getD (Int.toNat x65) d_ref09_Row))]⟩ (pn o51 (pn o52 pe)) (tc ((awp_abs (fun (x68 : ref09_Row) => ⟨257,[(22,.osl 0 0),(29,.ref 1 0 0),(235,.osl 0 0),(236,vi (x51.length:Int)),(237,vi x65)],[.row t_ref09_Row x51 0,.box (c_ref09_Row x68)]⟩) (x51.getD (Int.toNat x65) d_ref09_Row) ?_)))))))))
          intro x68 hx68
          replace h := h x68 hx68
          obtain ⟨o53,h⟩ := h
          refine awp_spine (rc [22,235,236,237,242,243,244] [] [(1,.dat (vs (ref09_Row_numbers.fn x68)))] [] ⟨257,[(22,.osl 0 0),(235,.osl 0 0),(236,vi (x51.length:Int)),(237,vi x65),(242,vs (ref09_Row_numbers.fn x68)),(243,vi ((ref09_Row_numbers.fn x68).length:Int)),(244,vi 0)],[.row t_ref09_Row x51 0,.box (c_ref09_Row x68)]⟩ (pn (ok_ref09_Row_numbers x68 (o53)) pe) (tc ((awp_abs (fun (x69 : (List Int)) => ⟨257,[(22,.osl 0 0),(235,.osl 0 0),(236,vi (x51.length:Int)),(237,vi x65),(242,vs x69),(243,vi (x69.length:Int)),(244,vi 0)],[.row t_ref09_Row x51 0,.box (c_ref09_Row x68)]⟩) (ref09_Row_numbers.fn x68) ?_))))
          intro x69 hx69
          replace h := h x69 hx69
          refine awp_abs (fun (x70:Int) => ⟨257,[(22,.osl 0 0),(235,.osl 0 0),(236,vi (x51.length:Int)),(237,vi x65),(242,vs x69),(243,vi x70),(244,vi 0)],[.row t_ref09_Row x51 0,.box (c_ref09_Row x68)]⟩) ((x69.length:Int)) ?_
          intro x70 hx70
          replace h := h x70 hx70
          refine awp_len 242 [] (T := tI) (l := x69) (by kernel_rfl) fun hl => ?_
          replace h := h hl
          obtain ⟨I74,⟨n74a,hz74⟩,hI74⟩ := h
          refine awp_block (awp_loopN (fun n s => ∃ (x72:Int),I74 n x72 ∧ s = ⟨257,[(22,.osl 0 0),(235,.osl 0 0),(236,vi (x51.length:Int)),(237,vi x65),(242,vs x69),(243,vi x70),(244,vi x72)],[.row t_ref09_Row x51 0]⟩) (n := n74a) (s0 := ⟨257,[(22,.osl 0 0),(235,.osl 0 0),(236,vi (x51.length:Int)),(237,vi x65),(242,vs x69),(243,vi x70),(244,vi 0)],[.row t_ref09_Row x51 0]⟩) (wk_ghosts hk (l := [.keep [22,235,236,237,242,243,244],.cut 1,.keep [22,235,236,237,242,243,244]]) (by kernel_rfl)) ⟨0,hz74,rfl⟩ ?_)
          rintro n74 s ⟨x72,hx74,rfl⟩
          have h := hI74 n74 x72 hx74
          refine awp_spine (rc [22,235,236,237,242,243,244,245] [] [] [] ⟨257,[(22,.osl 0 0),(235,.osl 0 0),(236,vi (x51.length:Int)),(237,vi x65),(242,vs x69),(243,vi x70),(244,vi x72),(245,vb (decide (x72 < x70)))],[.row t_ref09_Row x51 0]⟩ (pe) (tc ((awp_spine (awp_cond (b := decide (x72 < x70)) (by kernel_rfl) (fun hb => ?_) (fun hb => ?_))))))
          · replace h := h.1 (of_decide_eq_true hb)
            obtain ⟨o54,h⟩ := h
            refine awp_skip (tc ((awp_spine (awp_block (awp_spine (rc [22,31,235,236,237,242,243,244] [] [] [] ⟨257,[(22,.osl 0 0),(31,vi (gI x69 x72)),(235,.osl 0 0),(236,vi (x51.length:Int)),(237,vi x65),(242,vs x69),(243,vi x70),(244,vi x72)],[.row t_ref09_Row x51 0]⟩ (pn o54 pe) (tc ((awp_spine (rc [22,235,236,237,242,243,244,253] [] [] [] ⟨257,[(22,.osl 0 0),(235,.osl 0 0),(236,vi (x51.length:Int)),(237,vi x65),(242,vs x69),(243,vi x70),(244,vi x72),(253,vb ((decide ((gI x69 x72) < (-1073741824))) || (decide ((gI x69 x72) > (1073741824:Int)))))],[.row t_ref09_Row x51 0]⟩ (pn (fun hg => ⟨hg,trivial⟩ : (!(decide ((gI x69 x72) < (-1073741824)))) = true → (!(decide ((gI x69 x72) < (-1073741824)))) = true ∧ True) (pn (fun hc => not_f hc : (decide ((gI x69 x72) < (-1073741824))) = false → (!(decide ((gI x69 x72) < (-1073741824)))) = true) pe)) (tc ((awp_cond (b := (decide ((gI x69 x72) < (-1073741824))) || (decide ((gI x69 x72) > (1073741824:Int)))) (by kernel_rfl) (fun hb => ?_) (fun hb => ?_))))))))))))))
            · replace h := h.1 (hb)
              refine awp_spine (rc [4,5] [] [] [] ⟨257,[(4,.nils),(5,vi (3:Int))],[.row t_ref09_Row x51 0]⟩ (pe) (tc ((awp_ret (tr (tr (tr (blk_r (tr (tr (tr (tr (blk_r (tr (tr (blk_r (tr (tr (tr (tr (blk_r (tr (tr (tr (tr (tr (tr (tr (tr (?_))))))))))))))))))))))))))))))
              exact re hk (.tup [.d (.sl t_ref09_Row) ((([] : List ref09_Row),3).1),vi ((([] : List ref09_Row),3).2)]) [.keep [4,5],.nilAt 4 [] t_ref09_Row,.keep [4,5]] ⟨257,[(4,.d (.sl t_ref09_Row) ([] : List ref09_Row)),(5,vi (3:Int))],[.row t_ref09_Row x51 0]⟩ ⟨(([] : List ref09_Row),3),rfl,rfl,h⟩
            · replace h := h.2 (hb)
              obtain ⟨o55,h⟩ := h
              refine awp_skip (te ((te ((blk_n (tc ((rc [22,235,236,237,242,243,244] [] [] [] ⟨257,[(22,.osl 0 0),(235,.osl 0 0),(236,vi (x51.length:Int)),(237,vi x65),(242,vs x69),(243,vi x70),(244,vi (x72 + (1:Int)))],[.row t_ref09_Row x51 0]⟩ (pn o55 pe) (te ((te ((te ((then_n (?_))))))))))))))))
              obtain ⟨m,hm,h⟩ := h
              exact ⟨m,hm,⟨257,[(22,.osl 0 0),(235,.osl 0 0),(236,vi (x51.length:Int)),(237,vi x65),(242,vs x69),(243,vi x70),(244,vi (x72 + (1:Int)))],[.row t_ref09_Row x51 0]⟩,wk_ghosts hk (l := [.keep [22,235,236,237,242,243,244]]) (by kernel_rfl),x72 + (1:Int),h,rfl⟩
          · replace h := h.2 (of_decide_eq_false hb)
            obtain ⟨o56,h⟩ := h
            refine awp_exit (then_x (then_x (then_x (blk_h (te ((te ((blk_n (tc ((rc [22,235,236,237] [] [] [] ⟨257,[(22,.osl 0 0),(235,.osl 0 0),(236,vi (x51.length:Int)),(237,vi (x65 + (1:Int)))],[.row t_ref09_Row x51 0]⟩ (pn o56 pe) (te ((te ((te ((then_n (?_))))))))))))))))))))
            obtain ⟨m,hm,h⟩ := h
            exact ⟨m,hm,⟨257,[(22,.osl 0 0),(235,.osl 0 0),(236,vi (x51.length:Int)),(237,vi (x65 + (1:Int)))],[.row t_ref09_Row x51 0]⟩,wk_ghosts hk (l := [.keep [22,235,236,237]]) (by kernel_rfl),x65 + (1:Int),h,rfl⟩
        · replace h := h.2 (of_decide_eq_false hb)
          refine awp_exit (then_x (then_x (then_x (blk_h (tc ((awp_spine (rc [4,5] [] [] [] ⟨257,[(4,.osl 0 0),(5,vi 0)],[.row t_ref09_Row x51 0]⟩ (pe) (tc ((awp_ret (tr (tr (tr (tr (tr (tr (tr (tr (tr (?_)))))))))))))))))))))
          exact re hk (.tup [.d (.sl t_ref09_Row) ((x51,0).1),vi ((x51,0).2)]) [.keep [4,5],.freeze 0] ⟨257,[(4,.d (.sl t_ref09_Row) x51),(5,vi 0)],[.dead]⟩ ⟨(x51,0),rfl,rfl,h⟩
theorem ok_ref09_Eliminate (a1 : (List ref09_Row)) (a2:Int) (h : ref09_Eliminate.pre a1 a2) : OkC prog 58 [.d (.sl t_ref09_Row) a1,vi a2] (.tup [.d (.sl t_ref09_Row) ((ref09_Eliminate.fn a1 a2).1),vi ((ref09_Eliminate.fn a1 a2).2)]) :=
  OkC.of call_ref09_Eliminate ((walk_ref09_Eliminate a1 a2 _ (ref09_Eliminate.spec a1 a2 h)).mono fun r o ⟨x,hr,ho,hx⟩ => ⟨by rw [hr,hx],ho⟩) rfl rfl (fun _ => rfl)

noncomputable abbrev b29 : Code := bodyOf Try.f29
theorem call_ref09_stack : CallOk prog 29 := ⟨_,Try.func29,by kernel_rfl,by kernel_rfl⟩
theorem walk_ref09_stack (a1 : (List api_Cond)) (a2:Int) (Q : (List (List ref09_Row)) × (List ref09_Row) × Int → Prop) (h : ref09_stack.wp a1 a2 Q) : VCalls prog 29 [.d (.sl t_api_Cond) a1,vi a2] [] (fun r o => ∃ x,r = .tup [.d (.sl (.sl t_ref09_Row)) x.1,.d (.sl t_ref09_Row) x.2.1,vi x.2.2] ∧ o = [] ∧ Q x) := by
  refine body Try.func29 (spine (subC [0] b29) [(spine (subC [1,0,0] b29) [(.block 0 (.loop (spine (subC [1,0,1,0,0,0] b29) [(spine (.cond (.tmp 14) .skip (.exit 0)) [(spine (.block 1 (spine (subC [1,0,1,0,0,1,1,0,0,0] b29) [(spine (subC [1,0,1,0,0,1,1,0,0,1,0,0] b29) [(.cond (.tmp 20) (.exit 1) .skip),(spine (subC [1,0,1,0,0,1,1,0,0,1,1,0] b29) [(spine (subC [1,0,1,0,0,1,1,0,0,1,1,1,0] b29) [(subC [1,0,1,0,0,1,1,0,0,1,1,1,1] b29)])])])])) [(subC [1,0,1,0,0,1,1,1] b29)])])]))),(spine (subC [1,1,0] b29) [(spine (subC [1,1,1,0,0] b29) [(.block 2 (.loop (spine (subC [1,1,1,0,1,0,0,0,0] b29) [(.cond (.tmp 43) .skip (.exit 2)),(spine (.block 3 (spine (subC [1,1,1,0,1,0,0,1,0,0,0] b29) [(spine (subC [1,1,1,0,1,0,0,1,0,0,1,0] b29) [(spine (subC [1,1,1,0,1,0,0,1,0,0,1,1,0] b29) [(.cond (.tmp 57) (spine (subC [1,1,1,0,1,0,0,1,0,0,1,1,1,0,0] b29) [.ret]) .skip)])])])) [(subC [1,1,1,0,1,0,0,1,1] b29)])]))),(spine (subC [1,1,1,1,0] b29) [.ret])])])])]) fun cx hd hi hk => ?_
  show AWp prog cx _ _ ⟨61,[(0,.d (.sl t_api_Cond) a1),(1,vi a2)],[]⟩
  replace hk : cx.E.len = 0 := hk
  unfold ref09_stack.wp at h
  refine awp_spine (rc [0,1,5] [] [] [] ⟨61,[(0,.d (.sl t_api_Cond) a1),(1,vi a2),(5,.nils)],[]⟩ (pe) (tc ((awp_spine (rc [0,1,5,11,12,13] [] [] [] ⟨61,[(0,.d (.sl t_api_Cond) a1),(1,vi a2),(5,.nils),(11,.d (.sl t_api_Cond) a1),(12,vi (a1.length:Int)),(13,vi 0)],[]⟩ (pe) (tc ((awp_len 0 [] (T := t_api_Cond) (l := a1) (by kernel_rfl) fun hl => ?_))))))))
  replace h := h hl
  obtain ⟨I7,⟨n7a,hz7⟩,hI7⟩ := h
  refine awp_block (awp_loopN (fun n s => ∃ (x3:Int) (x4 : (List ref09_Row)),I7 n x3 x4 ∧ s = ⟨61,[(0,.d (.sl t_api_Cond) a1),(1,vi a2),(5,.osl 0 0),(11,.d (.sl t_api_Cond) a1),(12,vi (a1.length:Int)),(13,vi x3)],[.row t_ref09_Row x4 0]⟩) (n := n7a) (s0 := ⟨61,[(0,.d (.sl t_api_Cond) a1),(1,vi a2),(5,.osl 0 0),(11,.d (.sl t_api_Cond) a1),(12,vi (a1.length:Int)),(13,vi 0)],[.row t_ref09_Row ([] : List ref09_Row) 0]⟩) (wk_ghosts hk (l := [.keep [0,1,5,11,12,13],.adopt 5 t_ref09_Row,.keep [0,1,5,11,12,13]]) (by kernel_rfl)) ⟨0,([] : List ref09_Row),hz7,rfl⟩ ?_)
  rintro n7 s ⟨x3,x4,hx7,rfl⟩
  have h := hI7 n7 x3 x4 hx7
  refine awp_spine (rc [0,1,5,11,12,13,14] [] [] [] ⟨61,[(0,.d (.sl t_api_Cond) a1),(1,vi a2),(5,.osl 0 0),(11,.d (.sl t_api_Cond) a1),(12,vi (a1.length:Int)),(13,vi x3),(14,vb (decide (x3 < (a1.length:Int))))],[.row t_ref09_Row x4 0]⟩ (pe) (tc ((awp_spine (awp_cond (b := decide (x3 < (a1.length:Int))) (by kernel_rfl) (fun hb => ?_) (fun hb => ?_))))))
  · replace h := h.1 (of_decide_eq_true hb)
    obtain ⟨o1,h⟩ := h
    refine awp_skip (tc ((awp_spine (awp_block (awp_spine (rc [0,1,5,7,8,11,12,13] [] [] [] ⟨61,[(0,.d (.sl t_api_Cond) a1),(1,vi a2),(5,.osl 0 0),(7,vi x3),(8,.ref 1 0 0),(11,.d (.sl t_api_Cond) a1),(12,vi (a1.length:Int)),(13,vi x3)],[.row t_ref09_Row x4 0,.box (c_api_Cond (a1.getD (Int.toNat x3) d_api_Cond))]⟩ (pn o1 pe) (tc ((awp_abs (fun (x8 : api_Cond) => ⟨61,[(0,.d (.sl t_api_Cond) a1),(1,vi a2),(5,.osl 0 0),(7,vi x3),(8,.ref 1 0 0),(11,.d (.sl t_api_Cond) a1),(12,vi (a1.length:Int)),(13,vi x3)],[.row t_ref09_Row x4 0,.box (c_api_Cond x8)]⟩) (a1.getD (Int.toNat x3) d_api_Cond) ?_)))))))))
    intro x8 hx8
    replace h := h x8 hx8
    refine awp_spine (rc [0,1,5,7,8,11,12,13,20] [] [] [] ⟨61,[(0,.d (.sl t_api_Cond) a1),(1,vi a2),(5,.osl 0 0),(7,vi x3),(8,.ref 1 0 0),(11,.d (.sl t_api_Cond) a1),(12,vi (a1.length:Int)),(13,vi x3),(20,vb (x8.1 == (2:Int)))],[.row t_ref09_Row x4 0,.box (c_api_Cond x8)]⟩ (pe) (tc ((awp_cond (b := x8.1 == (2:Int)) (by kernel_rfl) (fun hb => ?_) (fun hb => ?_)))))
    · replace h := h.1 (eq_of_beq hb)
      obtain ⟨o2,h⟩ := h
      refine awp_exit (then_x (then_x (blk_h (tc ((rc [0,1,5,11,12,13] [] [] [] ⟨61,[(0,.d (.sl t_api_Cond) a1),(1,vi a2),(5,.osl 0 0),(11,.d (.sl t_api_Cond) a1),(12,vi (a1.length:Int)),(13,vi (x3 + (1:Int)))],[.row t_ref09_Row x4 0,.box (c_api_Cond x8)]⟩ (pn o2 pe) (te ((te ((te ((then_n (?_))))))))))))))
      obtain ⟨m,hm,h⟩ := h
      exact ⟨m,hm,⟨61,[(0,.d (.sl t_api_Cond) a1),(1,vi a2),(5,.osl 0 0),(11,.d (.sl t_api_Cond) a1),(12,vi (a1.length:Int)),(13,vi (x3 + (1:Int)))],[.row t_ref09_Row x4 0]⟩,wk_ghosts hk (l := [.keep [0,1,5,11,12,13],.cut 1,.keep [0,1,5,11,12,13]]) (by kernel_rfl),x3 + (1:Int),x4,h,rfl⟩
    · replace h := h.2 (ne_of_beq_false hb)
      obtain ⟨o3,h⟩ := h
      refine awp_skip (tc ((awp_spine (rc [0,1,5,7,8,9,11,12,13] [] [] [] ⟨61,[(0,.d (.sl t_api_Cond) a1),(1,vi a2),(5,.osl 0 0),(7,vi x3),(8,.ref 1 0 0),(9,.osl 2 0),(11,.d (.sl t_api_Cond) a1),(12,vi (a1.length:Int)),(13,vi x3)],[.row t_ref09_Row x4 0,.box (c_api_Cond x8),.row tI (List.replicate (Int.toNat (a1.length:Int)) (0:Int)) 0]⟩ (pn o3 pe) (tc ((awp_abs (fun (x9 : (List Int)) => ⟨61,[(0,.d (.sl t_api_Cond) a1),(1,vi a2),(5,.osl 0 0),(7,vi x3),(8,.ref 1 0 0),(9,.osl 2 0),(11,.d (.sl t_api_Cond) a1),(12,vi (a1.length:Int)),(13,vi x3)],[.row t_ref09_Row x4 0,.box (c_api_Cond x8),.row tI x9 0]⟩) (List.replicate (Int.toNat (a1.length:Int)) (0:Int)) ?_)))))))
      intro x9 hx9
      replace h := h x9 hx9
      refine awp_len 0 [] (T := t_api_Cond) (l := a1) (by kernel_rfl) fun hl => ?_
      replace h := h hl
      obtain ⟨o4,o5,h⟩ := h
      refine awp_spine (rc [0,1,5,8,9,11,12,13] [] [] [] ⟨61,[(0,.d (.sl t_api_Cond) a1),(1,vi a2),(5,.osl 0 0),(8,.ref 1 0 0),(9,.osl 2 0),(11,.d (.sl t_api_Cond) a1),(12,vi (a1.length:Int)),(13,vi x3)],[.row t_ref09_Row x4 0,.box (c_api_Cond x8),.row tI (x9.set (Int.toNat x3) (1:Int)) 0]⟩ (pn o4 (pn o5 pe)) (tc ((awp_abs (fun (x10 : (List Int)) => ⟨61,[(0,.d (.sl t_api_Cond) a1),(1,vi a2),(5,.osl 0 0),(8,.ref 1 0 0),(9,.osl 2 0),(11,.d (.sl t_api_Cond) a1),(12,vi (a1.length:Int)),(13,vi x3)],[.row t_ref09_Row x4 0,.box (c_api_Cond x8),.row tI x10 0]⟩) (x9.set (Int.toNat x3) (1:Int)) ?_))))
      intro x10 hx10
      replace h := h x10 hx10
      obtain ⟨o6,h⟩ := h
      refine awp_gh hk [.freeze 2,.keep [0,1,5,8,9,11,12,13]] ⟨61,[(0,.d (.sl t_api_Cond) a1),(1,vi a2),(5,.osl 0 0),(8,.ref 1 0 0),(9,vs x10),(11,.d (.sl t_api_Cond) a1),(12,vi (a1.length:Int)),(13,vi x3)],[.row t_ref09_Row x4 0,.box (c_api_Cond x8),.dead]⟩ (by kernel_rfl) (rc [0,1,5,11,12,13] [] [] [8] ⟨61,[(0,.d (.sl t_api_Cond) a1),(1,vi a2),(5,.osl 0 1),(11,.d (.sl t_api_Cond) a1),(12,vi (a1.length:Int)),(13,vi x3)],[.row t_ref09_Row (x4 ++ [(x8.2.2,x8.1 == (1:Int),x10)]) 1,.box (c_api_Cond x8),.dead]⟩ (pn (by decide : 1 * 4 ≤ 16777216) (pn o6 pe)) (te ((te ((te ((te ((blk_n (tc ((awp_abs (fun (x11 : (List ref09_Row)) => ⟨61,[(0,.d (.sl t_api_Cond) a1),(1,vi a2),(5,.osl 0 1),(11,.d (.sl t_api_Cond) a1),(12,vi (a1.length:Int)),(13,vi x3)],[.row t_ref09_Row x11 1,.box (c_api_Cond x8),.dead]⟩) (x4 ++ [(x8.2.2,x8.1 == (1:Int),x10)]) ?_)))))))))))))
      intro x11 hx11
      replace h := h x11 hx11
      obtain ⟨o7,h⟩ := h
      refine rc [0,1,5,11,12,13] [] [] [] ⟨61,[(0,.d (.sl t_api_Cond) a1),(1,vi a2),(5,.osl 0 1),(11,.d (.sl t_api_Cond) a1),(12,vi (a1.length:Int)),(13,vi (x3 + (1:Int)))],[.row t_ref09_Row x11 1,.box (c_api_Cond x8),.dead]⟩ (pn o7 pe) (te ((te ((te ((then_n (?_))))))))
      obtain ⟨m,hm,h⟩ := h
      exact ⟨m,hm,⟨61,[(0,.d (.sl t_api_Cond) a1),(1,vi a2),(5,.osl 0 0),(11,.d (.sl t_api_Cond) a1),(12,vi (a1.length:Int)),(13,vi (x3 + (1:Int)))],[.row t_ref09_Row x11 0]⟩,wk_ghosts hk (l := [.keep [0,1,5,11,12,13],.cut 1,.reset 0,.keep [0,1,5,11,12,13]]) (by kernel_rfl),x3 + (1:Int),x11,h,rfl⟩
  · replace h := h.2 (of_decide_eq_false hb)
    obtain ⟨o8,h⟩ := h
    refine awp_exit (then_x (then_x (then_x (blk_h (tc ((awp_spine (rc [1,4,5] [] [] [] ⟨61,[(1,vi a2),(4,.osl 1 0),(5,.osl 0 0)],[.row t_ref09_Row x4 0,.row (.sl t_ref09_Row) (List.replicate (Int.toNat a2) []) 0]⟩ (pn o8 pe) (tc ((awp_abs (fun (x12 : (List (List ref09_Row))) => ⟨61,[(1,vi a2),(4,.osl 1 0),(5,.osl 0 0)],[.row t_ref09_Row x4 0,.row (.sl t_ref09_Row) x12 0]⟩) (List.replicate (Int.toNat a2) []) ?_)))))))))))
    intro x12 hx12
    replace h := h x12 hx12
    obtain ⟨o9,h⟩ := h
    obtain ⟨I19,⟨n19a,hz19⟩,hI19⟩ := h
    refine awp_spine (rc [4,5,10] [] [] [] ⟨61,[(4,.osl 1 0),(5,.osl 0 0),(10,vi (a2 - (1:Int)))],[.row t_ref09_Row x4 0,.row (.sl t_ref09_Row) x12 0]⟩ (pn o9 pe) (tc ((awp_block (awp_loopN (fun n s => ∃ (x13 : (List ref09_Row)) (x14:Int) (x15 : (List (List ref09_Row))),I19 n x13 x14 x15 ∧ s = ⟨61,[(4,.osl 1 0),(5,.d (.sl t_ref09_Row) x13),(10,vi x14)],[.dead,.row (.sl t_ref09_Row) x15 0]⟩) (n := n19a) (s0 := ⟨61,[(4,.osl 1 0),(5,.d (.sl t_ref09_Row) x4),(10,vi (a2 - (1:Int)))],[.dead,.row (.sl t_ref09_Row) x12 0]⟩) (wk_ghosts hk (l := [.keep [4,5,10],.freeze 0,.keep [4,5,10]]) (by kernel_rfl)) ⟨x4,a2 - (1:Int),x12,hz19,rfl⟩ ?_)))))
    rintro n19 s ⟨x13,x14,x15,hx19,rfl⟩
    have h := hI19 n19 x13 x14 x15 hx19
    refine awp_spine (rc [4,5,10,43] [] [] [] ⟨61,[(4,.osl 1 0),(5,.d (.sl t_ref09_Row) x13),(10,vi x14),(43,vb (decide (x14 ≥ (0:Int))))],[.dead,.row (.sl t_ref09_Row) x15 0]⟩ (pe) (tc ((awp_cond (b := decide (x14 ≥ (0:Int))) (by kernel_rfl) (fun hb => ?_) (fun hb => ?_)))))
    · replace h := h.1 (of_decide_eq_true hb)
      obtain ⟨o10,o11,h⟩ := h
      obtain ⟨o12,h⟩ := h
      refine awp_skip (tc ((awp_spine (awp_block (awp_spine (rc [4,5,10] [] [] [] ⟨61,[(4,.osl 1 0),(5,.d (.sl t_ref09_Row) x13),(10,vi x14)],[.dead,.row (.sl t_ref09_Row) (x15.set (Int.toNat x14) x13) 0]⟩ (pn o10 (pn o11 pe)) (tc ((awp_spine (rc [4,5,6,10] [] [(2,.dat (.tup [.d (.sl t_ref09_Row) ((ref09_Eliminate.fn x13 x14).1),vi ((ref09_Eliminate.fn x13 x14).2)]))] [] ⟨61,[(4,.osl 1 0),(5,.d (.sl t_ref09_Row) ((ref09_Eliminate.fn x13 x14).1)),(6,vi ((ref09_Eliminate.fn x13 x14).2)),(10,vi x14)],[.dead,.row (.sl t_ref09_Row) (x15.set (Int.toNat x14) x13) 0]⟩ (pn (ok_ref09_Eliminate x13 x14 (o12)) pe) (tc ((awp_abs (fun (x20 : (List ref09_Row) × Int) => ⟨61,[(4,.osl 1 0),(5,.d (.sl t_ref09_Row) x20.1),(6,vi x20.2),(10,vi x14)],[.dead,.row (.sl t_ref09_Row) (x15.set (Int.toNat x14) x13) 0]⟩) (ref09_Eliminate.fn x13 x14) ?_)))))))))))))
      intro x20 hx20
      replace h := h x20 hx20
      refine awp_spine (rc [4,5,6,10,57] [] [] [] ⟨61,[(4,.osl 1 0),(5,.d (.sl t_ref09_Row) x20.1),(6,vi x20.2),(10,vi x14),(57,vb (x20.2 != (0:Int)))],[.dead,.row (.sl t_ref09_Row) (x15.set (Int.toNat x14) x13) 0]⟩ (pe) (tc ((awp_cond (b := x20.2 != (0:Int)) (by kernel_rfl) (fun hb => ?_) (fun hb => ?_)))))
      · replace h := h.1 (bne_iff_ne.mp hb)
        refine awp_spine (rc [4,5,6] [] [] [] ⟨61,[(4,.nils),(5,.nils),(6,vi x20.2)],[.dead,.row (.sl t_ref09_Row) (x15.set (Int.toNat x14) x13) 0]⟩ (pe) (tc ((awp_ret (tr (tr (tr (tr (blk_r (tr (tr (tr (blk_r (tr (tr (tr (tr (?_))))))))))))))))))
        exact re hk (.tup [.d (.sl (.sl t_ref09_Row)) ((([] : List (List ref09_Row)),([] : List ref09_Row),x20.2).1),.d (.sl t_ref09_Row) ((([] : List (List ref09_Row)),([] : List ref09_Row),x20.2).2.1),vi ((([] : List (List ref09_Row)),([] : List ref09_Row),x20.2).2.2)]) [.keep [4,5,6],.nilAt 4 [] (.sl t_ref09_Row),.nilAt 5 [] t_ref09_Row,.keep [4,5,6]] ⟨61,[(4,.d (.sl (.sl t_ref09_Row)) ([] : List (List ref09_Row))),(5,.d (.sl t_ref09_Row) ([] : List ref09_Row)),(6,vi x20.2)],[.dead,.row (.sl t_ref09_Row) (x15.set (Int.toNat x14) x13) 0]⟩ ⟨(([] : List (List ref09_Row)),([] : List ref09_Row),x20.2),rfl,rfl,h⟩
      · replace h := h.2 (bne_f hb)
        obtain ⟨o13,h⟩ := h
        refine awp_skip (te ((te ((te ((blk_n (tc ((rc [4,5,10] [] [] [] ⟨61,[(4,.osl 1 0),(5,.d (.sl t_ref09_Row) x20.1),(10,vi (x14 - (1:Int)))],[.dead,.row (.sl t_ref09_Row) (x15.set (Int.toNat x14) x13) 0]⟩ (pn o13 pe) (te ((te ((then_n (?_))))))))))))))))
        obtain ⟨m,hm,h⟩ := h
        exact ⟨m,hm,⟨61,[(4,.osl 1 0),(5,.d (.sl t_ref09_Row) x20.1),(10,vi (x14 - (1:Int)))],[.dead,.row (.sl t_ref09_Row) (x15.set (Int.toNat x14) x13) 0]⟩,wk_ghosts hk (l := [.keep [4,5,10]]) (by kernel_rfl),x20.1,x14 - (1:Int),x15.set (Int.toNat x14) x13,h,rfl⟩
    · replace h := h.2 (of_decide_eq_false hb)
      refine awp_exit (then_x (then_x (blk_h (tc ((awp_spine (rc [4,5,6] [] [] [] ⟨61,[(4,.osl 1 0),(5,.d (.sl t_ref09_Row) x13),(6,vi 0)],[.dead,.row (.sl t_ref09_Row) x15 0]⟩ (pe) (tc ((awp_ret (tr (tr (tr (tr (tr (?_))))))))))))))))
      exact re hk (.tup [.d (.sl (.sl t_ref09_Row)) ((x15,x13,0).1),.d (.sl t_ref09_Row) ((x15,x13,0).2.1),vi ((x15,x13,0).2.2)]) [.keep [4,5,6],.freeze 1] ⟨61,[(4,.d (.sl (.sl t_ref09_Row)) x15),(5,.d (.sl t_ref09_Row) x13),(6,vi 0)],[.dead,.dead]⟩ ⟨(x15,x13,0),rfl,rfl,h⟩
theorem ok_ref09_stack (a1 : (List api_Cond)) (a2:Int) (h : ref09_stack.pre a1 a2) : OkC prog 29 [.d (.sl t_api_Cond) a1,vi a2] (.tup [.d (.sl (.sl t_ref09_Row)) ((ref09_stack.fn a1 a2).1),.d (.sl t_ref09_Row) ((ref09_stack.fn a1 a2).2.1),vi ((ref09_stack.fn a1 a2).2.2)]) :=
  OkC.of call_ref09_stack ((walk_ref09_stack a1 a2 _ (ref09_stack.spec a1 a2 h)).mono fun r o ⟨x,hr,ho,hx⟩ => ⟨by rw [hr,hx],ho⟩) rfl rfl (fun _ => rfl)

end Go.Proofs.Ytlncingakpelbaa
