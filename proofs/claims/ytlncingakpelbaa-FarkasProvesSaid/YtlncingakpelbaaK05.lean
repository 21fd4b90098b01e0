/- Part of a proof that the law FarkasProves of the program holds for every input: printed by a program of this work: how the functions are walked. No conditions. -/
import Derived.Test.YtlncingakpelbaaProg
import Derived.Test.YtlncingakpelbaaP04
namespace Go.Proofs.Ytlncingakpelbaa
open Go
set_option linter.unusedVariables false
set_option maxHeartbeats 4000000

noncomputable abbrev prog : Program := Try.prog
def tyTab : List (Nat × TI) := [(3,⟨.int .i64,1,8,[.int .i64 0],some (.int .i64)⟩),
  (4,⟨.bool,1,1,[.bool false],some .bool⟩),
  (22,⟨.sl 35,1,24,[.slice none 0 0],some (.sl t_api_Cond)⟩),
  (25,⟨.sl 3,1,24,[.slice none 0 0],some (.sl (.int .i64))⟩),
  (26,⟨.int .i64,1,8,[.int .i64 0],some (.int .i64)⟩),
  (33,⟨.st [(0,1),(1,1)],2,32,[.slice none 0 0,.int .i64 0],some t_api_Lin⟩),
  (35,⟨.st [(0,1),(1,1),(2,2)],4,48,[.int .i64 0,.int .i64 0,.slice none 0 0,.int .i64 0],some t_api_Cond⟩),
  (36,⟨.fn,1,8,[.nilFunc],none⟩),
  (53,⟨.sl 59,1,24,[.slice none 0 0],some (.sl t_farkas_table)⟩),
  (57,⟨.sl 99,1,24,[.slice none 0 0],some (.sl t_farkas_row)⟩),
  (59,⟨.st [(0,1),(1,1)],2,32,[.int .i64 0,.slice none 0 0],some t_farkas_table⟩),
  (61,⟨.sl 62,1,24,[.slice none 0 0],some (.sl (.sl t_ref09_Row))⟩),
  (62,⟨.sl 102,1,24,[.slice none 0 0],some (.sl t_ref09_Row)⟩),
  (67,⟨.st [(0,1),(1,1)],2,32,[.slice none 0 0,.int .i64 0],some t_farkas_point⟩),
  (71,⟨.st [(0,1),(1,1)],2,16,[.int .i64 0,.int .i64 0],some t_farkas_fraction⟩),
  (73,⟨.sl 77,1,24,[.slice none 0 0],some (.sl t_ref09_Ratio)⟩),
  (75,⟨.st [(0,1),(1,1)],2,32,[.bool false,.slice none 0 0],some t_ref09_Int⟩),
  (77,⟨.st [(0,2),(2,2)],4,64,[.bool false,.slice none 0 0,.bool false,.slice none 0 0],some t_ref09_Ratio⟩),
  (91,⟨.fn,1,8,[.nilFunc],none⟩),
  (97,⟨.sl 3,1,24,[.slice none 0 0],some (.sl (.int .i64))⟩),
  (99,⟨.st [(0,1),(1,1)],2,32,[.bool false,.slice none 0 0],some t_farkas_row⟩),
  (102,⟨.st [(0,2),(2,1),(3,1)],4,64,[.slice none 0 0,.int .i64 0,.bool false,.slice none 0 0],some t_ref09_Row⟩),
  (107,⟨.ptr,1,8,[.pointer none],none⟩),
  (110,⟨.ptr,1,8,[.pointer none],none⟩),
  (114,⟨.int .u64,1,8,[.int .u64 0],some (.int .u64)⟩),
  (132,⟨.fn,1,8,[.nilFunc],none⟩),
  (138,⟨.fn,1,8,[.nilFunc],none⟩)]
abbrev τ : TyTab := fun t => lookT t tyTab
theorem tab : TabOk prog τ := tabOk_of (by
  refine List.forall_mem_cons.2 ⟨TI.ok_mk (by kernel_rfl) (Try.underlying3) ⟨rfl,by decide,rfl⟩,?_⟩
  refine List.forall_mem_cons.2 ⟨TI.ok_mk (by kernel_rfl) (Try.underlying4) ⟨rfl,by decide,rfl⟩,?_⟩
  refine List.forall_mem_cons.2 ⟨TI.ok_mk (by kernel_rfl) (Try.underlying22) ⟨rfl,by decide,rfl⟩,?_⟩
  refine List.forall_mem_cons.2 ⟨TI.ok_mk (by kernel_rfl) (Try.underlying25) ⟨rfl,by decide,rfl⟩,?_⟩
  refine List.forall_mem_cons.2 ⟨TI.ok_mk (by kernel_rfl) (Try.underlying26) ⟨rfl,by decide,rfl⟩,?_⟩
  refine List.forall_mem_cons.2 ⟨TI.ok_mk (by kernel_rfl) (⟨_,Try.underlying33,by kernel_rfl,by decide⟩) ⟨rfl,by decide,rfl⟩,?_⟩
  refine List.forall_mem_cons.2 ⟨TI.ok_mk (by kernel_rfl) (⟨_,Try.underlying35,by kernel_rfl,by decide⟩) ⟨rfl,by decide,rfl⟩,?_⟩
  refine List.forall_mem_cons.2 ⟨TI.ok_mk (by kernel_rfl) (⟨_,_,_,Try.underlying36⟩) trivial,?_⟩
  refine List.forall_mem_cons.2 ⟨TI.ok_mk (by kernel_rfl) (Try.underlying53) ⟨rfl,by decide,rfl⟩,?_⟩
  refine List.forall_mem_cons.2 ⟨TI.ok_mk (by kernel_rfl) (Try.underlying57) ⟨rfl,by decide,rfl⟩,?_⟩
  refine List.forall_mem_cons.2 ⟨TI.ok_mk (by kernel_rfl) (⟨_,Try.underlying59,by kernel_rfl,by decide⟩) ⟨rfl,by decide,rfl⟩,?_⟩
  refine List.forall_mem_cons.2 ⟨TI.ok_mk (by kernel_rfl) (Try.underlying61) ⟨rfl,by decide,rfl⟩,?_⟩
  refine List.forall_mem_cons.2 ⟨TI.ok_mk (by kernel_rfl) (Try.underlying62) ⟨rfl,by decide,rfl⟩,?_⟩
  refine List.forall_mem_cons.2 ⟨TI.ok_mk (by kernel_rfl) (⟨_,Try.underlying67,by kernel_rfl,by decide⟩) ⟨rfl,by decide,rfl⟩,?_⟩
  refine List.forall_mem_cons.2 ⟨TI.ok_mk (by kernel_rfl) (⟨_,Try.underlying71,by kernel_rfl,by decide⟩) ⟨rfl,by decide,rfl⟩,?_⟩
  refine List.forall_mem_cons.2 ⟨TI.ok_mk (by kernel_rfl) (Try.underlying73) ⟨rfl,by decide,rfl⟩,?_⟩
  refine List.forall_mem_cons.2 ⟨TI.ok_mk (by kernel_rfl) (⟨_,Try.underlying75,by kernel_rfl,by decide⟩) ⟨rfl,by decide,rfl⟩,?_⟩
  refine List.forall_mem_cons.2 ⟨TI.ok_mk (by kernel_rfl) (⟨_,Try.underlying77,by kernel_rfl,by decide⟩) ⟨rfl,by decide,rfl⟩,?_⟩
  refine List.forall_mem_cons.2 ⟨TI.ok_mk (by kernel_rfl) (⟨_,_,_,Try.underlying91⟩) trivial,?_⟩
  refine List.forall_mem_cons.2 ⟨TI.ok_mk (by kernel_rfl) (Try.underlying97) ⟨rfl,by decide,rfl⟩,?_⟩
  refine List.forall_mem_cons.2 ⟨TI.ok_mk (by kernel_rfl) (⟨_,Try.underlying99,by kernel_rfl,by decide⟩) ⟨rfl,by decide,rfl⟩,?_⟩
  refine List.forall_mem_cons.2 ⟨TI.ok_mk (by kernel_rfl) (⟨_,Try.underlying102,by kernel_rfl,by decide⟩) ⟨rfl,by decide,rfl⟩,?_⟩
  refine List.forall_mem_cons.2 ⟨TI.ok_mk (by kernel_rfl) (⟨_,Try.underlying107⟩) trivial,?_⟩
  refine List.forall_mem_cons.2 ⟨TI.ok_mk (by kernel_rfl) (⟨_,Try.underlying110⟩) trivial,?_⟩
  refine List.forall_mem_cons.2 ⟨TI.ok_mk (by kernel_rfl) (Try.underlying114) ⟨rfl,by decide,rfl⟩,?_⟩
  refine List.forall_mem_cons.2 ⟨TI.ok_mk (by kernel_rfl) (⟨_,_,_,Try.underlying132⟩) trivial,?_⟩
  refine List.forall_mem_cons.2 ⟨TI.ok_mk (by kernel_rfl) (⟨_,_,_,Try.underlying138⟩) trivial,?_⟩
  exact fun _ h => absurd h (by simp))
theorem mixed : prog.follows .mixedOrders = true := by kernel_rfl
abbrev tI : Ty := .int .i64
abbrev vs (l : List Int) : V := .d (.sl (.int .i64)) l
abbrev vu (x : Int) : V := .d (.int .u64) x
theorem pe : AllP [] := trivial
theorem pn {p : Prop} {l : List Prop} (h : p) (k : AllP l) : AllP (p :: l) := AllP.of h k
def nw : V → V | .when _ v => v | v => v
def oo (l : List Nat) (v : List V) : List (Nat × Orc) := l.map fun i => (i,.dat (nw (v.getD i .any)))
theorem rc {cx : Cx} {Q : Exit → St → Prop} {s : St} {c : Code} (live wraps : List Nat) (orc : List (Nat × Orc)) (bn : List Nat) (s' : St) {obs : List Prop} (ho : AllP obs) (hk : Q .normal s') (h : runCR prog τ wraps orc bn c live s = some (obs,s') := by kernel_rfl) : AWp prog cx c Q s :=
  awp_rc tab live wraps orc bn obs s' h ho hk
theorem dr {cx : Cx} {Q : Exit → St → Prop} {s : St} {c : Code} {K : Nat} (hK : cx.E.len = K) (live wraps ol bn : List Nat) (T : DT) (s' : St) (ho : AllO T.ob) (hk : Q .normal s') (h : drawR prog τ wraps (oo ol T.v) bn c T K live s = some (true,drawW c T s,some s',some s.objs) := by kernel_rfl) : AWp prog cx c Q s :=
  awp_dr tab mixed hK live wraps (oo ol T.v) bn T s' h ho hk
abbrev lr (n : Nat) : List Nat := List.range n
theorem tc {Q : Exit → St → Prop} {cx : Cx} {d : Code} {l : List Code} {s : St} (h : AWp prog cx d (Then Q (SpineK prog cx Q l)) s) : Then Q (SpineK prog cx Q (d :: l)) .normal s := then_n (spine_c h)
theorem te {Q : Exit → St → Prop} {cx : Cx} {s : St} (h : Q .normal s) : Then Q (SpineK prog cx Q []) .normal s := then_n (spine_e h)
theorem tr {Q : Exit → St → Prop} {s : St} {K : St → Prop} (h : Q .ret s) : Then Q K .ret s := then_r h
theorem body {f : FuncId} {fn : Func} {args : List V} {imp : List Obj} {Q : V → List Obj → Prop} (hf : prog.funcs[f]? = some fn) (c : Code)
    (h : ∀ cx : Cx,cx.dfs = [] → cx.imp = imp → cx.E.len = imp.length → AWp prog cx c (RetW cx τ fn imp.length Q) ⟨fn.ntmps,argTmps 0 args,imp⟩) (hb : fn.body = some c := by kernel_rfl) (hn : Nat.ble args.length fn.ntmps = true := by kernel_rfl) : VCalls prog f args imp Q :=
  vcalls_body tab hf hb (Nat.le_of_ble_eq_true hn) h
theorem re {cx : Cx} {s : St} {fn : Func} {Q : V → List Obj → Prop} (hE : cx.E.len = 0) (r : V) (l : List Gh) (s' : St) (hq : Q r []) (hg : ghosts 0 l s = some s' := by kernel_rfl) (h : finish τ fn 0 s' = some (r,[]) := by kernel_rfl) : RetW cx τ fn 0 Q .ret s :=
  ret_r (m := 0) (objs := []) hE l s' hg h (Nat.le_refl 0) hq

noncomputable abbrev b91 : Code := bodyOf Try.f91
theorem call_num_Fits : CallOk prog 91 := ⟨_,Try.func91,by kernel_rfl,by kernel_rfl⟩
theorem walk_num_Fits (a1:Int) (Q : Bool → Prop) (h : num_Fits.wp a1 Q) : VCalls prog 91 [vi a1] [] (fun r o => ∃ x,r = vb x ∧ o = [] ∧ Q x) := by
  refine body Try.func91 (spine (subC [0] b91) [(spine (subC [1,0] b91) [.ret])]) fun cx hd hi hk => ?_
  show AWp prog cx _ _ ⟨9,[(0,vi a1)],[]⟩
  replace hk : cx.E.len = 0 := hk
  unfold num_Fits.wp at h
  refine awp_spine (rc [0] [] [] [] ⟨9,[(0,vi a1)],[]⟩ (pe) (tc ((awp_spine (rc [2] [] [] [] ⟨9,[(2,vb ((decide (a1 ≥ (-1048576))) && (decide (a1 ≤ (1048576:Int)))))],[]⟩ (pn (fun hg => ⟨hg,trivial⟩ : (decide (a1 ≥ (-1048576))) = true → (decide (a1 ≥ (-1048576))) = true ∧ True) (pn (fun hc => hc : (decide (a1 ≥ (-1048576))) = true → (decide (a1 ≥ (-1048576))) = true) pe)) (tc ((awp_ret (tr (tr (?_)))))))))))
  exact re hk (vb ((decide (a1 ≥ (-1048576))) && (decide (a1 ≤ (1048576:Int))))) [.keep [2]] ⟨9,[(2,vb ((decide (a1 ≥ (-1048576))) && (decide (a1 ≤ (1048576:Int)))))],[]⟩ ⟨(decide (a1 ≥ (-1048576))) && (decide (a1 ≤ (1048576:Int))),rfl,rfl,h⟩
theorem ok_num_Fits (a1:Int) : OkC prog 91 [vi a1] (vb (num_Fits.fn a1)) :=
  OkC.of call_num_Fits ((walk_num_Fits a1 _ (num_Fits.spec a1)).mono fun r o ⟨x,hr,ho,hx⟩ => ⟨by rw [hr,hx],ho⟩) rfl rfl (fun _ => rfl)

noncomputable abbrev b77 : Code := bodyOf Try.f77
theorem call_lin_Valid : CallOk prog 77 := ⟨_,Try.func77,by kernel_rfl,by kernel_rfl⟩
theorem walk_lin_Valid (a1 : api_Lin) (Q : Bool → Prop) (h : lin_Valid.wp a1 Q) : VCalls prog 77 [.agg (c_api_Lin a1)] [] (fun r o => ∃ x,r = vb x ∧ o = [] ∧ Q x) := by
  refine body Try.func77 (spine (subC [0] b77) [(spine (subC [1,0,0] b77) [(.block 0 (.loop (spine (subC [1,0,1,0,0,0] b77) [(spine (.cond (.tmp 9) .skip (.exit 0)) [(spine (.block 1 (spine (subC [1,0,1,0,0,1,1,0,0,0] b77) [(spine (subC [1,0,1,0,0,1,1,0,0,1,0] b77) [(.cond (.tmp 14) (spine (subC [1,0,1,0,0,1,1,0,0,1,1,0,0] b77) [.ret]) .skip)])])) [(subC [1,0,1,0,0,1,1,1] b77)])])]))),(spine (subC [1,1,0] b77) [.ret])])]) fun cx hd hi hk => ?_
  show AWp prog cx _ _ ⟨25,[(0,.agg (c_api_Lin a1))],[]⟩
  replace hk : cx.E.len = 0 := hk
  unfold lin_Valid.wp at h
  refine awp_spine (rc [1] [] [] [0] ⟨25,[(1,.er (c_api_Lin a1))],[]⟩ (pe) (tc ((awp_spine (rc [1,6,7,8] [] [] [] ⟨25,[(1,.er (c_api_Lin a1)),(6,vs a1.1),(7,vi (a1.1.length:Int)),(8,vi 0)],[]⟩ (pe) (tc ((awp_len 1 [0] (T := tI) (l := a1.1) (by kernel_rfl) fun hl => ?_))))))))
  replace h := h hl
  obtain ⟨I4,⟨n4a,hz4⟩,hI4⟩ := h
  refine awp_block (awp_loopN (fun n s => ∃ (x2:Int),I4 n x2 ∧ s = ⟨25,[(1,.er (c_api_Lin a1)),(6,vs a1.1),(7,vi (a1.1.length:Int)),(8,vi x2)],[]⟩) (n := n4a) (s0 := ⟨25,[(1,.er (c_api_Lin a1)),(6,vs a1.1),(7,vi (a1.1.length:Int)),(8,vi 0)],[]⟩) (wk_ghosts hk (l := [.keep [1,6,7,8]]) (by kernel_rfl)) ⟨0,hz4,rfl⟩ ?_)
  rintro n4 s ⟨x2,hx4,rfl⟩
  have h := hI4 n4 x2 hx4
  refine awp_spine (rc [1,6,7,8,9] [] [] [] ⟨25,[(1,.er (c_api_Lin a1)),(6,vs a1.1),(7,vi (a1.1.length:Int)),(8,vi x2),(9,vb (decide (x2 < (a1.1.length:Int))))],[]⟩ (pe) (tc ((awp_spine (awp_cond (b := decide (x2 < (a1.1.length:Int))) (by kernel_rfl) (fun hb => ?_) (fun hb => ?_))))))
  · replace h := h.1 (of_decide_eq_true hb)
    obtain ⟨o1,h⟩ := h
    refine awp_skip (tc ((awp_spine (awp_block (awp_spine (rc [1,4,6,7,8] [] [] [] ⟨25,[(1,.er (c_api_Lin a1)),(4,vi (gI a1.1 x2)),(6,vs a1.1),(7,vi (a1.1.length:Int)),(8,vi x2)],[]⟩ (pn o1 pe) (tc ((awp_spine (rc [1,6,7,8,14] [] [(1,.dat (vb (num_Fits.fn (gI a1.1 x2))))] [] ⟨25,[(1,.er (c_api_Lin a1)),(6,vs a1.1),(7,vi (a1.1.length:Int)),(8,vi x2),(14,vb (!(num_Fits.fn (gI a1.1 x2))))],[]⟩ (pn (ok_num_Fits (gI a1.1 x2)) pe) (tc ((awp_cond (b := !(num_Fits.fn (gI a1.1 x2))) (by kernel_rfl) (fun hb => ?_) (fun hb => ?_))))))))))))))
    · replace h := h.1 ((nt hb))
      refine awp_spine (rc [2] [] [] [] ⟨25,[(2,vb false)],[]⟩ (pe) (tc ((awp_ret (tr (tr (tr (blk_r (tr (tr (tr (tr (blk_r (tr (tr (?_))))))))))))))))
      exact re hk (vb false) [.keep [2]] ⟨25,[(2,vb false)],[]⟩ ⟨false,rfl,rfl,h⟩
    · replace h := h.2 ((nf hb))
      obtain ⟨o2,h⟩ := h
      refine awp_skip (te ((te ((blk_n (tc ((rc [1,6,7,8] [] [] [] ⟨25,[(1,.er (c_api_Lin a1)),(6,vs a1.1),(7,vi (a1.1.length:Int)),(8,vi (x2 + (1:Int)))],[]⟩ (pn o2 pe) (te ((te ((te ((then_n (?_))))))))))))))))
      obtain ⟨m,hm,h⟩ := h
      exact ⟨m,hm,⟨25,[(1,.er (c_api_Lin a1)),(6,vs a1.1),(7,vi (a1.1.length:Int)),(8,vi (x2 + (1:Int)))],[]⟩,wk_ghosts hk (l := [.keep [1,6,7,8]]) (by kernel_rfl),x2 + (1:Int),h,rfl⟩
  · replace h := h.2 (of_decide_eq_false hb)
    refine awp_exit (then_x (then_x (then_x (blk_h (tc ((awp_spine (rc [2] [] [(7,.dat (vb (num_Fits.fn a1.2)))] [] ⟨25,[(2,vb ((decide ((a1.1.length:Int) ≤ (12:Int))) && (num_Fits.fn a1.2)))],[]⟩ (pn (fun hg => ⟨hg,trivial⟩ : (decide ((a1.1.length:Int) ≤ (12:Int))) = true → (decide ((a1.1.length:Int) ≤ (12:Int))) = true ∧ True) (pn (fun hg => ⟨hg,ok_num_Fits a1.2⟩ : (decide ((a1.1.length:Int) ≤ (12:Int))) = true → (decide ((a1.1.length:Int) ≤ (12:Int))) = true ∧ (OkC prog 91 [vi a1.2] (vb (num_Fits.fn a1.2)))) (pn (fun hc => hc : (decide ((a1.1.length:Int) ≤ (12:Int))) = true → (decide ((a1.1.length:Int) ≤ (12:Int))) = true) pe))) (tc ((awp_ret (tr (tr (tr (?_)))))))))))))))
    exact re hk (vb ((decide ((a1.1.length:Int) ≤ (12:Int))) && (num_Fits.fn a1.2))) [.keep [2]] ⟨25,[(2,vb ((decide ((a1.1.length:Int) ≤ (12:Int))) && (num_Fits.fn a1.2)))],[]⟩ ⟨(decide ((a1.1.length:Int) ≤ (12:Int))) && (num_Fits.fn a1.2),rfl,rfl,h⟩
theorem ok_lin_Valid (a1 : api_Lin) : OkC prog 77 [.agg (c_api_Lin a1)] (vb (lin_Valid.fn a1)) :=
  OkC.of call_lin_Valid ((walk_lin_Valid a1 _ (lin_Valid.spec a1)).mono fun r o ⟨x,hr,ho,hx⟩ => ⟨by rw [hr,hx],ho⟩) rfl rfl (fun _ => rfl)

noncomputable abbrev b53 : Code := bodyOf Try.f53
theorem call_cond_Valid : CallOk prog 53 := ⟨_,Try.func53,by kernel_rfl,by kernel_rfl⟩
theorem walk_cond_Valid (a1 : api_Cond) (Q : Bool → Prop) (h : cond_Valid.wp a1 Q) : VCalls prog 53 [.agg (c_api_Cond a1)] [] (fun r o => ∃ x,r = vb x ∧ o = [] ∧ Q x) := by
  refine body Try.func53 (spine (subC [0] b53) [(spine (subC [1,0,0] b53) [(.block 0 (spine (subC [1,0,1,0,0,0] b53) [(.cond (.tmp 5) .skip (subC [1,0,1,0,0,1,1] b53)),(.cond (.tmp 5) (spine (subC [1,0,1,0,1,0,0] b53) [.ret]) (spine (subC [1,0,1,0,1,1,0] b53) [(.cond (.tmp 16) (spine (subC [1,0,1,0,1,1,1,0,0] b53) [.ret]) .skip)]))])),(spine (subC [1,1,0] b53) [.ret])])]) fun cx hd hi hk => ?_
  show AWp prog cx _ _ ⟨31,[(0,.agg (c_api_Cond a1))],[]⟩
  replace hk : cx.E.len = 0 := hk
  unfold cond_Valid.wp at h
  obtain ⟨R2,hA2,hB2⟩ := h
  refine awp_spine (rc [1] [] [] [0] ⟨31,[(1,.er (c_api_Cond a1))],[]⟩ (pe) (tc ((awp_spine (rc [1,4] [] [] [] ⟨31,[(1,.er (c_api_Cond a1)),(4,vi a1.1)],[]⟩ (pe) (tc ((awp_block (awp_spine (rc [1,4,5] [] [] [] ⟨31,[(1,.er (c_api_Cond a1)),(4,vi a1.1),(5,vb (a1.1 == (0:Int)))],[]⟩ (pe) (tc ((awp_meet (fun s' => ∃ (x1 : Bool),R2 x1 ∧ Wk cx s' ⟨31,[(1,.er (c_api_Cond a1)),(4,vi a1.1),(5,vb x1)],[]⟩) ?_ ?_)))))))))))))
  · have h := hA2
    refine awp_cond (b := a1.1 == (0:Int)) (by kernel_rfl) (fun hb => ?_) (fun hb => ?_)
    · replace h := h.1 (eq_of_beq hb)
      refine awp_skip (then_n (?_))
      exact ⟨a1.1 == (0:Int),h,wk_ghosts hk (l := [.keep [1,4,5]]) (by kernel_rfl)⟩
    · replace h := h.2 (ne_of_beq_false hb)
      refine rc [1,4,5] [] [] [] ⟨31,[(1,.er (c_api_Cond a1)),(4,vi a1.1),(5,vb (a1.1 == (1:Int)))],[]⟩ (pe) (then_n (?_))
      exact ⟨a1.1 == (1:Int),h,wk_ghosts hk (l := [.keep [1,4,5]]) (by kernel_rfl)⟩
  · rintro s' ⟨x1,hx2,hw2⟩
    have h := hB2 x1 hx2
    refine spine_c (awp_wk hw2 (awp_cond (b := x1) (by kernel_rfl) (fun hb => ?_) (fun hb => ?_)))
    · replace h := h.1 (hb)
      refine awp_spine (rc [2] [] [(6,.dat (vb (lin_Valid.fn a1.2.2)))] [] ⟨31,[(2,vb ((a1.2.1 == (0:Int)) && (lin_Valid.fn a1.2.2)))],[]⟩ (pn (fun hg => ⟨hg,trivial⟩ : (a1.2.1 == (0:Int)) = true → (a1.2.1 == (0:Int)) = true ∧ True) (pn (fun hg => ⟨hg,ok_lin_Valid a1.2.2⟩ : (a1.2.1 == (0:Int)) = true → (a1.2.1 == (0:Int)) = true ∧ (OkC prog 77 [.agg (c_api_Lin a1.2.2)] (vb (lin_Valid.fn a1.2.2)))) (pn (fun hc => hc : (a1.2.1 == (0:Int)) = true → (a1.2.1 == (0:Int)) = true) pe))) (tc ((awp_ret (tr (tr (blk_r (tr (tr (?_))))))))))
      exact re hk (vb ((a1.2.1 == (0:Int)) && (lin_Valid.fn a1.2.2))) [.keep [2]] ⟨31,[(2,vb ((a1.2.1 == (0:Int)) && (lin_Valid.fn a1.2.2)))],[]⟩ ⟨(a1.2.1 == (0:Int)) && (lin_Valid.fn a1.2.2),rfl,rfl,h⟩
    · replace h := h.2 (hb)
      refine awp_spine (rc [1,16] [] [] [] ⟨31,[(1,.er (c_api_Cond a1)),(16,vb (a1.1 == (2:Int)))],[]⟩ (pe) (tc ((awp_cond (b := a1.1 == (2:Int)) (by kernel_rfl) (fun hb => ?_) (fun hb => ?_)))))
      · replace h := h.1 (eq_of_beq hb)
        refine awp_spine (rc [2] [] [(11,.dat (vb (lin_Valid.fn a1.2.2)))] [] ⟨31,[(2,vb (((decide (a1.2.1 ≥ (1:Int))) && (decide (a1.2.1 ≤ (512:Int)))) && (lin_Valid.fn a1.2.2)))],[]⟩ (pn (fun hg => ⟨hg,trivial⟩ : (decide (a1.2.1 ≥ (1:Int))) = true → (decide (a1.2.1 ≥ (1:Int))) = true ∧ True) (pn (fun hg => ⟨hg,trivial⟩ : (decide (a1.2.1 ≥ (1:Int))) = true → (decide (a1.2.1 ≥ (1:Int))) = true ∧ True) (pn (fun hc => hc : (decide (a1.2.1 ≥ (1:Int))) = true → (decide (a1.2.1 ≥ (1:Int))) = true) (pn (fun hg => ⟨hg,trivial⟩ : ((decide (a1.2.1 ≥ (1:Int))) && (decide (a1.2.1 ≤ (512:Int)))) = true → ((decide (a1.2.1 ≥ (1:Int))) && (decide (a1.2.1 ≤ (512:Int)))) = true ∧ True) (pn (fun hg => ⟨hg,ok_lin_Valid a1.2.2⟩ : ((decide (a1.2.1 ≥ (1:Int))) && (decide (a1.2.1 ≤ (512:Int)))) = true → ((decide (a1.2.1 ≥ (1:Int))) && (decide (a1.2.1 ≤ (512:Int)))) = true ∧ (OkC prog 77 [.agg (c_api_Lin a1.2.2)] (vb (lin_Valid.fn a1.2.2)))) (pn (fun hc => hc : ((decide (a1.2.1 ≥ (1:Int))) && (decide (a1.2.1 ≤ (512:Int)))) = true → ((decide (a1.2.1 ≥ (1:Int))) && (decide (a1.2.1 ≤ (512:Int)))) = true) pe)))))) (tc ((awp_ret (tr (tr (tr (blk_r (tr (tr (?_)))))))))))
        exact re hk (vb (((decide (a1.2.1 ≥ (1:Int))) && (decide (a1.2.1 ≤ (512:Int)))) && (lin_Valid.fn a1.2.2))) [.keep [2]] ⟨31,[(2,vb (((decide (a1.2.1 ≥ (1:Int))) && (decide (a1.2.1 ≤ (512:Int)))) && (lin_Valid.fn a1.2.2)))],[]⟩ ⟨((decide (a1.2.1 ≥ (1:Int))) && (decide (a1.2.1 ≤ (512:Int)))) && (lin_Valid.fn a1.2.2),rfl,rfl,h⟩
      · replace h := h.2 (ne_of_beq_false hb)
        refine awp_skip (te ((te ((blk_n (tc ((awp_spine (rc [2] [] [] [] ⟨31,[(2,vb false)],[]⟩ (pe) (tc ((awp_ret (tr (tr (tr (?_))))))))))))))))
        exact re hk (vb false) [.keep [2]] ⟨31,[(2,vb false)],[]⟩ ⟨false,rfl,rfl,h⟩
theorem ok_cond_Valid (a1 : api_Cond) : OkC prog 53 [.agg (c_api_Cond a1)] (vb (cond_Valid.fn a1)) :=
  OkC.of call_cond_Valid ((walk_cond_Valid a1 _ (cond_Valid.spec a1)).mono fun r o ⟨x,hr,ho,hx⟩ => ⟨by rw [hr,hx],ho⟩) rfl rfl (fun _ => rfl)

noncomputable abbrev b52 : Code := bodyOf Try.f52
theorem call_farkas_asked_1 : CallOk prog 52 := ⟨_,Try.func52,by kernel_rfl,by kernel_rfl⟩
theorem walk_farkas_asked_1 (a1 : api_Cond) (Q : Bool → Prop) (h : farkas_asked_1.wp a1 Q) : VCalls prog 52 [.agg (c_api_Cond a1)] [] (fun r o => ∃ x,r = vb x ∧ o = [] ∧ Q x) := by
  refine body Try.func52 (spine (subC [0] b52) [(spine (subC [1,0] b52) [.ret])]) fun cx hd hi hk => ?_
  show AWp prog cx _ _ ⟨6,[(0,.agg (c_api_Cond a1))],[]⟩
  replace hk : cx.E.len = 0 := hk
  unfold farkas_asked_1.wp at h
  refine awp_spine (rc [1] [] [] [0] ⟨6,[(1,.er (c_api_Cond a1))],[]⟩ (pe) (tc ((awp_spine (rc [2] [] [(1,.dat (vb (cond_Valid.fn a1)))] [] ⟨6,[(2,vb (!(cond_Valid.fn a1)))],[]⟩ (pn (ok_cond_Valid a1) pe) (tc ((awp_ret (tr (tr (?_)))))))))))
  exact re hk (vb (!(cond_Valid.fn a1))) [.keep [2]] ⟨6,[(2,vb (!(cond_Valid.fn a1)))],[]⟩ ⟨!(cond_Valid.fn a1),rfl,rfl,h⟩
theorem ok_farkas_asked_1 (a1 : api_Cond) : OkC prog 52 [.agg (c_api_Cond a1)] (vb (farkas_asked_1.fn a1)) :=
  OkC.of call_farkas_asked_1 ((walk_farkas_asked_1 a1 _ (farkas_asked_1.spec a1)).mono fun r o ⟨x,hr,ho,hx⟩ => ⟨by rw [hr,hx],ho⟩) rfl rfl (fun _ => rfl)

noncomputable abbrev b76__farkas_asked_1 : Code := bodyOf Try.f76
theorem call_slices_IndexFunc_Sapi_Cond_api_Cond__farkas_asked_1 : CallOk prog 76 := ⟨_,Try.func76,by kernel_rfl,by kernel_rfl⟩
theorem walk_slices_IndexFunc_Sapi_Cond_api_Cond__farkas_asked_1 (a1 : (List api_Cond)) (Q : Int → Prop) (h : slices_IndexFunc_Sapi_Cond_api_Cond__farkas_asked_1.wp a1 Q) : VCalls prog 76 [.d (.sl t_api_Cond) a1,.fn (.func 52) [] []] [] (fun r o => ∃ x,r = vi x ∧ o = [] ∧ Q x) := by
  refine body Try.func76 (spine (subC [0] b76__farkas_asked_1) [(spine (subC [1,0,0] b76__farkas_asked_1) [(.block 0 (.loop (spine (subC [1,0,1,0,0,0] b76__farkas_asked_1) [(spine (.cond (.tmp 9) .skip (.exit 0)) [(spine (.block 1 (spine (subC [1,0,1,0,0,1,1,0,0,0] b76__farkas_asked_1) [(spine (subC [1,0,1,0,0,1,1,0,0,1,0] b76__farkas_asked_1) [(.cond (.tmp 16) (spine (subC [1,0,1,0,0,1,1,0,0,1,1,0,0] b76__farkas_asked_1) [.ret]) .skip)])])) [(subC [1,0,1,0,0,1,1,1] b76__farkas_asked_1)])])]))),(spine (subC [1,1,0] b76__farkas_asked_1) [.ret])])]) fun cx hd hi hk => ?_
  show AWp prog cx _ _ ⟨19,[(0,.d (.sl t_api_Cond) a1),(1,.fn (.func 52) [] [])],[]⟩
  replace hk : cx.E.len = 0 := hk
  unfold slices_IndexFunc_Sapi_Cond_api_Cond__farkas_asked_1.wp at h
  refine awp_spine (rc [0,1] [] [] [] ⟨19,[(0,.d (.sl t_api_Cond) a1),(1,.fn (.func 52) [] [])],[]⟩ (pe) (tc ((awp_spine (rc [0,1,7,8] [] [] [] ⟨19,[(0,.d (.sl t_api_Cond) a1),(1,.fn (.func 52) [] []),(7,vi (a1.length:Int)),(8,vi 0)],[]⟩ (pe) (tc ((awp_len 0 [] (T := t_api_Cond) (l := a1) (by kernel_rfl) fun hl => ?_))))))))
  replace h := h hl
  obtain ⟨I4,⟨n4a,hz4⟩,hI4⟩ := h
  refine awp_block (awp_loopN (fun n s => ∃ (x2:Int),I4 n x2 ∧ s = ⟨19,[(0,.d (.sl t_api_Cond) a1),(1,.fn (.func 52) [] []),(7,vi (a1.length:Int)),(8,vi x2)],[]⟩) (n := n4a) (s0 := ⟨19,[(0,.d (.sl t_api_Cond) a1),(1,.fn (.func 52) [] []),(7,vi (a1.length:Int)),(8,vi 0)],[]⟩) (wk_ghosts hk (l := [.keep [0,1,7,8]]) (by kernel_rfl)) ⟨0,hz4,rfl⟩ ?_)
  rintro n4 s ⟨x2,hx4,rfl⟩
  have h := hI4 n4 x2 hx4
  refine awp_spine (rc [0,1,7,8,9] [] [] [] ⟨19,[(0,.d (.sl t_api_Cond) a1),(1,.fn (.func 52) [] []),(7,vi (a1.length:Int)),(8,vi x2),(9,vb (decide (x2 < (a1.length:Int))))],[]⟩ (pe) (tc ((awp_spine (awp_cond (b := decide (x2 < (a1.length:Int))) (by kernel_rfl) (fun hb => ?_) (fun hb => ?_))))))
  · replace h := h.1 (of_decide_eq_true hb)
    obtain ⟨o1,h⟩ := h
    refine awp_skip (tc ((awp_spine (awp_block (awp_spine (rc [0,1,5,7,8] [] [] [] ⟨19,[(0,.d (.sl t_api_Cond) a1),(1,.fn (.func 52) [] []),(5,vi x2),(7,vi (a1.length:Int)),(8,vi x2)],[]⟩ (pe) (tc ((awp_spine (rc [0,1,5,7,8,16] [] [(5,.dat (vb (farkas_asked_1.fn (a1.getD (Int.toNat x2) d_api_Cond))))] [] ⟨19,[(0,.d (.sl t_api_Cond) a1),(1,.fn (.func 52) [] []),(5,vi x2),(7,vi (a1.length:Int)),(8,vi x2),(16,vb (farkas_asked_1.fn (a1.getD (Int.toNat x2) d_api_Cond)))],[]⟩ (pn o1 (pn (ok_farkas_asked_1 (a1.getD (Int.toNat x2) d_api_Cond)) pe)) (tc ((awp_cond (b := farkas_asked_1.fn (a1.getD (Int.toNat x2) d_api_Cond)) (by kernel_rfl) (fun hb => ?_) (fun hb => ?_))))))))))))))
    · replace h := h.1 (hb)
      refine awp_spine (rc [4] [] [] [] ⟨19,[(4,vi x2)],[]⟩ (pe) (tc ((awp_ret (tr (tr (tr (blk_r (tr (tr (tr (tr (blk_r (tr (tr (?_))))))))))))))))
      exact re hk (vi x2) [.keep [4]] ⟨19,[(4,vi x2)],[]⟩ ⟨x2,rfl,rfl,h⟩
    · replace h := h.2 (hb)
      obtain ⟨o2,h⟩ := h
      refine awp_skip (te ((te ((blk_n (tc ((rc [0,1,7,8] [] [] [] ⟨19,[(0,.d (.sl t_api_Cond) a1),(1,.fn (.func 52) [] []),(7,vi (a1.length:Int)),(8,vi (x2 + (1:Int)))],[]⟩ (pn o2 pe) (te ((te ((te ((then_n (?_))))))))))))))))
      obtain ⟨m,hm,h⟩ := h
      exact ⟨m,hm,⟨19,[(0,.d (.sl t_api_Cond) a1),(1,.fn (.func 52) [] []),(7,vi (a1.length:Int)),(8,vi (x2 + (1:Int)))],[]⟩,wk_ghosts hk (l := [.keep [0,1,7,8]]) (by kernel_rfl),x2 + (1:Int),h,rfl⟩
  · replace h := h.2 (of_decide_eq_false hb)
    refine awp_exit (then_x (then_x (then_x (blk_h (tc ((awp_spine (rc [4] [] [] [] ⟨19,[(4,vi (-1))],[]⟩ (pe) (tc ((awp_ret (tr (tr (tr (?_)))))))))))))))
    exact re hk (vi (-1)) [.keep [4]] ⟨19,[(4,vi (-1))],[]⟩ ⟨(-1),rfl,rfl,h⟩
theorem ok_slices_IndexFunc_Sapi_Cond_api_Cond__farkas_asked_1 (a1 : (List api_Cond)) : OkC prog 76 [.d (.sl t_api_Cond) a1,.fn (.func 52) [] []] (vi (slices_IndexFunc_Sapi_Cond_api_Cond__farkas_asked_1.fn a1)) :=
  OkC.of call_slices_IndexFunc_Sapi_Cond_api_Cond__farkas_asked_1 ((walk_slices_IndexFunc_Sapi_Cond_api_Cond__farkas_asked_1 a1 _ (slices_IndexFunc_Sapi_Cond_api_Cond__farkas_asked_1.spec a1)).mono fun r o ⟨x,hr,ho,hx⟩ => ⟨by rw [hr,hx],ho⟩) rfl rfl (fun _ => rfl)

noncomputable abbrev b51__farkas_asked_1 : Code := bodyOf Try.f51
theorem call_slices_ContainsFunc_Sapi_Cond_api_Cond__farkas_asked_1 : CallOk prog 51 := ⟨_,Try.func51,by kernel_rfl,by kernel_rfl⟩
theorem walk_slices_ContainsFunc_Sapi_Cond_api_Cond__farkas_asked_1 (a1 : (List api_Cond)) (Q : Bool → Prop) (h : slices_ContainsFunc_Sapi_Cond_api_Cond__farkas_asked_1.wp a1 Q) : VCalls prog 51 [.d (.sl t_api_Cond) a1,.fn (.func 52) [] []] [] (fun r o => ∃ x,r = vb x ∧ o = [] ∧ Q x) := by
  refine body Try.func51 (spine (subC [0] b51__farkas_asked_1) [(spine (subC [1,0] b51__farkas_asked_1) [.ret])]) fun cx hd hi hk => ?_
  show AWp prog cx _ _ ⟨9,[(0,.d (.sl t_api_Cond) a1),(1,.fn (.func 52) [] [])],[]⟩
  replace hk : cx.E.len = 0 := hk
  unfold slices_ContainsFunc_Sapi_Cond_api_Cond__farkas_asked_1.wp at h
  refine awp_spine (rc [0,1] [] [] [] ⟨9,[(0,.d (.sl t_api_Cond) a1),(1,.fn (.func 52) [] [])],[]⟩ (pe) (tc ((awp_spine (rc [4] [] [(2,.dat (vi (slices_IndexFunc_Sapi_Cond_api_Cond__farkas_asked_1.fn a1)))] [] ⟨9,[(4,vb (decide ((slices_IndexFunc_Sapi_Cond_api_Cond__farkas_asked_1.fn a1) ≥ (0:Int))))],[]⟩ (pn (ok_slices_IndexFunc_Sapi_Cond_api_Cond__farkas_asked_1 a1) pe) (tc ((awp_abs (fun (x1:Int) => ⟨9,[(4,vb (decide (x1 ≥ (0:Int))))],[]⟩) (slices_IndexFunc_Sapi_Cond_api_Cond__farkas_asked_1.fn a1) ?_))))))))
  intro x1 hx1
  replace h := h x1 hx1
  refine awp_ret (tr (tr (?_)))
  exact re hk (vb (decide (x1 ≥ (0:Int)))) [.keep [4]] ⟨9,[(4,vb (decide (x1 ≥ (0:Int))))],[]⟩ ⟨decide (x1 ≥ (0:Int)),rfl,rfl,h⟩
theorem ok_slices_ContainsFunc_Sapi_Cond_api_Cond__farkas_asked_1 (a1 : (List api_Cond)) : OkC prog 51 [.d (.sl t_api_Cond) a1,.fn (.func 52) [] []] (vb (slices_ContainsFunc_Sapi_Cond_api_Cond__farkas_asked_1.fn a1)) :=
  OkC.of call_slices_ContainsFunc_Sapi_Cond_api_Cond__farkas_asked_1 ((walk_slices_ContainsFunc_Sapi_Cond_api_Cond__farkas_asked_1 a1 _ (slices_ContainsFunc_Sapi_Cond_api_Cond__farkas_asked_1.spec a1)).mono fun r o ⟨x,hr,ho,hx⟩ => ⟨by rw [hr,hx],ho⟩) rfl rfl (fun _ => rfl)

noncomputable abbrev b54 : Code := bodyOf Try.f54
theorem call_farkas_asked_2 : CallOk prog 54 := ⟨_,Try.func54,by kernel_rfl,by kernel_rfl⟩
theorem walk_farkas_asked_2 (a1 : api_Cond) (a2:Int) (Q : Bool → Prop) (h : farkas_asked_2.wp a1 a2 Q) : VCalls prog 54 [.agg (c_api_Cond a1),.er [vi a2]] [] (fun r o => ∃ x,r = vb x ∧ o = [] ∧ Q x) := by
  refine body Try.func54 (spine (subC [0] b54) [(spine (subC [1,0] b54) [.ret])]) fun cx hd hi hk => ?_
  show AWp prog cx _ _ ⟨10,[(0,.agg (c_api_Cond a1)),(1,.er [vi a2])],[]⟩
  replace hk : cx.E.len = 0 := hk
  unfold farkas_asked_2.wp at h
  refine awp_spine (rc [1,2] [] [] [0] ⟨10,[(1,.er [vi a2]),(2,.er (c_api_Cond a1))],[]⟩ (pe) (tc ((awp_spine (rc [3] [] [] [] ⟨10,[(3,vb ((a1.2.2.1.length:Int) != a2))],[]⟩ (pe) (tc ((awp_ret (tr (tr (?_)))))))))))
  exact re hk (vb ((a1.2.2.1.length:Int) != a2)) [.keep [3]] ⟨10,[(3,vb ((a1.2.2.1.length:Int) != a2))],[]⟩ ⟨(a1.2.2.1.length:Int) != a2,rfl,rfl,h⟩
theorem ok_farkas_asked_2 (a1 : api_Cond) (a2:Int) : OkC prog 54 [.agg (c_api_Cond a1),.er [vi a2]] (vb (farkas_asked_2.fn a1 a2)) :=
  OkC.of call_farkas_asked_2 ((walk_farkas_asked_2 a1 a2 _ (farkas_asked_2.spec a1 a2)).mono fun r o ⟨x,hr,ho,hx⟩ => ⟨by rw [hr,hx],ho⟩) rfl rfl (fun _ => rfl)

noncomputable abbrev b76__farkas_asked_2 : Code := bodyOf Try.f76
theorem call_slices_IndexFunc_Sapi_Cond_api_Cond__farkas_asked_2 : CallOk prog 76 := ⟨_,Try.func76,by kernel_rfl,by kernel_rfl⟩
theorem walk_slices_IndexFunc_Sapi_Cond_api_Cond__farkas_asked_2 (a1 : (List api_Cond)) (a2:Int) (Q : Int → Prop) (h : slices_IndexFunc_Sapi_Cond_api_Cond__farkas_asked_2.wp a1 a2 Q) : VCalls prog 76 [.d (.sl t_api_Cond) a1,.fn (.func 54) [] [.er [vi a2]]] [] (fun r o => ∃ x,r = vi x ∧ o = [] ∧ Q x) := by
  refine body Try.func76 (spine (subC [0] b76__farkas_asked_2) [(spine (subC [1,0,0] b76__farkas_asked_2) [(.block 0 (.loop (spine (subC [1,0,1,0,0,0] b76__farkas_asked_2) [(spine (.cond (.tmp 9) .skip (.exit 0)) [(spine (.block 1 (spine (subC [1,0,1,0,0,1,1,0,0,0] b76__farkas_asked_2) [(spine (subC [1,0,1,0,0,1,1,0,0,1,0] b76__farkas_asked_2) [(.cond (.tmp 16) (spine (subC [1,0,1,0,0,1,1,0,0,1,1,0,0] b76__farkas_asked_2) [.ret]) .skip)])])) [(subC [1,0,1,0,0,1,1,1] b76__farkas_asked_2)])])]))),(spine (subC [1,1,0] b76__farkas_asked_2) [.ret])])]) fun cx hd hi hk => ?_
  show AWp prog cx _ _ ⟨19,[(0,.d (.sl t_api_Cond) a1),(1,.fn (.func 54) [] [.er [vi a2]])],[]⟩
  replace hk : cx.E.len = 0 := hk
  unfold slices_IndexFunc_Sapi_Cond_api_Cond__farkas_asked_2.wp at h
  refine awp_spine (rc [0,1] [] [] [] ⟨19,[(0,.d (.sl t_api_Cond) a1),(1,.fn (.func 54) [] [.er [vi a2]])],[]⟩ (pe) (tc ((awp_spine (rc [0,1,7,8] [] [] [] ⟨19,[(0,.d (.sl t_api_Cond) a1),(1,.fn (.func 54) [] [.er [vi a2]]),(7,vi (a1.length:Int)),(8,vi 0)],[]⟩ (pe) (tc ((awp_len 0 [] (T := t_api_Cond) (l := a1) (by kernel_rfl) fun hl => ?_))))))))
  replace h := h hl
  obtain ⟨I4,⟨n4a,hz4⟩,hI4⟩ := h
  refine awp_block (awp_loopN (fun n s => ∃ (x2:Int),I4 n x2 ∧ s = ⟨19,[(0,.d (.sl t_api_Cond) a1),(1,.fn (.func 54) [] [.er [vi a2]]),(7,vi (a1.length:Int)),(8,vi x2)],[]⟩) (n := n4a) (s0 := ⟨19,[(0,.d (.sl t_api_Cond) a1),(1,.fn (.func 54) [] [.er [vi a2]]),(7,vi (a1.length:Int)),(8,vi 0)],[]⟩) (wk_ghosts hk (l := [.keep [0,1,7,8]]) (by kernel_rfl)) ⟨0,hz4,rfl⟩ ?_)
  rintro n4 s ⟨x2,hx4,rfl⟩
  have h := hI4 n4 x2 hx4
  refine awp_spine (rc [0,1,7,8,9] [] [] [] ⟨19,[(0,.d (.sl t_api_Cond) a1),(1,.fn (.func 54) [] [.er [vi a2]]),(7,vi (a1.length:Int)),(8,vi x2),(9,vb (decide (x2 < (a1.length:Int))))],[]⟩ (pe) (tc ((awp_spine (awp_cond (b := decide (x2 < (a1.length:Int))) (by kernel_rfl) (fun hb => ?_) (fun hb => ?_))))))
  · replace h := h.1 (of_decide_eq_true hb)
    obtain ⟨o1,h⟩ := h
    refine awp_skip (tc ((awp_spine (awp_block (awp_spine (rc [0,1,5,7,8] [] [] [] ⟨19,[(0,.d (.sl t_api_Cond) a1),(1,.fn (.func 54) [] [.er [vi a2]]),(5,vi x2),(7,vi (a1.length:Int)),(8,vi x2)],[]⟩ (pe) (tc ((awp_spine (rc [0,1,5,7,8,16] [] [(5,.dat (vb (farkas_asked_2.fn (a1.getD (Int.toNat x2) d_api_Cond) a2)))] [] ⟨19,[(0,.d (.sl t_api_Cond) a1),(1,.fn (.func 54) [] [.er [vi a2]]),(5,vi x2),(7,vi (a1.length:Int)),(8,vi x2),(16,vb (farkas_asked_2.fn (a1.getD (Int.toNat x2) d_api_Cond) a2))],[]⟩ (pn o1 (pn (ok_farkas_asked_2 (a1.getD (Int.toNat x2) d_api_Cond) a2) pe)) (tc ((awp_cond (b := farkas_asked_2.fn (a1.getD (Int.toNat x2) d_api_Cond) a2) (by kernel_rfl) (fun hb => ?_) (fun hb => ?_))))))))))))))
    · replace h := h.1 (hb)
      refine awp_spine (rc [4] [] [] [] ⟨19,[(4,vi x2)],[]⟩ (pe) (tc ((awp_ret (tr (tr (tr (blk_r (tr (tr (tr (tr (blk_r (tr (tr (?_))))))))))))))))
      exact re hk (vi x2) [.keep [4]] ⟨19,[(4,vi x2)],[]⟩ ⟨x2,rfl,rfl,h⟩
    · replace h := h.2 (hb)
      obtain ⟨o2,h⟩ := h
      refine awp_skip (te ((te ((blk_n (tc ((rc [0,1,7,8] [] [] [] ⟨19,[(0,.d (.sl t_api_Cond) a1),(1,.fn (.func 54) [] [.er [vi a2]]),(7,vi (a1.length:Int)),(8,vi (x2 + (1:Int)))],[]⟩ (pn o2 pe) (te ((te ((te ((then_n (?_))))))))))))))))
      obtain ⟨m,hm,h⟩ := h
      exact ⟨m,hm,⟨19,[(0,.d (.sl t_api_Cond) a1),(1,.fn (.func 54) [] [.er [vi a2]]),(7,vi (a1.length:Int)),(8,vi (x2 + (1:Int)))],[]⟩,wk_ghosts hk (l := [.keep [0,1,7,8]]) (by kernel_rfl),x2 + (1:Int),h,rfl⟩
  · replace h := h.2 (of_decide_eq_false hb)
    refine awp_exit (then_x (then_x (then_x (blk_h (tc ((awp_spine (rc [4] [] [] [] ⟨19,[(4,vi (-1))],[]⟩ (pe) (tc ((awp_ret (tr (tr (tr (?_)))))))))))))))
    exact re hk (vi (-1)) [.keep [4]] ⟨19,[(4,vi (-1))],[]⟩ ⟨(-1),rfl,rfl,h⟩
theorem ok_slices_IndexFunc_Sapi_Cond_api_Cond__farkas_asked_2 (a1 : (List api_Cond)) (a2:Int) : OkC prog 76 [.d (.sl t_api_Cond) a1,.fn (.func 54) [] [.er [vi a2]]] (vi (slices_IndexFunc_Sapi_Cond_api_Cond__farkas_asked_2.fn a1 a2)) :=
  OkC.of call_slices_IndexFunc_Sapi_Cond_api_Cond__farkas_asked_2 ((walk_slices_IndexFunc_Sapi_Cond_api_Cond__farkas_asked_2 a1 a2 _ (slices_IndexFunc_Sapi_Cond_api_Cond__farkas_asked_2.spec a1 a2)).mono fun r o ⟨x,hr,ho,hx⟩ => ⟨by rw [hr,hx],ho⟩) rfl rfl (fun _ => rfl)

noncomputable abbrev b51__farkas_asked_2 : Code := bodyOf Try.f51
theorem call_slices_ContainsFunc_Sapi_Cond_api_Cond__farkas_asked_2 : CallOk prog 51 := ⟨_,Try.func51,by kernel_rfl,by kernel_rfl⟩
theorem walk_slices_ContainsFunc_Sapi_Cond_api_Cond__farkas_asked_2 (a1 : (List api_Cond)) (a2:Int) (Q : Bool → Prop) (h : slices_ContainsFunc_Sapi_Cond_api_Cond__farkas_asked_2.wp a1 a2 Q) : VCalls prog 51 [.d (.sl t_api_Cond) a1,.fn (.func 54) [] [.er [vi a2]]] [] (fun r o => ∃ x,r = vb x ∧ o = [] ∧ Q x) := by
  refine body Try.func51 (spine (subC [0] b51__farkas_asked_2) [(spine (subC [1,0] b51__farkas_asked_2) [.ret])]) fun cx hd hi hk => ?_
  show AWp prog cx _ _ ⟨9,[(0,.d (.sl t_api_Cond) a1),(1,.fn (.func 54) [] [.er [vi a2]])],[]⟩
  replace hk : cx.E.len = 0 := hk
  unfold slices_ContainsFunc_Sapi_Cond_api_Cond__farkas_asked_2.wp at h
  refine awp_spine (rc [0,1] [] [] [] ⟨9,[(0,.d (.sl t_api_Cond) a1),(1,.fn (.func 54) [] [.er [vi a2]])],[]⟩ (pe) (tc ((awp_spine (rc [4] [] [(2,.dat (vi (slices_IndexFunc_Sapi_Cond_api_Cond__farkas_asked_2.fn a1 a2)))] [] ⟨9,[(4,vb (decide ((slices_IndexFunc_Sapi_Cond_api_Cond__farkas_asked_2.fn a1 a2) ≥ (0:Int))))],[]⟩ (pn (ok_slices_IndexFunc_Sapi_Cond_api_Cond__farkas_asked_2 a1 a2) pe) (tc ((awp_abs (fun (x1:Int) => ⟨9,[(4,vb (decide (x1 ≥ (0:Int))))],[]⟩) (slices_IndexFunc_Sapi_Cond_api_Cond__farkas_asked_2.fn a1 a2) ?_))))))))
  intro x1 hx1
  replace h := h x1 hx1
  refine awp_ret (tr (tr (?_)))
  exact re hk (vb (decide (x1 ≥ (0:Int)))) [.keep [4]] ⟨9,[(4,vb (decide (x1 ≥ (0:Int))))],[]⟩ ⟨decide (x1 ≥ (0:Int)),rfl,rfl,h⟩
theorem ok_slices_ContainsFunc_Sapi_Cond_api_Cond__farkas_asked_2 (a1 : (List api_Cond)) (a2:Int) : OkC prog 51 [.d (.sl t_api_Cond) a1,.fn (.func 54) [] [.er [vi a2]]] (vb (slices_ContainsFunc_Sapi_Cond_api_Cond__farkas_asked_2.fn a1 a2)) :=
  OkC.of call_slices_ContainsFunc_Sapi_Cond_api_Cond__farkas_asked_2 ((walk_slices_ContainsFunc_Sapi_Cond_api_Cond__farkas_asked_2 a1 a2 _ (slices_ContainsFunc_Sapi_Cond_api_Cond__farkas_asked_2.spec a1 a2)).mono fun r o ⟨x,hr,ho,hx⟩ => ⟨by rw [hr,hx],ho⟩) rfl rfl (fun _ => rfl)

noncomputable abbrev b25 : Code := bodyOf Try.f25
theorem call_farkas_asked : CallOk prog 25 := ⟨_,Try.func25,by kernel_rfl,by kernel_rfl⟩
theorem walk_farkas_asked (a1 : (List api_Cond)) (a2:Int) (Q : Int → Prop) (h : farkas_asked.wp a1 a2 Q) : VCalls prog 25 [.d (.sl t_api_Cond) a1,vi a2] [] (fun r o => ∃ x,r = vi x ∧ o = [] ∧ Q x) := by
  refine body Try.func25 (spine (subC [0] b25) [(spine (.block 0 (spine (subC [1,0,0,0] b25) [(.cond (.tmp 5) (spine (subC [1,0,0,1,0,0] b25) [.ret]) (spine (subC [1,0,0,1,1,0] b25) [(.cond (.tmp 12) (spine (subC [1,0,0,1,1,1,0,0] b25) [.ret]) (spine (subC [1,0,0,1,1,1,1,0] b25) [(.cond (.tmp 16) (spine (subC [1,0,0,1,1,1,1,1,0,0] b25) [.ret]) (spine (subC [1,0,0,1,1,1,1,1,1,0] b25) [(.cond (.tmp 19) (spine (subC [1,0,0,1,1,1,1,1,1,1,0,0] b25) [.ret]) .skip)]))]))]))])) [(spine (subC [1,1,0] b25) [.ret])])]) fun cx hd hi hk => ?_
  show AWp prog cx _ _ ⟨23,[(0,.d (.sl t_api_Cond) a1),(1,vi a2)],[]⟩
  replace hk : cx.E.len = 0 := hk
  unfold farkas_asked.wp at h
  refine awp_spine (rc [0,3] [] [] [0] ⟨23,[(0,.d (.sl t_api_Cond) a1),(3,.er [vi a2])],[]⟩ (pe) (tc ((awp_spine (awp_block (awp_spine (rc [0,3,5] [] [] [] ⟨23,[(0,.d (.sl t_api_Cond) a1),(3,.er [vi a2]),(5,vb ((decide (a2 < (0:Int))) || (decide (a2 > (12:Int)))))],[]⟩ (pn (fun hg => ⟨hg,trivial⟩ : (!(decide (a2 < (0:Int)))) = true → (!(decide (a2 < (0:Int)))) = true ∧ True) (pn (fun hc => not_f hc : (decide (a2 < (0:Int))) = false → (!(decide (a2 < (0:Int)))) = true) pe)) (tc ((awp_cond (b := (decide (a2 < (0:Int))) || (decide (a2 > (12:Int)))) (by kernel_rfl) (fun hb => ?_) (fun hb => ?_)))))))))))
  · replace h := h.1 (hb)
    refine awp_spine (rc [4] [] [] [] ⟨23,[(4,vi (6:Int))],[]⟩ (pe) (tc ((awp_ret (tr (tr (blk_r (tr (tr (?_))))))))))
    exact re hk (vi (6:Int)) [.keep [4]] ⟨23,[(4,vi (6:Int))],[]⟩ ⟨6,rfl,rfl,h⟩
  · replace h := h.2 (hb)
    refine awp_spine (rc [0,3,12] [] [] [] ⟨23,[(0,.d (.sl t_api_Cond) a1),(3,.er [vi a2]),(12,vb (decide ((a1.length:Int) > (96:Int))))],[]⟩ (pe) (tc ((awp_len 0 [] (T := t_api_Cond) (l := a1) (by kernel_rfl) fun hl => ?_))))
    replace h := h hl
    refine awp_cond (b := decide ((a1.length:Int) > (96:Int))) (by kernel_rfl) (fun hb => ?_) (fun hb => ?_)
    · replace h := h.1 (of_decide_eq_true hb)
      refine awp_spine (rc [4] [] [] [] ⟨23,[(4,vi (3:Int))],[]⟩ (pe) (tc ((awp_ret (tr (tr (tr (blk_r (tr (tr (?_)))))))))))
      exact re hk (vi (3:Int)) [.keep [4]] ⟨23,[(4,vi (3:Int))],[]⟩ ⟨3,rfl,rfl,h⟩
    · replace h := h.2 (of_decide_eq_false hb)
      refine awp_spine (rc [0,3,16] [] [(1,.dat (vb (slices_ContainsFunc_Sapi_Cond_api_Cond__farkas_asked_1.fn a1)))] [] ⟨23,[(0,.d (.sl t_api_Cond) a1),(3,.er [vi a2]),(16,vb (slices_ContainsFunc_Sapi_Cond_api_Cond__farkas_asked_1.fn a1))],[]⟩ (pn (ok_slices_ContainsFunc_Sapi_Cond_api_Cond__farkas_asked_1 a1) pe) (tc ((awp_cond (b := slices_ContainsFunc_Sapi_Cond_api_Cond__farkas_asked_1.fn a1) (by kernel_rfl) (fun hb => ?_) (fun hb => ?_)))))
      · replace h := h.1 (hb)
        refine awp_spine (rc [4] [] [] [] ⟨23,[(4,vi (1:Int))],[]⟩ (pe) (tc ((awp_ret (tr (tr (tr (tr (blk_r (tr (tr (?_))))))))))))
        exact re hk (vi (1:Int)) [.keep [4]] ⟨23,[(4,vi (1:Int))],[]⟩ ⟨1,rfl,rfl,h⟩
      · replace h := h.2 (hb)
        refine awp_spine (rc [19] [] [(2,.dat (vb (slices_ContainsFunc_Sapi_Cond_api_Cond__farkas_asked_2.fn a1 a2)))] [] ⟨23,[(19,vb (slices_ContainsFunc_Sapi_Cond_api_Cond__farkas_asked_2.fn a1 a2))],[]⟩ (pn (ok_slices_ContainsFunc_Sapi_Cond_api_Cond__farkas_asked_2 a1 a2) pe) (tc ((awp_cond (b := slices_ContainsFunc_Sapi_Cond_api_Cond__farkas_asked_2.fn a1 a2) (by kernel_rfl) (fun hb => ?_) (fun hb => ?_)))))
        · replace h := h.1 (hb)
          refine awp_spine (rc [4] [] [] [] ⟨23,[(4,vi (2:Int))],[]⟩ (pe) (tc ((awp_ret (tr (tr (tr (tr (tr (blk_r (tr (tr (?_)))))))))))))
          exact re hk (vi (2:Int)) [.keep [4]] ⟨23,[(4,vi (2:Int))],[]⟩ ⟨2,rfl,rfl,h⟩
        · replace h := h.2 (hb)
          refine awp_skip (te ((te ((te ((te ((blk_n (tc ((awp_spine (rc [4] [] [] [] ⟨23,[(4,vi 0)],[]⟩ (pe) (tc ((awp_ret (tr (tr (tr (?_))))))))))))))))))))
          exact re hk (vi 0) [.keep [4]] ⟨23,[(4,vi 0)],[]⟩ ⟨0,rfl,rfl,h⟩
theorem ok_farkas_asked (a1 : (List api_Cond)) (a2:Int) : OkC prog 25 [.d (.sl t_api_Cond) a1,vi a2] (vi (farkas_asked.fn a1 a2)) :=
  OkC.of call_farkas_asked ((walk_farkas_asked a1 a2 _ (farkas_asked.spec a1 a2)).mono fun r o ⟨x,hr,ho,hx⟩ => ⟨by rw [hr,hx],ho⟩) rfl rfl (fun _ => rfl)

noncomputable abbrev b55 : Code := bodyOf Try.f55
theorem call_farkas_first : CallOk prog 55 := ⟨_,Try.func55,by kernel_rfl,by kernel_rfl⟩
theorem walk_farkas_first (a1 : (List api_Cond)) (a2:Int) (Q : farkas_table → Prop) (h : farkas_first.wp a1 a2 Q) : VCalls prog 55 [.d (.sl t_api_Cond) a1,vi a2] [] (fun r o => ∃ x,r = .agg (c_farkas_table x) ∧ o = [] ∧ Q x) := by
  refine body Try.func55 (spine (subC [0] b55) [(spine (subC [1,0] b55) [(spine (subC [1,1,0,0] b55) [(.block 0 (.loop (spine (subC [1,1,0,1,0,0,0] b55) [(spine (.cond (.tmp 14) .skip (.exit 0)) [(spine (.block 1 (spine (subC [1,1,0,1,0,0,1,1,0,0,0] b55) [(spine (subC [1,1,0,1,0,0,1,1,0,0,1,0,0] b55) [(.cond (.tmp 20) (.exit 1) .skip),(spine (subC [1,1,0,1,0,0,1,1,0,0,1,1,0] b55) [(spine (subC [1,1,0,1,0,0,1,1,0,0,1,1,1,0] b55) [(spine (subC [1,1,0,1,0,0,1,1,0,0,1,1,1,1,0] b55) [(subC [1,1,0,1,0,0,1,1,0,0,1,1,1,1,1] b55)])])])])])) [(subC [1,1,0,1,0,0,1,1,1] b55)])])]))),(spine (subC [1,1,1,0] b55) [.ret])])])]) fun cx hd hi hk => ?_
  show AWp prog cx _ _ ⟨56,[(0,.d (.sl t_api_Cond) a1),(1,vi a2)],[]⟩
  replace hk : cx.E.len = 0 := hk
  unfold farkas_first.wp at h
  refine awp_spine (rc [0,1,4] [] [] [] ⟨56,[(0,.d (.sl t_api_Cond) a1),(1,vi a2),(4,.ref 0 0 0)],[.box [vi 0,.nils]]⟩ (pe) (tc ((awp_spine (rc [0,1,4,5] [] [] [] ⟨56,[(0,.d (.sl t_api_Cond) a1),(1,vi a2),(4,.ref 0 0 0),(5,.ref 1 0 0)],[.box [vi 0,.nils],.box [vi a2,.nils]]⟩ (pe) (tc ((awp_spine (rc [0,1,4,5,11,12,13] [] [] [] ⟨56,[(0,.d (.sl t_api_Cond) a1),(1,vi a2),(4,.ref 0 0 0),(5,.ref 1 0 0),(11,.d (.sl t_api_Cond) a1),(12,vi (a1.length:Int)),(13,vi 0)],[.box [vi 0,.nils],.box [vi a2,.nils]]⟩ (pe) (tc ((awp_len 0 [] (T := t_api_Cond) (l := a1) (by kernel_rfl) fun hl => ?_))))))))))))
  replace h := h hl
  obtain ⟨I7,⟨n7a,hz7⟩,hI7⟩ := h
  refine awp_block (awp_loopN (fun n s => ∃ (x3:Int) (x4 : (List farkas_row)),I7 n x3 x4 ∧ s = ⟨56,[(0,.d (.sl t_api_Cond) a1),(1,vi a2),(4,.ref 0 0 0),(5,.ref 1 0 0),(11,.d (.sl t_api_Cond) a1),(12,vi (a1.length:Int)),(13,vi x3)],[.box [vi 0,.nils],.box [vi a2,.osl 2 0],.row t_farkas_row x4 0]⟩) (n := n7a) (s0 := ⟨56,[(0,.d (.sl t_api_Cond) a1),(1,vi a2),(4,.ref 0 0 0),(5,.ref 1 0 0),(11,.d (.sl t_api_Cond) a1),(12,vi (a1.length:Int)),(13,vi 0)],[.box [vi 0,.nils],.box [vi a2,.osl 2 0],.row t_farkas_row ([] : List farkas_row) 0]⟩) (wk_ghosts hk (l := [.keep [0,1,4,5,11,12,13],.adoptBox 1 1 t_farkas_row,.keep [0,1,4,5,11,12,13]]) (by kernel_rfl)) ⟨0,([] : List farkas_row),hz7,rfl⟩ ?_)
  rintro n7 s ⟨x3,x4,hx7,rfl⟩
  have h := hI7 n7 x3 x4 hx7
  refine awp_spine (rc [0,1,4,5,11,12,13,14] [] [] [] ⟨56,[(0,.d (.sl t_api_Cond) a1),(1,vi a2),(4,.ref 0 0 0),(5,.ref 1 0 0),(11,.d (.sl t_api_Cond) a1),(12,vi (a1.length:Int)),(13,vi x3),(14,vb (decide (x3 < (a1.length:Int))))],[.box [vi 0,.nils],.box [vi a2,.osl 2 0],.row t_farkas_row x4 0]⟩ (pe) (tc ((awp_spine (awp_cond (b := decide (x3 < (a1.length:Int))) (by kernel_rfl) (fun hb => ?_) (fun hb => ?_))))))
  · replace h := h.1 (of_decide_eq_true hb)
    obtain ⟨o1,h⟩ := h
    refine awp_skip (tc ((awp_spine (awp_block (awp_spine (rc [0,1,4,5,6,7,11,12,13] [] [] [] ⟨56,[(0,.d (.sl t_api_Cond) a1),(1,vi a2),(4,.ref 0 0 0),(5,.ref 1 0 0),(6,vi x3),(7,.ref 3 0 0),(11,.d (.sl t_api_Cond) a1),(12,vi (a1.length:Int)),(13,vi x3)],[.box [vi 0,.nils],.box [vi a2,.osl 2 0],.row t_farkas_row x4 0,.box (c_api_Cond (a1.getD (Int.toNat x3) d_api_Cond))]⟩ (pn o1 pe) (tc ((awp_abs (fun (x8 : api_Cond) => ⟨56,[(0,.d (.sl t_api_Cond) a1),(1,vi a2),(4,.ref 0 0 0),(5,.ref 1 0 0),(6,vi x3),(7,.ref 3 0 0),(11,.d (.sl t_api_Cond) a1),(12,vi (a1.length:Int)),(13,vi x3)],[.box [vi 0,.nils],.box [vi a2,.osl 2 0],.row t_farkas_row x4 0,.box (c_api_Cond x8)]⟩) (a1.getD (Int.toNat x3) d_api_Cond) ?_)))))))))
    intro x8 hx8
    replace h := h x8 hx8
    refine awp_spine (rc [0,1,4,5,6,7,11,12,13,20] [] [] [] ⟨56,[(0,.d (.sl t_api_Cond) a1),(1,vi a2),(4,.ref 0 0 0),(5,.ref 1 0 0),(6,vi x3),(7,.ref 3 0 0),(11,.d (.sl t_api_Cond) a1),(12,vi (a1.length:Int)),(13,vi x3),(20,vb (x8.1 == (2:Int)))],[.box [vi 0,.nils],.box [vi a2,.osl 2 0],.row t_farkas_row x4 0,.box (c_api_Cond x8)]⟩ (pe) (tc ((awp_cond (b := x8.1 == (2:Int)) (by kernel_rfl) (fun hb => ?_) (fun hb => ?_)))))
    · replace h := h.1 (eq_of_beq hb)
      obtain ⟨o2,h⟩ := h
      refine awp_exit (then_x (then_x (blk_h (tc ((rc [0,1,4,5,11,12,13] [] [] [] ⟨56,[(0,.d (.sl t_api_Cond) a1),(1,vi a2),(4,.ref 0 0 0),(5,.ref 1 0 0),(11,.d (.sl t_api_Cond) a1),(12,vi (a1.length:Int)),(13,vi (x3 + (1:Int)))],[.box [vi 0,.nils],.box [vi a2,.osl 2 0],.row t_farkas_row x4 0,.box (c_api_Cond x8)]⟩ (pn o2 pe) (te ((te ((te ((then_n (?_))))))))))))))
      obtain ⟨m,hm,h⟩ := h
      exact ⟨m,hm,⟨56,[(0,.d (.sl t_api_Cond) a1),(1,vi a2),(4,.ref 0 0 0),(5,.ref 1 0 0),(11,.d (.sl t_api_Cond) a1),(12,vi (a1.length:Int)),(13,vi (x3 + (1:Int)))],[.box [vi 0,.nils],.box [vi a2,.osl 2 0],.row t_farkas_row x4 0]⟩,wk_ghosts hk (l := [.keep [0,1,4,5,11,12,13],.cut 3,.keep [0,1,4,5,11,12,13]]) (by kernel_rfl),x3 + (1:Int),x4,h,rfl⟩
    · replace h := h.2 (ne_of_beq_false hb)
      obtain ⟨o3,o4,o5,h⟩ := h
      refine awp_skip (tc ((awp_spine (rc [0,1,4,5,6,7,8,11,12,13] [] [] [] ⟨56,[(0,.d (.sl t_api_Cond) a1),(1,vi a2),(4,.ref 0 0 0),(5,.ref 1 0 0),(6,vi x3),(7,.ref 3 0 0),(8,.osl 4 0),(11,.d (.sl t_api_Cond) a1),(12,vi (a1.length:Int)),(13,vi x3)],[.box [vi 0,.nils],.box [vi a2,.osl 2 0],.row t_farkas_row x4 0,.box (c_api_Cond x8),.row tI (List.replicate (Int.toNat ((a2 + (1:Int)) + (a1.length:Int))) (0:Int)) 0]⟩ (pn o3 (pn o4 (pn o5 pe))) (tc ((awp_abs (fun (x9 : (List Int)) => ⟨56,[(0,.d (.sl t_api_Cond) a1),(1,vi a2),(4,.ref 0 0 0),(5,.ref 1 0 0),(6,vi x3),(7,.ref 3 0 0),(8,.osl 4 0),(11,.d (.sl t_api_Cond) a1),(12,vi (a1.length:Int)),(13,vi x3)],[.box [vi 0,.nils],.box [vi a2,.osl 2 0],.row t_farkas_row x4 0,.box (c_api_Cond x8),.row tI x9 0]⟩) (List.replicate (Int.toNat ((a2 + (1:Int)) + (a1.length:Int))) (0:Int)) ?_)))))))
      intro x9 hx9
      replace h := h x9 hx9
      refine awp_len 0 [] (T := t_api_Cond) (l := a1) (by kernel_rfl) fun hl => ?_
      replace h := h hl
      refine awp_spine (rc [0,1,4,5,6,7,8,11,12,13] [] [] [] ⟨56,[(0,.d (.sl t_api_Cond) a1),(1,vi a2),(4,.ref 0 0 0),(5,.ref 1 0 0),(6,vi x3),(7,.ref 3 0 0),(8,.osl 4 0),(11,.d (.sl t_api_Cond) a1),(12,vi (a1.length:Int)),(13,vi x3)],[.box [vi 0,.nils],.box [vi a2,.osl 2 0],.row t_farkas_row x4 0,.box (c_api_Cond x8),.row tI (x8.2.2.1.take (min x8.2.2.1.length x9.length) ++ x9.drop (min x8.2.2.1.length x9.length)) 0]⟩ (pe) (tc ((awp_abs (fun (x10 : (List Int)) => ⟨56,[(0,.d (.sl t_api_Cond) a1),(1,vi a2),(4,.ref 0 0 0),(5,.ref 1 0 0),(6,vi x3),(7,.ref 3 0 0),(8,.osl 4 0),(11,.d (.sl t_api_Cond) a1),(12,vi (a1.length:Int)),(13,vi x3)],[.box [vi 0,.nils],.box [vi a2,.osl 2 0],.row t_farkas_row x4 0,.box (c_api_Cond x8),.row tI x10 0]⟩) (x8.2.2.1.take (min x8.2.2.1.length x9.length) ++ x9.drop (min x8.2.2.1.length x9.length)) ?_))))
      intro x10 hx10
      replace h := h x10 hx10
      obtain ⟨o6,o7,o8,o9,o10,o11,h⟩ := h
      refine awp_spine (rc [0,1,4,5,7,8,11,12,13] [] [] [] ⟨56,[(0,.d (.sl t_api_Cond) a1),(1,vi a2),(4,.ref 0 0 0),(5,.ref 1 0 0),(7,.ref 3 0 0),(8,.osl 4 0),(11,.d (.sl t_api_Cond) a1),(12,vi (a1.length:Int)),(13,vi x3)],[.box [vi 0,.nils],.box [vi a2,.osl 2 0],.row t_farkas_row x4 0,.box (c_api_Cond x8),.row tI ((x10.set (Int.toNat a2) x8.2.2.2).set (Int.toNat ((a2 + (1:Int)) + x3)) (1:Int)) 0]⟩ (pn o6 (pn o7 (pn o8 (pn o9 (pn o10 (pn o11 pe)))))) (tc ((awp_abs (fun (x11 : (List Int)) => ⟨56,[(0,.d (.sl t_api_Cond) a1),(1,vi a2),(4,.ref 0 0 0),(5,.ref 1 0 0),(7,.ref 3 0 0),(8,.osl 4 0),(11,.d (.sl t_api_Cond) a1),(12,vi (a1.length:Int)),(13,vi x3)],[.box [vi 0,.nils],.box [vi a2,.osl 2 0],.row t_farkas_row x4 0,.box (c_api_Cond x8),.row tI x11 0]⟩) ((x10.set (Int.toNat a2) x8.2.2.2).set (Int.toNat ((a2 + (1:Int)) + x3)) (1:Int)) ?_))))
      intro x11 hx11
      replace h := h x11 hx11
      obtain ⟨o12,h⟩ := h
      refine awp_gh hk [.freeze 4,.keep [0,1,4,5,7,8,11,12,13]] ⟨56,[(0,.d (.sl t_api_Cond) a1),(1,vi a2),(4,.ref 0 0 0),(5,.ref 1 0 0),(7,.ref 3 0 0),(8,vs x11),(11,.d (.sl t_api_Cond) a1),(12,vi (a1.length:Int)),(13,vi x3)],[.box [vi 0,.nils],.box [vi a2,.osl 2 0],.row t_farkas_row x4 0,.box (c_api_Cond x8),.dead]⟩ (by kernel_rfl) (rc [0,1,4,5,11,12,13] [] [] [7] ⟨56,[(0,.d (.sl t_api_Cond) a1),(1,vi a2),(4,.ref 0 0 0),(5,.ref 1 0 0),(11,.d (.sl t_api_Cond) a1),(12,vi (a1.length:Int)),(13,vi x3)],[.box [vi 0,.nils],.box [vi a2,.osl 2 1],.row t_farkas_row (x4 ++ [(x8.1 == (1:Int),x11)]) 1,.box (c_api_Cond x8),.dead]⟩ (pn (by decide : 1 * 2 ≤ 16777216) (pn o12 pe)) (te ((te ((te ((te ((te ((blk_n (tc ((awp_abs (fun (x12 : (List farkas_row)) => ⟨56,[(0,.d (.sl t_api_Cond) a1),(1,vi a2),(4,.ref 0 0 0),(5,.ref 1 0 0),(11,.d (.sl t_api_Cond) a1),(12,vi (a1.length:Int)),(13,vi x3)],[.box [vi 0,.nils],.box [vi a2,.osl 2 1],.row t_farkas_row x12 1,.box (c_api_Cond x8),.dead]⟩) (x4 ++ [(x8.1 == (1:Int),x11)]) ?_)))))))))))))))
      intro x12 hx12
      replace h := h x12 hx12
      obtain ⟨o13,h⟩ := h
      refine rc [0,1,4,5,11,12,13] [] [] [] ⟨56,[(0,.d (.sl t_api_Cond) a1),(1,vi a2),(4,.ref 0 0 0),(5,.ref 1 0 0),(11,.d (.sl t_api_Cond) a1),(12,vi (a1.length:Int)),(13,vi (x3 + (1:Int)))],[.box [vi 0,.nils],.box [vi a2,.osl 2 1],.row t_farkas_row x12 1,.box (c_api_Cond x8),.dead]⟩ (pn o13 pe) (te ((te ((te ((then_n (?_))))))))
      obtain ⟨m,hm,h⟩ := h
      exact ⟨m,hm,⟨56,[(0,.d (.sl t_api_Cond) a1),(1,vi a2),(4,.ref 0 0 0),(5,.ref 1 0 0),(11,.d (.sl t_api_Cond) a1),(12,vi (a1.length:Int)),(13,vi (x3 + (1:Int)))],[.box [vi 0,.nils],.box [vi a2,.osl 2 0],.row t_farkas_row x12 0]⟩,wk_ghosts hk (l := [.keep [0,1,4,5,11,12,13],.cut 3,.reset 2,.keep [0,1,4,5,11,12,13]]) (by kernel_rfl),x3 + (1:Int),x12,h,rfl⟩
  · replace h := h.2 (of_decide_eq_false hb)
    refine awp_exit (then_x (then_x (then_x (blk_h (tc ((awp_spine (rc [4] [] [] [] ⟨56,[(4,.ref 0 0 0)],[.box [vi a2,.osl 2 0],.box [vi a2,.osl 2 0],.row t_farkas_row x4 0]⟩ (pe) (tc ((awp_ret (tr (tr (tr (tr (?_))))))))))))))))
    exact re hk (.agg (c_farkas_table (a2,x4))) [.keep [4],.freeze 2] ⟨56,[(4,.ref 0 0 0)],[.box [vi a2,.d (.sl t_farkas_row) x4],.box [vi a2,.d (.sl t_farkas_row) x4],.dead]⟩ ⟨(a2,x4),rfl,rfl,h⟩
theorem ok_farkas_first (a1 : (List api_Cond)) (a2:Int) (h : farkas_first.pre a1 a2) : OkC prog 55 [.d (.sl t_api_Cond) a1,vi a2] (.agg (c_farkas_table (farkas_first.fn a1 a2))) :=
  OkC.of call_farkas_first ((walk_farkas_first a1 a2 _ (farkas_first.spec a1 a2 h)).mono fun r o ⟨x,hr,ho,hx⟩ => ⟨by rw [hr,hx],ho⟩) rfl rfl (fun _ => rfl)

noncomputable abbrev b99 : Code := bodyOf Try.f99
theorem call_farkas_vector_int_by : CallOk prog 99 := ⟨_,Try.func99,by kernel_rfl,by kernel_rfl⟩
theorem walk_farkas_vector_int_by (a1 : (List Int)) (a2:Int) (Q : (List Int) → Prop) (h : farkas_vector_int_by.wp a1 a2 Q) : VCalls prog 99 [vs a1,vi a2] [] (fun r o => ∃ x,r = vs x ∧ o = [] ∧ Q x) := by
  refine body Try.func99 (spine (subC [0] b99) [(spine (subC [1,0] b99) [(spine (subC [1,1,0] b99) [(spine (subC [1,1,1,0,0] b99) [(.block 0 (.loop (spine (subC [1,1,1,0,1,0,0,0] b99) [(spine (.cond (.tmp 16) .skip (.exit 0)) [(spine (.block 1 (spine (subC [1,1,1,0,1,0,0,1,1,0,0,0] b99) [(subC [1,1,1,0,1,0,0,1,1,0,0,1] b99)])) [(subC [1,1,1,0,1,0,0,1,1,1] b99)])])]))),(spine (subC [1,1,1,1,0] b99) [.ret])])])])]) fun cx hd hi hk => ?_
  show AWp prog cx _ _ ⟨27,[(0,vs a1),(1,vi a2)],[]⟩
  replace hk : cx.E.len = 0 := hk
  unfold farkas_vector_int_by.wp at h
  obtain ⟨o1,h⟩ := h
  refine awp_spine (rc [0,1] [] [] [] ⟨27,[(0,vs a1),(1,vi a2)],[]⟩ (pe) (tc ((awp_spine (rc [0,1,5] [] [] [] ⟨27,[(0,vs a1),(1,vi a2),(5,.osl 0 0)],[.row tI (List.replicate (Int.toNat (a1.length:Int)) (0:Int)) 0]⟩ (pn o1 pe) (tc ((awp_abs (fun (x1 : (List Int)) => ⟨27,[(0,vs a1),(1,vi a2),(5,.osl 0 0)],[.row tI x1 0]⟩) (List.replicate (Int.toNat (a1.length:Int)) (0:Int)) ?_))))))))
  intro x1 hx1
  replace h := h x1 hx1
  refine awp_len 0 [] (T := tI) (l := a1) (by kernel_rfl) fun hl => ?_
  replace h := h hl
  refine awp_spine (rc [1,5] [] [] [] ⟨27,[(1,vi a2),(5,.osl 0 0)],[.row tI (a1.take (min a1.length x1.length) ++ x1.drop (min a1.length x1.length)) 0]⟩ (pe) (tc ((awp_abs (fun (x2 : (List Int)) => ⟨27,[(1,vi a2),(5,.osl 0 0)],[.row tI x2 0]⟩) (a1.take (min a1.length x1.length) ++ x1.drop (min a1.length x1.length)) ?_))))
  intro x2 hx2
  replace h := h x2 hx2
  obtain ⟨I9,⟨n9a,hz9⟩,hI9⟩ := h
  refine awp_spine (rc [1,5,14,15] [] [] [] ⟨27,[(1,vi a2),(5,.osl 0 0),(14,vi (x2.length:Int)),(15,vi 0)],[.row tI x2 0]⟩ (pe) (tc ((awp_block (awp_loopN (fun n s => ∃ (x5:Int) (x6 : (List Int)),I9 n x5 x6 ∧ s = ⟨27,[(1,vi a2),(5,.osl 0 0),(14,vi (x2.length:Int)),(15,vi x5)],[.row tI x6 0]⟩) (n := n9a) (s0 := ⟨27,[(1,vi a2),(5,.osl 0 0),(14,vi (x2.length:Int)),(15,vi 0)],[.row tI x2 0]⟩) (wk_ghosts hk (l := [.keep [1,5,14,15]]) (by kernel_rfl)) ⟨0,x2,hz9,rfl⟩ ?_)))))
  rintro n9 s ⟨x5,x6,hx9,rfl⟩
  have h := hI9 n9 x5 x6 hx9
  refine awp_spine (rc [1,5,14,15,16] [] [] [] ⟨27,[(1,vi a2),(5,.osl 0 0),(14,vi (x2.length:Int)),(15,vi x5),(16,vb (decide (x5 < (x2.length:Int))))],[.row tI x6 0]⟩ (pe) (tc ((awp_spine (awp_cond (b := decide (x5 < (x2.length:Int))) (by kernel_rfl) (fun hb => ?_) (fun hb => ?_))))))
  · replace h := h.1 (of_decide_eq_true hb)
    obtain ⟨o2,o3,o4,o5,o6,h⟩ := h
    refine awp_skip (tc ((awp_spine (awp_block (awp_spine (rc [1,5,6,14,15] [] [] [] ⟨27,[(1,vi a2),(5,.osl 0 0),(6,vi x5),(14,vi (x2.length:Int)),(15,vi x5)],[.row tI x6 0]⟩ (pe) (tc ((rc [1,5,14,15] [] [] [] ⟨27,[(1,vi a2),(5,.osl 0 0),(14,vi (x2.length:Int)),(15,vi x5)],[.row tI (x6.set (Int.toNat x5) (Int.tdiv (x6.getD (Int.toNat x5) (0:Int)) a2)) 0]⟩ (pn o2 (pn o3 (pn o4 (pn o5 (pn o6 pe))))) (te ((blk_n (tc ((awp_abs (fun (x10 : (List Int)) => ⟨27,[(1,vi a2),(5,.osl 0 0),(14,vi (x2.length:Int)),(15,vi x5)],[.row tI x10 0]⟩) (x6.set (Int.toNat x5) (Int.tdiv (x6.getD (Int.toNat x5) (0:Int)) a2)) ?_)))))))))))))))
    intro x10 hx10
    replace h := h x10 hx10
    obtain ⟨o7,h⟩ := h
    refine rc [1,5,14,15] [] [] [] ⟨27,[(1,vi a2),(5,.osl 0 0),(14,vi (x2.length:Int)),(15,vi (x5 + (1:Int)))],[.row tI x10 0]⟩ (pn o7 pe) (te ((te ((te ((then_n (?_))))))))
    obtain ⟨m,hm,h⟩ := h
    exact ⟨m,hm,⟨27,[(1,vi a2),(5,.osl 0 0),(14,vi (x2.length:Int)),(15,vi (x5 + (1:Int)))],[.row tI x10 0]⟩,wk_ghosts hk (l := [.keep [1,5,14,15]]) (by kernel_rfl),x5 + (1:Int),x10,h,rfl⟩
  · replace h := h.2 (of_decide_eq_false hb)
    refine awp_exit (then_x (then_x (then_x (blk_h (tc ((awp_spine (rc [4] [] [] [] ⟨27,[(4,.osl 0 0)],[.row tI x6 0]⟩ (pe) (tc ((awp_ret (tr (tr (tr (tr (tr (?_)))))))))))))))))
    exact re hk (vs x6) [.keep [4],.freeze 0] ⟨27,[(4,vs x6)],[.dead]⟩ ⟨x6,rfl,rfl,h⟩
theorem ok_farkas_vector_int_by (a1 : (List Int)) (a2:Int) (h : farkas_vector_int_by.pre a1 a2) : OkC prog 99 [vs a1,vi a2] (vs (farkas_vector_int_by.fn a1 a2)) :=
  OkC.of call_farkas_vector_int_by ((walk_farkas_vector_int_by a1 a2 _ (farkas_vector_int_by.spec a1 a2 h)).mono fun r o ⟨x,hr,ho,hx⟩ => ⟨by rw [hr,hx],ho⟩) rfl rfl (fun _ => rfl)

noncomputable abbrev b86 : Code := bodyOf Try.f86
theorem call_num_common : CallOk prog 86 := ⟨_,Try.func86,by kernel_rfl,by kernel_rfl⟩
theorem walk_num_common (a1:Int) (a2:Int) (Q : Int → Prop) (h : num_common.wp a1 a2 Q) : VCalls prog 86 [vu a1,vu a2] [] (fun r o => ∃ x,r = vu x ∧ o = [] ∧ Q x) := by
  refine body Try.func86 (spine (subC [0] b86) [(spine (.block 0 (.loop (spine (subC [1,0,0,0,0,0] b86) [(.cond (.tmp 6) .skip (.exit 0)),(.block 1 (subC [1,0,0,0,1,0] b86))]))) [(spine (subC [1,1,0] b86) [.ret])])]) fun cx hd hi hk => ?_
  show AWp prog cx _ _ ⟨12,[(0,vu a1),(1,vu a2)],[]⟩
  replace hk : cx.E.len = 0 := hk
  unfold num_common.wp at h
  obtain ⟨I7,⟨n7a,hz7⟩,hI7⟩ := h
  refine awp_spine (rc [0,1] [] [] [] ⟨12,[(0,vu a1),(1,vu a2)],[]⟩ (pe) (tc ((awp_spine (awp_block (awp_loopN (fun n s => ∃ (x3:Int) (x4:Int),I7 n x3 x4 ∧ s = ⟨12,[(0,vu x3),(1,vu x4)],[]⟩) (n := n7a) (s0 := ⟨12,[(0,vu a1),(1,vu a2)],[]⟩) (wk_ghosts hk (l := [.keep [0,1]]) (by kernel_rfl)) ⟨a1,a2,hz7,rfl⟩ ?_))))))
  rintro n7 s ⟨x3,x4,hx7,rfl⟩
  have h := hI7 n7 x3 x4 hx7
  refine awp_spine (rc [0,1,6] [1] [] [] ⟨12,[(0,vu x3),(1,vu x4),(6,vb (decide (x4 > (0:Int))))],[]⟩ (pe) (tc ((awp_cond (b := decide (x4 > (0:Int))) (by kernel_rfl) (fun hb => ?_) (fun hb => ?_)))))
  · replace h := h.1 (of_decide_eq_true hb)
    obtain ⟨o1,h⟩ := h
    refine awp_skip (tc ((awp_block (dr hk [0,1] [3] [] [] ⟨[[],[],[],[1,2],[0,1],(lr 5)],[vu x4,vu x3,vu x4,vu (Int.tmod x3 x4),vu x4,vu (Int.tmod x3 x4)],_,[],[([],[])],[],[]⟩ ⟨12,[(0,vu x4),(1,vu (Int.tmod x3 x4))],[]⟩ (.n (.n (.n (.s o1 (.n (.n AllO.e)))))) (blk_n (te ((then_n (?_)))))))))
    obtain ⟨m,hm,h⟩ := h
    exact ⟨m,hm,⟨12,[(0,vu x4),(1,vu (Int.tmod x3 x4))],[]⟩,wk_ghosts hk (l := [.keep [0,1]]) (by kernel_rfl),x4,Int.tmod x3 x4,h,rfl⟩
  · replace h := h.2 (of_decide_eq_false hb)
    refine awp_exit (then_x (then_x (blk_h (tc ((awp_spine (rc [4] [] [] [] ⟨12,[(4,vu x3)],[]⟩ (pe) (tc ((awp_ret (tr (tr (tr (?_))))))))))))))
    exact re hk (vu x3) [.keep [4]] ⟨12,[(4,vu x3)],[]⟩ ⟨x3,rfl,rfl,h⟩
theorem ok_num_common (a1:Int) (a2:Int) (h : num_common.pre a1 a2) : OkC prog 86 [vu a1,vu a2] (vu (num_common.fn a1 a2)) :=
  OkC.of call_num_common ((walk_num_common a1 a2 _ (num_common.spec a1 a2 h)).mono fun r o ⟨x,hr,ho,hx⟩ => ⟨by rw [hr,hx],ho⟩) rfl rfl (fun _ => rfl)

noncomputable abbrev b87 : Code := bodyOf Try.f87
theorem call_num_size : CallOk prog 87 := ⟨_,Try.func87,by kernel_rfl,by kernel_rfl⟩
theorem walk_num_size (a1:Int) (Q : Int → Prop) (h : num_size.wp a1 Q) : VCalls prog 87 [vi a1] [] (fun r o => ∃ x,r = vu x ∧ o = [] ∧ Q x) := by
  refine body Try.func87 (spine (subC [0] b87) [(spine (subC [1,0,0] b87) [(.cond (.tmp 4) (spine (subC [1,0,1,0,0] b87) [.ret]) .skip),(spine (subC [1,1,0] b87) [.ret])])]) fun cx hd hi hk => ?_
  show AWp prog cx _ _ ⟨10,[(0,vi a1)],[]⟩
  replace hk : cx.E.len = 0 := hk
  unfold num_size.wp at h
  refine awp_spine (rc [0] [] [] [] ⟨10,[(0,vi a1)],[]⟩ (pe) (tc ((awp_spine (rc [0,4] [] [] [] ⟨10,[(0,vi a1),(4,vb (decide (a1 < (0:Int))))],[]⟩ (pe) (tc ((awp_cond (b := decide (a1 < (0:Int))) (by kernel_rfl) (fun hb => ?_) (fun hb => ?_)))))))))
  · replace h := h.1 (of_decide_eq_true hb)
    refine awp_spine (rc [2] [1,2] [] [] ⟨10,[(2,vu (IntKind.wrap .u64 (-(IntKind.wrap .u64 a1))))],[]⟩ (pe) (tc ((awp_abs (fun (x1:Int) => ⟨10,[(2,vu x1)],[]⟩) (IntKind.wrap .u64 (-(IntKind.wrap .u64 a1))) ?_))))
    intro x1 hx1
    replace h := h x1 hx1
    refine awp_ret (tr (tr (tr (?_))))
    exact re hk (vu x1) [.keep [2]] ⟨10,[(2,vu x1)],[]⟩ ⟨x1,rfl,rfl,h⟩
  · replace h := h.2 (of_decide_eq_false hb)
    refine awp_skip (tc ((awp_spine (rc [2] [1] [] [] ⟨10,[(2,vu (IntKind.wrap .u64 a1))],[]⟩ (pe) (tc ((awp_ret (tr (tr (tr (?_)))))))))))
    exact re hk (vu (IntKind.wrap .u64 a1)) [.keep [2]] ⟨10,[(2,vu (IntKind.wrap .u64 a1))],[]⟩ ⟨IntKind.wrap .u64 a1,rfl,rfl,h⟩
theorem ok_num_size (a1:Int) (h : num_size.pre a1) : OkC prog 87 [vi a1] (vu (num_size.fn a1)) :=
  OkC.of call_num_size ((walk_num_size a1 _ (num_size.spec a1 h)).mono fun r o ⟨x,hr,ho,hx⟩ => ⟨by rw [hr,hx],ho⟩) rfl rfl (fun _ => rfl)

noncomputable abbrev b85 : Code := bodyOf Try.f85
theorem call_num_Gcd_1 : CallOk prog 85 := ⟨_,Try.func85,by kernel_rfl,by kernel_rfl⟩
theorem walk_num_Gcd_1 (a1:Int) (a2:Int) (Q : Int → Prop) (h : num_Gcd_1.wp a1 a2 Q) : VCalls prog 85 [vu a1,vi a2] [] (fun r o => ∃ x,r = vu x ∧ o = [] ∧ Q x) := by
  refine body Try.func85 (spine (subC [0] b85) [(spine (subC [1,0] b85) [.ret])]) fun cx hd hi hk => ?_
  show AWp prog cx _ _ ⟨9,[(0,vu a1),(1,vi a2)],[]⟩
  replace hk : cx.E.len = 0 := hk
  unfold num_Gcd_1.wp at h
  obtain ⟨o1,o2,h⟩ := h
  refine awp_spine (rc [0,1] [] [] [] ⟨9,[(0,vu a1),(1,vi a2)],[]⟩ (pe) (tc ((awp_spine (rc [4] [] [(2,.dat (vu (num_size.fn a2))),(3,.dat (vu (num_common.fn a1 (num_size.fn a2))))] [] ⟨9,[(4,vu (num_common.fn a1 (num_size.fn a2)))],[]⟩ (pn (ok_num_size a2 (o1)) (pn (ok_num_common a1 (num_size.fn a2) (o2)) pe)) (tc ((awp_abs (fun (x1:Int) => ⟨9,[(4,vu (num_common.fn a1 x1))],[]⟩) (num_size.fn a2) ?_))))))))
  intro x1 hx1
  replace h := h x1 hx1
  refine awp_abs (fun (x2:Int) => ⟨9,[(4,vu x2)],[]⟩) (num_common.fn a1 x1) ?_
  intro x2 hx2
  replace h := h x2 hx2
  refine awp_ret (tr (tr (?_)))
  exact re hk (vu x2) [.keep [4]] ⟨9,[(4,vu x2)],[]⟩ ⟨x2,rfl,rfl,h⟩
theorem ok_num_Gcd_1 (a1:Int) (a2:Int) (h : num_Gcd_1.pre a1 a2) : OkC prog 85 [vu a1,vi a2] (vu (num_Gcd_1.fn a1 a2)) :=
  OkC.of call_num_Gcd_1 ((walk_num_Gcd_1 a1 a2 _ (num_Gcd_1.spec a1 a2 h)).mono fun r o ⟨x,hr,ho,hx⟩ => ⟨by rw [hr,hx],ho⟩) rfl rfl (fun _ => rfl)

noncomputable abbrev b84__num_Gcd_1 : Code := bodyOf Try.f84
theorem call_num_fold_uint64__num_Gcd_1 : CallOk prog 84 := ⟨_,Try.func84,by kernel_rfl,by kernel_rfl⟩
theorem walk_num_fold_uint64__num_Gcd_1 (a1 : (List Int)) (a2:Int) (Q : Int → Prop) (h : num_fold_uint64__num_Gcd_1.wp a1 a2 Q) : VCalls prog 84 [vs a1,vu a2,.fn (.func 85) [] []] [] (fun r o => ∃ x,r = vu x ∧ o = [] ∧ Q x) := by
  refine body Try.func84 (spine (subC [0] b84__num_Gcd_1) [(spine (subC [1,0,0] b84__num_Gcd_1) [(.block 0 (.loop (spine (subC [1,0,1,0,0,0] b84__num_Gcd_1) [(spine (.cond (.tmp 12) .skip (.exit 0)) [(spine (.block 1 (spine (subC [1,0,1,0,0,1,1,0,0,0] b84__num_Gcd_1) [(subC [1,0,1,0,0,1,1,0,0,1] b84__num_Gcd_1)])) [(subC [1,0,1,0,0,1,1,1] b84__num_Gcd_1)])])]))),(spine (subC [1,1,0] b84__num_Gcd_1) [.ret])])]) fun cx hd hi hk => ?_
  show AWp prog cx _ _ ⟨21,[(0,vs a1),(1,vu a2),(2,.fn (.func 85) [] [])],[]⟩
  replace hk : cx.E.len = 0 := hk
  unfold num_fold_uint64__num_Gcd_1.wp at h
  refine awp_spine (rc [0,1,2] [] [] [] ⟨21,[(0,vs a1),(1,vu a2),(2,.fn (.func 85) [] [])],[]⟩ (pe) (tc ((awp_spine (rc [1,2,9,10,11] [] [] [] ⟨21,[(1,vu a2),(2,.fn (.func 85) [] []),(9,vs a1),(10,vi (a1.length:Int)),(11,vi 0)],[]⟩ (pe) (tc ((awp_len 9 [] (T := tI) (l := a1) (by kernel_rfl) fun hl => ?_))))))))
  replace h := h hl
  obtain ⟨I7,⟨n7a,hz7⟩,hI7⟩ := h
  refine awp_block (awp_loopN (fun n s => ∃ (x3:Int) (x4:Int),I7 n x3 x4 ∧ s = ⟨21,[(1,vu x3),(2,.fn (.func 85) [] []),(9,vs a1),(10,vi (a1.length:Int)),(11,vi x4)],[]⟩) (n := n7a) (s0 := ⟨21,[(1,vu a2),(2,.fn (.func 85) [] []),(9,vs a1),(10,vi (a1.length:Int)),(11,vi 0)],[]⟩) (wk_ghosts hk (l := [.keep [1,2,9,10,11]]) (by kernel_rfl)) ⟨a2,0,hz7,rfl⟩ ?_)
  rintro n7 s ⟨x3,x4,hx7,rfl⟩
  have h := hI7 n7 x3 x4 hx7
  refine awp_spine (rc [1,2,9,10,11,12] [] [] [] ⟨21,[(1,vu x3),(2,.fn (.func 85) [] []),(9,vs a1),(10,vi (a1.length:Int)),(11,vi x4),(12,vb (decide (x4 < (a1.length:Int))))],[]⟩ (pe) (tc ((awp_spine (awp_cond (b := decide (x4 < (a1.length:Int))) (by kernel_rfl) (fun hb => ?_) (fun hb => ?_))))))
  · replace h := h.1 (of_decide_eq_true hb)
    obtain ⟨o1,h⟩ := h
    obtain ⟨o2,h⟩ := h
    refine awp_skip (tc ((awp_spine (awp_block (awp_spine (rc [1,2,8,9,10,11] [] [] [] ⟨21,[(1,vu x3),(2,.fn (.func 85) [] []),(8,vi (gI a1 x4)),(9,vs a1),(10,vi (a1.length:Int)),(11,vi x4)],[]⟩ (pn o1 pe) (tc ((rc [1,2,9,10,11] [] [(3,.dat (vu (num_Gcd_1.fn x3 (gI a1 x4))))] [] ⟨21,[(1,vu (num_Gcd_1.fn x3 (gI a1 x4))),(2,.fn (.func 85) [] []),(9,vs a1),(10,vi (a1.length:Int)),(11,vi x4)],[]⟩ (pn (ok_num_Gcd_1 x3 (gI a1 x4) (o2)) pe) (te ((blk_n (tc ((awp_abs (fun (x8:Int) => ⟨21,[(1,vu x8),(2,.fn (.func 85) [] []),(9,vs a1),(10,vi (a1.length:Int)),(11,vi x4)],[]⟩) (num_Gcd_1.fn x3 (gI a1 x4)) ?_)))))))))))))))
    intro x8 hx8
    replace h := h x8 hx8
    obtain ⟨o3,h⟩ := h
    refine rc [1,2,9,10,11] [] [] [] ⟨21,[(1,vu x8),(2,.fn (.func 85) [] []),(9,vs a1),(10,vi (a1.length:Int)),(11,vi (x4 + (1:Int)))],[]⟩ (pn o3 pe) (te ((te ((te ((then_n (?_))))))))
    obtain ⟨m,hm,h⟩ := h
    exact ⟨m,hm,⟨21,[(1,vu x8),(2,.fn (.func 85) [] []),(9,vs a1),(10,vi (a1.length:Int)),(11,vi (x4 + (1:Int)))],[]⟩,wk_ghosts hk (l := [.keep [1,2,9,10,11]]) (by kernel_rfl),x8,x4 + (1:Int),h,rfl⟩
  · replace h := h.2 (of_decide_eq_false hb)
    refine awp_exit (then_x (then_x (then_x (blk_h (tc ((awp_spine (rc [6] [] [] [] ⟨21,[(6,vu x3)],[]⟩ (pe) (tc ((awp_ret (tr (tr (tr (?_)))))))))))))))
    exact re hk (vu x3) [.keep [6]] ⟨21,[(6,vu x3)],[]⟩ ⟨x3,rfl,rfl,h⟩
theorem ok_num_fold_uint64__num_Gcd_1 (a1 : (List Int)) (a2:Int) (h : num_fold_uint64__num_Gcd_1.pre a1 a2) : OkC prog 84 [vs a1,vu a2,.fn (.func 85) [] []] (vu (num_fold_uint64__num_Gcd_1.fn a1 a2)) :=
  OkC.of call_num_fold_uint64__num_Gcd_1 ((walk_num_fold_uint64__num_Gcd_1 a1 a2 _ (num_fold_uint64__num_Gcd_1.spec a1 a2 h)).mono fun r o ⟨x,hr,ho,hx⟩ => ⟨by rw [hr,hx],ho⟩) rfl rfl (fun _ => rfl)

noncomputable abbrev b59 : Code := bodyOf Try.f59
theorem call_num_Gcd : CallOk prog 59 := ⟨_,Try.func59,by kernel_rfl,by kernel_rfl⟩
theorem walk_num_Gcd (a1 : (List Int)) (Q : Int × Int → Prop) (h : num_Gcd.wp a1 Q) : VCalls prog 59 [vs a1] [] (fun r o => ∃ x,r = .tup [vi x.1,vi x.2] ∧ o = [] ∧ Q x) := by
  refine body Try.func59 (spine (subC [0] b59) [(spine (subC [1,0] b59) [(spine (subC [1,1,0,0] b59) [(.cond (.tmp 8) (spine (subC [1,1,0,1,0,0] b59) [.ret]) .skip),(spine (subC [1,1,1,0] b59) [.ret])])])]) fun cx hd hi hk => ?_
  show AWp prog cx _ _ ⟨11,[(0,vs a1)],[]⟩
  replace hk : cx.E.len = 0 := hk
  unfold num_Gcd.wp at h
  obtain ⟨o1,h⟩ := h
  refine awp_spine (rc [0] [] [] [] ⟨11,[(0,vs a1)],[]⟩ (pe) (tc ((awp_spine (rc [4] [] [(1,.dat (vu (num_fold_uint64__num_Gcd_1.fn a1 (0:Int))))] [] ⟨11,[(4,vu (num_fold_uint64__num_Gcd_1.fn a1 (0:Int)))],[]⟩ (pn (ok_num_fold_uint64__num_Gcd_1 a1 (0:Int) (o1)) pe) (tc ((awp_abs (fun (x1:Int) => ⟨11,[(4,vu x1)],[]⟩) (num_fold_uint64__num_Gcd_1.fn a1 (0:Int)) ?_))))))))
  intro x1 hx1
  replace h := h x1 hx1
  refine awp_spine (rc [4,8] [1] [] [] ⟨11,[(4,vu x1),(8,vb (decide (x1 > (9223372036854775807:Int))))],[]⟩ (pe) (tc ((awp_cond (b := decide (x1 > (9223372036854775807:Int))) (by kernel_rfl) (fun hb => ?_) (fun hb => ?_)))))
  · replace h := h.1 (of_decide_eq_true hb)
    refine awp_spine (rc [2,3] [] [] [] ⟨11,[(2,vi 0),(3,vi (3:Int))],[]⟩ (pe) (tc ((awp_ret (tr (tr (tr (tr (?_)))))))))
    exact re hk (.tup [vi ((0,3).1),vi ((0,3).2)]) [.keep [2,3]] ⟨11,[(2,vi 0),(3,vi (3:Int))],[]⟩ ⟨(0,3),rfl,rfl,h⟩
  · replace h := h.2 (of_decide_eq_false hb)
    obtain ⟨o2,h⟩ := h
    refine awp_skip (tc ((awp_spine (rc [2,3] [] [] [] ⟨11,[(2,vi x1),(3,vi 0)],[]⟩ (pn o2 pe) (tc ((awp_ret (tr (tr (tr (tr (?_))))))))))))
    exact re hk (.tup [vi ((x1,0).1),vi ((x1,0).2)]) [.keep [2,3]] ⟨11,[(2,vi x1),(3,vi 0)],[]⟩ ⟨(x1,0),rfl,rfl,h⟩
theorem ok_num_Gcd (a1 : (List Int)) (h : num_Gcd.pre a1) : OkC prog 59 [vs a1] (.tup [vi ((num_Gcd.fn a1).1),vi ((num_Gcd.fn a1).2)]) :=
  OkC.of call_num_Gcd ((walk_num_Gcd a1 _ (num_Gcd.spec a1 h)).mono fun r o ⟨x,hr,ho,hx⟩ => ⟨by rw [hr,hx],ho⟩) rfl rfl (fun _ => rfl)

noncomputable abbrev b92 : Code := bodyOf Try.f92
theorem call_farkas_row_reduced : CallOk prog 92 := ⟨_,Try.func92,by kernel_rfl,by kernel_rfl⟩
theorem walk_farkas_row_reduced (a1 : farkas_row) (Q : farkas_row → Prop) (h : farkas_row_reduced.wp a1 Q) : VCalls prog 92 [.agg (c_farkas_row a1)] [] (fun r o => ∃ x,r = .agg (c_farkas_row x) ∧ o = [] ∧ Q x) := by
  refine body Try.func92 (spine (subC [0] b92) [(spine (subC [1,0] b92) [(spine (subC [1,1,0,0] b92) [(.cond (.tmp 12) (subC [1,1,0,1,0] b92) .skip),(spine (subC [1,1,1,0] b92) [.ret])])])]) fun cx hd hi hk => ?_
  show AWp prog cx _ _ ⟨19,[(0,.agg (c_farkas_row a1))],[]⟩
  replace hk : cx.E.len = 0 := hk
  unfold farkas_row_reduced.wp at h
  obtain ⟨o1,h⟩ := h
  refine awp_spine (rc [1,2] [] [] [] ⟨19,[(1,.ref 0 0 0),(2,.ref 1 0 0)],[.box (c_farkas_row a1),.box [vb false,.nils]]⟩ (pe) (tc ((awp_spine (rc [1,2,3] [] [(2,.dat (.tup [vi ((num_Gcd.fn a1.2).1),vi ((num_Gcd.fn a1.2).2)]))] [] ⟨19,[(1,.ref 0 0 0),(2,.ref 1 0 0),(3,vi ((num_Gcd.fn a1.2).1))],[.box (c_farkas_row a1),.box [vb false,.nils]]⟩ (pn (ok_num_Gcd a1.2 (o1)) pe) (tc ((awp_abs (fun (x1 : Int × Int) => ⟨19,[(1,.ref 0 0 0),(2,.ref 1 0 0),(3,vi x1.1)],[.box (c_farkas_row a1),.box [vb false,.nils]]⟩) (num_Gcd.fn a1.2) ?_))))))))
  intro x1 hx1
  replace h := h x1 hx1
  refine awp_spine (rc [1,2,3,12] [] [] [] ⟨19,[(1,.ref 0 0 0),(2,.ref 1 0 0),(3,vi x1.1),(12,vb (decide (x1.1 > (1:Int))))],[.box (c_farkas_row a1),.box [vb false,.nils]]⟩ (pe) (tc ((awp_cond (b := decide (x1.1 > (1:Int))) (by kernel_rfl) (fun hb => ?_) (fun hb => ?_)))))
  · replace h := h.1 (of_decide_eq_true hb)
    obtain ⟨o2,h⟩ := h
    refine rc [1,2] [] [(3,.dat (vs (farkas_vector_int_by.fn a1.2 x1.1)))] [] ⟨19,[(1,.ref 0 0 0),(2,.ref 1 0 0)],[.box [vb a1.1,vs (farkas_vector_int_by.fn a1.2 x1.1)],.box [vb false,.nils]]⟩ (pn (ok_farkas_vector_int_by a1.2 x1.1 (o2)) pe) (tc ((awp_abs (fun (x2 : (List Int)) => ⟨19,[(1,.ref 0 0 0),(2,.ref 1 0 0)],[.box [vb a1.1,vs x2],.box [vb false,.nils]]⟩) (farkas_vector_int_by.fn a1.2 x1.1) ?_)))
    intro x2 hx2
    replace h := h x2 hx2
    refine awp_spine (rc [2] [] [] [] ⟨19,[(2,.ref 1 0 0)],[.box [vb a1.1,vs x2],.box [vb a1.1,vs x2]]⟩ (pe) (tc ((awp_ret (tr (tr (tr (tr (?_)))))))))
    exact re hk (.agg (c_farkas_row (a1.1,x2))) [.keep [2]] ⟨19,[(2,.ref 1 0 0)],[.box [vb a1.1,vs x2],.box [vb a1.1,vs x2]]⟩ ⟨(a1.1,x2),rfl,rfl,h⟩
  · replace h := h.2 (of_decide_eq_false hb)
    refine awp_skip (tc ((awp_spine (rc [2] [] [] [] ⟨19,[(2,.ref 1 0 0)],[.box (c_farkas_row a1),.box (c_farkas_row a1)]⟩ (pe) (tc ((awp_ret (tr (tr (tr (tr (?_))))))))))))
    exact re hk (.agg (c_farkas_row a1)) [.keep [2]] ⟨19,[(2,.ref 1 0 0)],[.box (c_farkas_row a1),.box (c_farkas_row a1)]⟩ ⟨a1,rfl,rfl,h⟩
theorem ok_farkas_row_reduced (a1 : farkas_row) (h : farkas_row_reduced.pre a1) : OkC prog 92 [.agg (c_farkas_row a1)] (.agg (c_farkas_row (farkas_row_reduced.fn a1))) :=
  OkC.of call_farkas_row_reduced ((walk_farkas_row_reduced a1 _ (farkas_row_reduced.spec a1 h)).mono fun r o ⟨x,hr,ho,hx⟩ => ⟨by rw [hr,hx],ho⟩) rfl rfl (fun _ => rfl)

noncomputable abbrev b95 : Code := bodyOf Try.f95
theorem call_slices_Equal_farkas_vector_int_int : CallOk prog 95 := ⟨_,Try.func95,by kernel_rfl,by kernel_rfl⟩
theorem walk_slices_Equal_farkas_vector_int_int (a1 : (List Int)) (a2 : (List Int)) (Q : Bool → Prop) (h : slices_Equal_farkas_vector_int_int.wp a1 a2 Q) : VCalls prog 95 [vs a1,vs a2] [] (fun r o => ∃ x,r = vb x ∧ o = [] ∧ Q x) := by
  refine body Try.func95 (spine (subC [0] b95) [(spine (subC [1,0,0] b95) [(.cond (.tmp 10) (spine (subC [1,0,1,0,0] b95) [.ret]) .skip),(spine (subC [1,1,0,0] b95) [(.block 0 (.loop (spine (subC [1,1,0,1,0,0,0] b95) [(spine (.cond (.tmp 14) .skip (.exit 0)) [(spine (.block 1 (spine (subC [1,1,0,1,0,0,1,1,0,0,0] b95) [(spine (subC [1,1,0,1,0,0,1,1,0,0,1,0] b95) [(.cond (.tmp 24) (spine (subC [1,1,0,1,0,0,1,1,0,0,1,1,0,0] b95) [.ret]) .skip)])])) [(subC [1,1,0,1,0,0,1,1,1] b95)])])]))),(spine (subC [1,1,1,0] b95) [.ret])])])]) fun cx hd hi hk => ?_
  show AWp prog cx _ _ ⟨26,[(0,vs a1),(1,vs a2)],[]⟩
  replace hk : cx.E.len = 0 := hk
  unfold slices_Equal_farkas_vector_int_int.wp at h
  refine awp_spine (rc [0,1] [] [] [] ⟨26,[(0,vs a1),(1,vs a2)],[]⟩ (pe) (tc ((awp_spine (rc [0,1,10] [] [] [] ⟨26,[(0,vs a1),(1,vs a2),(10,vb ((a1.length:Int) != (a2.length:Int)))],[]⟩ (pe) (tc ((awp_len 0 [] (T := tI) (l := a1) (by kernel_rfl) fun hl => ?_))))))))
  replace h := h hl
  refine awp_len 1 [] (T := tI) (l := a2) (by kernel_rfl) fun hl => ?_
  replace h := h hl
  refine awp_cond (b := (a1.length:Int) != (a2.length:Int)) (by kernel_rfl) (fun hb => ?_) (fun hb => ?_)
  · replace h := h.1 (bne_iff_ne.mp hb)
    refine awp_spine (rc [4] [] [] [] ⟨26,[(4,vb false)],[]⟩ (pe) (tc ((awp_ret (tr (tr (tr (?_))))))))
    exact re hk (vb false) [.keep [4]] ⟨26,[(4,vb false)],[]⟩ ⟨false,rfl,rfl,h⟩
  · replace h := h.2 (bne_f hb)
    refine awp_skip (tc ((awp_spine (rc [0,1,12,13] [] [] [] ⟨26,[(0,vs a1),(1,vs a2),(12,vi (a1.length:Int)),(13,vi 0)],[]⟩ (pe) (tc ((awp_len 0 [] (T := tI) (l := a1) (by kernel_rfl) fun hl => ?_)))))))
    replace h := h hl
    obtain ⟨I4,⟨n4a,hz4⟩,hI4⟩ := h
    refine awp_block (awp_loopN (fun n s => ∃ (x2:Int),I4 n x2 ∧ s = ⟨26,[(0,vs a1),(1,vs a2),(12,vi (a1.length:Int)),(13,vi x2)],[]⟩) (n := n4a) (s0 := ⟨26,[(0,vs a1),(1,vs a2),(12,vi (a1.length:Int)),(13,vi 0)],[]⟩) (wk_ghosts hk (l := [.keep [0,1,12,13]]) (by kernel_rfl)) ⟨0,hz4,rfl⟩ ?_)
    rintro n4 s ⟨x2,hx4,rfl⟩
    have h := hI4 n4 x2 hx4
    refine awp_spine (rc [0,1,12,13,14] [] [] [] ⟨26,[(0,vs a1),(1,vs a2),(12,vi (a1.length:Int)),(13,vi x2),(14,vb (decide (x2 < (a1.length:Int))))],[]⟩ (pe) (tc ((awp_spine (awp_cond (b := decide (x2 < (a1.length:Int))) (by kernel_rfl) (fun hb => ?_) (fun hb => ?_))))))
    · replace h := h.1 (of_decide_eq_true hb)
      obtain ⟨o1,o2,h⟩ := h
      refine awp_skip (tc ((awp_spine (awp_block (awp_spine (rc [0,1,5,12,13] [] [] [] ⟨26,[(0,vs a1),(1,vs a2),(5,vi x2),(12,vi (a1.length:Int)),(13,vi x2)],[]⟩ (pe) (tc ((awp_spine (dr hk [0,1,12,13,24] [] [] [] ⟨[[],[],[0,1],[0,1,2],[],[],[4,5],[4,5,6],(lr 8)],[vs a1,vi x2,.er [vi (gI a1 x2)],vi (gI a1 x2),vs a2,vi x2,.er [vi (gI a2 x2)],vi (gI a2 x2),vb ((gI a1 x2) != (gI a2 x2))],_,[],[([],[])],[],[]⟩ ⟨26,[(0,vs a1),(1,vs a2),(12,vi (a1.length:Int)),(13,vi x2),(24,vb ((gI a1 x2) != (gI a2 x2)))],[]⟩ (.n (.n (.s o1 (.n (.n (.n (.s o2 (.n (.n AllO.e))))))))) (tc ((awp_cond (b := (gI a1 x2) != (gI a2 x2)) (by kernel_rfl) (fun hb => ?_) (fun hb => ?_))))))))))))))
      · replace h := h.1 (bne_iff_ne.mp hb)
        refine awp_spine (rc [4] [] [] [] ⟨26,[(4,vb false)],[]⟩ (pe) (tc ((awp_ret (tr (tr (tr (blk_r (tr (tr (tr (tr (blk_r (tr (tr (tr (?_)))))))))))))))))
        exact re hk (vb false) [.keep [4]] ⟨26,[(4,vb false)],[]⟩ ⟨false,rfl,rfl,h⟩
      · replace h := h.2 (bne_f hb)
        obtain ⟨o3,h⟩ := h
        refine awp_skip (te ((te ((blk_n (tc ((rc [0,1,12,13] [] [] [] ⟨26,[(0,vs a1),(1,vs a2),(12,vi (a1.length:Int)),(13,vi (x2 + (1:Int)))],[]⟩ (pn o3 pe) (te ((te ((te ((then_n (?_))))))))))))))))
        obtain ⟨m,hm,h⟩ := h
        exact ⟨m,hm,⟨26,[(0,vs a1),(1,vs a2),(12,vi (a1.length:Int)),(13,vi (x2 + (1:Int)))],[]⟩,wk_ghosts hk (l := [.keep [0,1,12,13]]) (by kernel_rfl),x2 + (1:Int),h,rfl⟩
    · replace h := h.2 (of_decide_eq_false hb)
      refine awp_exit (then_x (then_x (then_x (blk_h (tc ((awp_spine (rc [4] [] [] [] ⟨26,[(4,vb true)],[]⟩ (pe) (tc ((awp_ret (tr (tr (tr (tr (?_))))))))))))))))
      exact re hk (vb true) [.keep [4]] ⟨26,[(4,vb true)],[]⟩ ⟨true,rfl,rfl,h⟩
theorem ok_slices_Equal_farkas_vector_int_int (a1 : (List Int)) (a2 : (List Int)) : OkC prog 95 [vs a1,vs a2] (vb (slices_Equal_farkas_vector_int_int.fn a1 a2)) :=
  OkC.of call_slices_Equal_farkas_vector_int_int ((walk_slices_Equal_farkas_vector_int_int a1 a2 _ (slices_Equal_farkas_vector_int_int.spec a1 a2)).mono fun r o ⟨x,hr,ho,hx⟩ => ⟨by rw [hr,hx],ho⟩) rfl rfl (fun _ => rfl)

noncomputable abbrev b94 : Code := bodyOf Try.f94
theorem call_farkas_table_kept_1 : CallOk prog 94 := ⟨_,Try.func94,by kernel_rfl,by kernel_rfl⟩
theorem walk_farkas_table_kept_1 (a1 : farkas_row) (a2 : Bool) (a3 : (List Int)) (a4:Int) (a5 : (List farkas_row)) (Q : Bool → Prop) (h : farkas_table_kept_1.wp a1 a2 a3 a4 a5 Q) : VCalls prog 94 [.agg (c_farkas_row a1),.er [vb a2,vs a3],.er [vi a4,.d (.sl t_farkas_row) a5]] [] (fun r o => ∃ x,r = vb x ∧ o = [] ∧ Q x) := by
  refine body Try.func94 (spine (subC [0] b94) [(spine (subC [1,0] b94) [.ret])]) fun cx hd hi hk => ?_
  show AWp prog cx _ _ ⟨25,[(0,.agg (c_farkas_row a1)),(1,.er [vb a2,vs a3]),(2,.er [vi a4,.d (.sl t_farkas_row) a5])],[]⟩
  replace hk : cx.E.len = 0 := hk
  unfold farkas_table_kept_1.wp at h
  obtain ⟨o1,o2,o3,o4,h⟩ := h
  refine awp_spine (rc [1,2,3] [] [] [0] ⟨25,[(1,.er [vb a2,vs a3]),(2,.er [vi a4,.d (.sl t_farkas_row) a5]),(3,.er (c_farkas_row a1))],[]⟩ (pe) (tc ((awp_spine (dr hk [4] [] [18] [] ⟨[[],[0],[],[2],[0,1,2,3],(lr 5),(lr 6),(lr 7),(lr 6),[0,1,2,3,4,5,8],[0,1,2,3,4,5,8,9],(lr 11),(lr 6),[0,1,2,3,4,5,12],(lr 6),[0,1,2,3,4,5,14],[0,1,2,3,4,5,14,15],[0,1,2,3,4,5,12,13,14,15,16],(lr 18),(lr 19),(lr 20)],[.er (c_farkas_row a1),vb a1.1,.er [vb a2,vs a3],vb a2,vb (a1.1 == a2),vb (a1.1 == a2),.when (a1.1 == a2) (.er [vs a1.2]),.when (a1.1 == a2) (vs a1.2),.when (a1.1 == a2) (.er [vi a4,.d (.sl t_farkas_row) a5]),.when (a1.1 == a2) (vi a4),.when (a1.1 == a2) (vi (a4 + (1:Int))),.when (a1.1 == a2) (vs (a1.2.take (Int.toNat (a4 + (1:Int))))),.when (a1.1 == a2) (.er [vs a3]),.when (a1.1 == a2) (vs a3),.when (a1.1 == a2) (.er [vi a4,.d (.sl t_farkas_row) a5]),.when (a1.1 == a2) (vi a4),.when (a1.1 == a2) (vi (a4 + (1:Int))),.when (a1.1 == a2) (vs (a3.take (Int.toNat (a4 + (1:Int))))),.when (a1.1 == a2) (vb (slices_Equal_farkas_vector_int_int.fn (a1.2.take (Int.toNat (a4 + (1:Int)))) (a3.take (Int.toNat (a4 + (1:Int)))))),vb ((a1.1 == a2) && (slices_Equal_farkas_vector_int_int.fn (a1.2.take (Int.toNat (a4 + (1:Int)))) (a3.take (Int.toNat (a4 + (1:Int)))))),vb ((a1.1 == a2) && (slices_Equal_farkas_vector_int_int.fn (a1.2.take (Int.toNat (a4 + (1:Int)))) (a3.take (Int.toNat (a4 + (1:Int))))))],_,[],[([],[])],[],[]⟩ ⟨25,[(4,vb ((a1.1 == a2) && (slices_Equal_farkas_vector_int_int.fn (a1.2.take (Int.toNat (a4 + (1:Int)))) (a3.take (Int.toNat (a4 + (1:Int)))))))],[]⟩ (.n (.n (.n (.n (.n (.n (.n (.s (fun hg => ⟨hg,trivial⟩ : (a1.1 == a2) = true → (a1.1 == a2) = true ∧ True) (.n (.s (fun hg => ⟨hg,trivial⟩ : (a1.1 == a2) = true → (a1.1 == a2) = true ∧ True) (.s (fun hg => ⟨hg,(o1 hg)⟩ : (a1.1 == a2) = true → (a1.1 == a2) = true ∧ (-9223372036854775808 ≤ a4 + (1:Int) ∧ a4 + (1:Int) ≤ 9223372036854775807)) (.s (fun hg => ⟨hg,hg,(o2 hg)⟩ : (a1.1 == a2) = true → (a1.1 == a2) = true ∧ ((a1.1 == a2) = true ∧ ((0:Int) ≤ (a4 + (1:Int)) ∧ (a4 + (1:Int)) ≤ (a1.2.length:Int)))) (.n (.s (fun hg => ⟨hg,trivial⟩ : (a1.1 == a2) = true → (a1.1 == a2) = true ∧ True) (.n (.s (fun hg => ⟨hg,trivial⟩ : (a1.1 == a2) = true → (a1.1 == a2) = true ∧ True) (.s (fun hg => ⟨hg,(o3 hg)⟩ : (a1.1 == a2) = true → (a1.1 == a2) = true ∧ (-9223372036854775808 ≤ a4 + (1:Int) ∧ a4 + (1:Int) ≤ 9223372036854775807)) (.s (fun hg => ⟨hg,hg,(o4 hg)⟩ : (a1.1 == a2) = true → (a1.1 == a2) = true ∧ ((a1.1 == a2) = true ∧ ((0:Int) ≤ (a4 + (1:Int)) ∧ (a4 + (1:Int)) ≤ (a3.length:Int)))) (.s (fun hg => ⟨hg,hg,ok_slices_Equal_farkas_vector_int_int (a1.2.take (Int.toNat (a4 + (1:Int)))) (a3.take (Int.toNat (a4 + (1:Int))))⟩ : (a1.1 == a2) = true → (a1.1 == a2) = true ∧ ((a1.1 == a2) = true ∧ (OkC prog 95 [vs (a1.2.take (Int.toNat (a4 + (1:Int)))),vs (a3.take (Int.toNat (a4 + (1:Int))))] (vb (slices_Equal_farkas_vector_int_int.fn (a1.2.take (Int.toNat (a4 + (1:Int)))) (a3.take (Int.toNat (a4 + (1:Int))))))))) (.s (fun hc => hc : (a1.1 == a2) = true → (a1.1 == a2) = true) (.n AllO.e))))))))))))))))))))) (tc ((awp_ret (tr (tr (?_)))))))))))
  exact re hk (vb ((a1.1 == a2) && (slices_Equal_farkas_vector_int_int.fn (a1.2.take (Int.toNat (a4 + (1:Int)))) (a3.take (Int.toNat (a4 + (1:Int))))))) [.keep [4]] ⟨25,[(4,vb ((a1.1 == a2) && (slices_Equal_farkas_vector_int_int.fn (a1.2.take (Int.toNat (a4 + (1:Int)))) (a3.take (Int.toNat (a4 + (1:Int)))))))],[]⟩ ⟨(a1.1 == a2) && (slices_Equal_farkas_vector_int_int.fn (a1.2.take (Int.toNat (a4 + (1:Int)))) (a3.take (Int.toNat (a4 + (1:Int))))),rfl,rfl,h⟩
theorem ok_farkas_table_kept_1 (a1 : farkas_row) (a2 : Bool) (a3 : (List Int)) (a4:Int) (a5 : (List farkas_row)) (h : farkas_table_kept_1.pre a1 a2 a3 a4 a5) : OkC prog 94 [.agg (c_farkas_row a1),.er [vb a2,vs a3],.er [vi a4,.d (.sl t_farkas_row) a5]] (vb (farkas_table_kept_1.fn a1 a2 a3 a4 a5)) :=
  OkC.of call_farkas_table_kept_1 ((walk_farkas_table_kept_1 a1 a2 a3 a4 a5 _ (farkas_table_kept_1.spec a1 a2 a3 a4 a5 h)).mono fun r o ⟨x,hr,ho,hx⟩ => ⟨by rw [hr,hx],ho⟩) rfl rfl (fun _ => rfl)

noncomputable abbrev b100__farkas_table_kept_1 : Code := bodyOf Try.f100
theorem call_slices_IndexFunc_Sfarkas_row_farkas_row__farkas_table_kept_1 : CallOk prog 100 := ⟨_,Try.func100,by kernel_rfl,by kernel_rfl⟩
theorem walk_slices_IndexFunc_Sfarkas_row_farkas_row__farkas_table_kept_1 (a1 : (List farkas_row)) (a2 : Bool) (a3 : (List Int)) (a4:Int) (a5 : (List farkas_row)) (Q : Int → Prop) (h : slices_IndexFunc_Sfarkas_row_farkas_row__farkas_table_kept_1.wp a1 a2 a3 a4 a5 Q) : VCalls prog 100 [.d (.sl t_farkas_row) a1,.fn (.func 94) [] [.er [vb a2,vs a3],.er [vi a4,.d (.sl t_farkas_row) a5]]] [] (fun r o => ∃ x,r = vi x ∧ o = [] ∧ Q x) := by
  refine body Try.func100 (spine (subC [0] b100__farkas_table_kept_1) [(spine (subC [1,0,0] b100__farkas_table_kept_1) [(.block 0 (.loop (spine (subC [1,0,1,0,0,0] b100__farkas_table_kept_1) [(spine (.cond (.tmp 9) .skip (.exit 0)) [(spine (.block 1 (spine (subC [1,0,1,0,0,1,1,0,0,0] b100__farkas_table_kept_1) [(spine (subC [1,0,1,0,0,1,1,0,0,1,0] b100__farkas_table_kept_1) [(.cond (.tmp 16) (spine (subC [1,0,1,0,0,1,1,0,0,1,1,0,0] b100__farkas_table_kept_1) [.ret]) .skip)])])) [(subC [1,0,1,0,0,1,1,1] b100__farkas_table_kept_1)])])]))),(spine (subC [1,1,0] b100__farkas_table_kept_1) [.ret])])]) fun cx hd hi hk => ?_
  show AWp prog cx _ _ ⟨19,[(0,.d (.sl t_farkas_row) a1),(1,.fn (.func 94) [] [.er [vb a2,vs a3],.er [vi a4,.d (.sl t_farkas_row) a5]])],[]⟩
  replace hk : cx.E.len = 0 := hk
  unfold slices_IndexFunc_Sfarkas_row_farkas_row__farkas_table_kept_1.wp at h
  refine awp_spine (rc [0,1] [] [] [] ⟨19,[(0,.d (.sl t_farkas_row) a1),(1,.fn (.func 94) [] [.er [vb a2,vs a3],.er [vi a4,.d (.sl t_farkas_row) a5]])],[]⟩ (pe) (tc ((awp_spine (rc [0,1,7,8] [] [] [] ⟨19,[(0,.d (.sl t_farkas_row) a1),(1,.fn (.func 94) [] [.er [vb a2,vs a3],.er [vi a4,.d (.sl t_farkas_row) a5]]),(7,vi (a1.length:Int)),(8,vi 0)],[]⟩ (pe) (tc ((awp_len 0 [] (T := t_farkas_row) (l := a1) (by kernel_rfl) fun hl => ?_))))))))
  replace h := h hl
  obtain ⟨I4,⟨n4a,hz4⟩,hI4⟩ := h
  refine awp_block (awp_loopN (fun n s => ∃ (x2:Int),I4 n x2 ∧ s = ⟨19,[(0,.d (.sl t_farkas_row) a1),(1,.fn (.func 94) [] [.er [vb a2,vs a3],.er [vi a4,.d (.sl t_farkas_row) a5]]),(7,vi (a1.length:Int)),(8,vi x2)],[]⟩) (n := n4a) (s0 := ⟨19,[(0,.d (.sl t_farkas_row) a1),(1,.fn (.func 94) [] [.er [vb a2,vs a3],.er [vi a4,.d (.sl t_farkas_row) a5]]),(7,vi (a1.length:Int)),(8,vi 0)],[]⟩) (wk_ghosts hk (l := [.keep [0,1,7,8]]) (by kernel_rfl)) ⟨0,hz4,rfl⟩ ?_)
  rintro n4 s ⟨x2,hx4,rfl⟩
  have h := hI4 n4 x2 hx4
  refine awp_spine (rc [0,1,7,8,9] [] [] [] ⟨19,[(0,.d (.sl t_farkas_row) a1),(1,.fn (.func 94) [] [.er [vb a2,vs a3],.er [vi a4,.d (.sl t_farkas_row) a5]]),(7,vi (a1.length:Int)),(8,vi x2),(9,vb (decide (x2 < (a1.length:Int))))],[]⟩ (pe) (tc ((awp_spine (awp_cond (b := decide (x2 < (a1.length:Int))) (by kernel_rfl) (fun hb => ?_) (fun hb => ?_))))))
  · replace h := h.1 (of_decide_eq_true hb)
    obtain ⟨o1,o2,h⟩ := h
    refine awp_skip (tc ((awp_spine (awp_block (awp_spine (rc [0,1,5,7,8] [] [] [] ⟨19,[(0,.d (.sl t_farkas_row) a1),(1,.fn (.func 94) [] [.er [vb a2,vs a3],.er [vi a4,.d (.sl t_farkas_row) a5]]),(5,vi x2),(7,vi (a1.length:Int)),(8,vi x2)],[]⟩ (pe) (tc ((awp_spine (rc [0,1,5,7,8,16] [] [(5,.dat (vb (farkas_table_kept_1.fn (a1.getD (Int.toNat x2) d_farkas_row) a2 a3 a4 a5)))] [] ⟨19,[(0,.d (.sl t_farkas_row) a1),(1,.fn (.func 94) [] [.er [vb a2,vs a3],.er [vi a4,.d (.sl t_farkas_row) a5]]),(5,vi x2),(7,vi (a1.length:Int)),(8,vi x2),(16,vb (farkas_table_kept_1.fn (a1.getD (Int.toNat x2) d_farkas_row) a2 a3 a4 a5))],[]⟩ (pn o1 (pn (ok_farkas_table_kept_1 (a1.getD (Int.toNat x2) d_farkas_row) a2 a3 a4 a5 (o2)) pe)) (tc ((awp_cond (b := farkas_table_kept_1.fn (a1.getD (Int.toNat x2) d_farkas_row) a2 a3 a4 a5) (by kernel_rfl) (fun hb => ?_) (fun hb => ?_))))))))))))))
    · replace h := h.1 (hb)
      refine awp_spine (rc [4] [] [] [] ⟨19,[(4,vi x2)],[]⟩ (pe) (tc ((awp_ret (tr (tr (tr (blk_r (tr (tr (tr (tr (blk_r (tr (tr (?_))))))))))))))))
      exact re hk (vi x2) [.keep [4]] ⟨19,[(4,vi x2)],[]⟩ ⟨x2,rfl,rfl,h⟩
    · replace h := h.2 (hb)
      obtain ⟨o3,h⟩ := h
      refine awp_skip (te ((te ((blk_n (tc ((rc [0,1,7,8] [] [] [] ⟨19,[(0,.d (.sl t_farkas_row) a1),(1,.fn (.func 94) [] [.er [vb a2,vs a3],.er [vi a4,.d (.sl t_farkas_row) a5]]),(7,vi (a1.length:Int)),(8,vi (x2 + (1:Int)))],[]⟩ (pn o3 pe) (te ((te ((te ((then_n (?_))))))))))))))))
      obtain ⟨m,hm,h⟩ := h
      exact ⟨m,hm,⟨19,[(0,.d (.sl t_farkas_row) a1),(1,.fn (.func 94) [] [.er [vb a2,vs a3],.er [vi a4,.d (.sl t_farkas_row) a5]]),(7,vi (a1.length:Int)),(8,vi (x2 + (1:Int)))],[]⟩,wk_ghosts hk (l := [.keep [0,1,7,8]]) (by kernel_rfl),x2 + (1:Int),h,rfl⟩
  · replace h := h.2 (of_decide_eq_false hb)
    refine awp_exit (then_x (then_x (then_x (blk_h (tc ((awp_spine (rc [4] [] [] [] ⟨19,[(4,vi (-1))],[]⟩ (pe) (tc ((awp_ret (tr (tr (tr (?_)))))))))))))))
    exact re hk (vi (-1)) [.keep [4]] ⟨19,[(4,vi (-1))],[]⟩ ⟨(-1),rfl,rfl,h⟩
theorem ok_slices_IndexFunc_Sfarkas_row_farkas_row__farkas_table_kept_1 (a1 : (List farkas_row)) (a2 : Bool) (a3 : (List Int)) (a4:Int) (a5 : (List farkas_row)) (h : slices_IndexFunc_Sfarkas_row_farkas_row__farkas_table_kept_1.pre a1 a2 a3 a4 a5) : OkC prog 100 [.d (.sl t_farkas_row) a1,.fn (.func 94) [] [.er [vb a2,vs a3],.er [vi a4,.d (.sl t_farkas_row) a5]]] (vi (slices_IndexFunc_Sfarkas_row_farkas_row__farkas_table_kept_1.fn a1 a2 a3 a4 a5)) :=
  OkC.of call_slices_IndexFunc_Sfarkas_row_farkas_row__farkas_table_kept_1 ((walk_slices_IndexFunc_Sfarkas_row_farkas_row__farkas_table_kept_1 a1 a2 a3 a4 a5 _ (slices_IndexFunc_Sfarkas_row_farkas_row__farkas_table_kept_1.spec a1 a2 a3 a4 a5 h)).mono fun r o ⟨x,hr,ho,hx⟩ => ⟨by rw [hr,hx],ho⟩) rfl rfl (fun _ => rfl)

noncomputable abbrev b93__farkas_table_kept_1 : Code := bodyOf Try.f93
theorem call_slices_ContainsFunc_Sfarkas_row_farkas_row__farkas_table_kept_1 : CallOk prog 93 := ⟨_,Try.func93,by kernel_rfl,by kernel_rfl⟩
theorem walk_slices_ContainsFunc_Sfarkas_row_farkas_row__farkas_table_kept_1 (a1 : (List farkas_row)) (a2 : Bool) (a3 : (List Int)) (a4:Int) (a5 : (List farkas_row)) (Q : Bool → Prop) (h : slices_ContainsFunc_Sfarkas_row_farkas_row__farkas_table_kept_1.wp a1 a2 a3 a4 a5 Q) : VCalls prog 93 [.d (.sl t_farkas_row) a1,.fn (.func 94) [] [.er [vb a2,vs a3],.er [vi a4,.d (.sl t_farkas_row) a5]]] [] (fun r o => ∃ x,r = vb x ∧ o = [] ∧ Q x) := by
  refine body Try.func93 (spine (subC [0] b93__farkas_table_kept_1) [(spine (subC [1,0] b93__farkas_table_kept_1) [.ret])]) fun cx hd hi hk => ?_
  show AWp prog cx _ _ ⟨9,[(0,.d (.sl t_farkas_row) a1),(1,.fn (.func 94) [] [.er [vb a2,vs a3],.er [vi a4,.d (.sl t_farkas_row) a5]])],[]⟩
  replace hk : cx.E.len = 0 := hk
  unfold slices_ContainsFunc_Sfarkas_row_farkas_row__farkas_table_kept_1.wp at h
  obtain ⟨o1,h⟩ := h
  refine awp_spine (rc [0,1] [] [] [] ⟨9,[(0,.d (.sl t_farkas_row) a1),(1,.fn (.func 94) [] [.er [vb a2,vs a3],.er [vi a4,.d (.sl t_farkas_row) a5]])],[]⟩ (pe) (tc ((awp_spine (rc [4] [] [(2,.dat (vi (slices_IndexFunc_Sfarkas_row_farkas_row__farkas_table_kept_1.fn a1 a2 a3 a4 a5)))] [] ⟨9,[(4,vb (decide ((slices_IndexFunc_Sfarkas_row_farkas_row__farkas_table_kept_1.fn a1 a2 a3 a4 a5) ≥ (0:Int))))],[]⟩ (pn (ok_slices_IndexFunc_Sfarkas_row_farkas_row__farkas_table_kept_1 a1 a2 a3 a4 a5 (o1)) pe) (tc ((awp_abs (fun (x1:Int) => ⟨9,[(4,vb (decide (x1 ≥ (0:Int))))],[]⟩) (slices_IndexFunc_Sfarkas_row_farkas_row__farkas_table_kept_1.fn a1 a2 a3 a4 a5) ?_))))))))
  intro x1 hx1
  replace h := h x1 hx1
  refine awp_ret (tr (tr (?_)))
  exact re hk (vb (decide (x1 ≥ (0:Int)))) [.keep [4]] ⟨9,[(4,vb (decide (x1 ≥ (0:Int))))],[]⟩ ⟨decide (x1 ≥ (0:Int)),rfl,rfl,h⟩
theorem ok_slices_ContainsFunc_Sfarkas_row_farkas_row__farkas_table_kept_1 (a1 : (List farkas_row)) (a2 : Bool) (a3 : (List Int)) (a4:Int) (a5 : (List farkas_row)) (h : slices_ContainsFunc_Sfarkas_row_farkas_row__farkas_table_kept_1.pre a1 a2 a3 a4 a5) : OkC prog 93 [.d (.sl t_farkas_row) a1,.fn (.func 94) [] [.er [vb a2,vs a3],.er [vi a4,.d (.sl t_farkas_row) a5]]] (vb (slices_ContainsFunc_Sfarkas_row_farkas_row__farkas_table_kept_1.fn a1 a2 a3 a4 a5)) :=
  OkC.of call_slices_ContainsFunc_Sfarkas_row_farkas_row__farkas_table_kept_1 ((walk_slices_ContainsFunc_Sfarkas_row_farkas_row__farkas_table_kept_1 a1 a2 a3 a4 a5 _ (slices_ContainsFunc_Sfarkas_row_farkas_row__farkas_table_kept_1.spec a1 a2 a3 a4 a5 h)).mono fun r o ⟨x,hr,ho,hx⟩ => ⟨by rw [hr,hx],ho⟩) rfl rfl (fun _ => rfl)

noncomputable abbrev b97 : Code := bodyOf Try.f97
theorem call_farkas_table_kept_2 : CallOk prog 97 := ⟨_,Try.func97,by kernel_rfl,by kernel_rfl⟩
theorem walk_farkas_table_kept_2 (a1:Int) (Q : Bool → Prop) (h : farkas_table_kept_2.wp a1 Q) : VCalls prog 97 [vi a1] [] (fun r o => ∃ x,r = vb x ∧ o = [] ∧ Q x) := by
  refine body Try.func97 (spine (subC [0] b97) [(spine (subC [1,0] b97) [.ret])]) fun cx hd hi hk => ?_
  show AWp prog cx _ _ ⟨9,[(0,vi a1)],[]⟩
  replace hk : cx.E.len = 0 := hk
  unfold farkas_table_kept_2.wp at h
  refine awp_spine (rc [0] [] [] [] ⟨9,[(0,vi a1)],[]⟩ (pe) (tc ((awp_spine (rc [2] [] [] [] ⟨9,[(2,vb ((decide (a1 < (-1073741824))) || (decide (a1 > (1073741824:Int)))))],[]⟩ (pn (fun hg => ⟨hg,trivial⟩ : (!(decide (a1 < (-1073741824)))) = true → (!(decide (a1 < (-1073741824)))) = true ∧ True) (pn (fun hc => not_f hc : (decide (a1 < (-1073741824))) = false → (!(decide (a1 < (-1073741824)))) = true) pe)) (tc ((awp_ret (tr (tr (?_)))))))))))
  exact re hk (vb ((decide (a1 < (-1073741824))) || (decide (a1 > (1073741824:Int))))) [.keep [2]] ⟨9,[(2,vb ((decide (a1 < (-1073741824))) || (decide (a1 > (1073741824:Int)))))],[]⟩ ⟨(decide (a1 < (-1073741824))) || (decide (a1 > (1073741824:Int))),rfl,rfl,h⟩
theorem ok_farkas_table_kept_2 (a1:Int) : OkC prog 97 [vi a1] (vb (farkas_table_kept_2.fn a1)) :=
  OkC.of call_farkas_table_kept_2 ((walk_farkas_table_kept_2 a1 _ (farkas_table_kept_2.spec a1)).mono fun r o ⟨x,hr,ho,hx⟩ => ⟨by rw [hr,hx],ho⟩) rfl rfl (fun _ => rfl)

noncomputable abbrev b101__farkas_table_kept_2 : Code := bodyOf Try.f101
theorem call_slices_IndexFunc_farkas_vector_int_int__farkas_table_kept_2 : CallOk prog 101 := ⟨_,Try.func101,by kernel_rfl,by kernel_rfl⟩
theorem walk_slices_IndexFunc_farkas_vector_int_int__farkas_table_kept_2 (a1 : (List Int)) (Q : Int → Prop) (h : slices_IndexFunc_farkas_vector_int_int__farkas_table_kept_2.wp a1 Q) : VCalls prog 101 [vs a1,.fn (.func 97) [] []] [] (fun r o => ∃ x,r = vi x ∧ o = [] ∧ Q x) := by
  refine body Try.func101 (spine (subC [0] b101__farkas_table_kept_2) [(spine (subC [1,0,0] b101__farkas_table_kept_2) [(.block 0 (.loop (spine (subC [1,0,1,0,0,0] b101__farkas_table_kept_2) [(spine (.cond (.tmp 9) .skip (.exit 0)) [(spine (.block 1 (spine (subC [1,0,1,0,0,1,1,0,0,0] b101__farkas_table_kept_2) [(spine (subC [1,0,1,0,0,1,1,0,0,1,0] b101__farkas_table_kept_2) [(.cond (.tmp 16) (spine (subC [1,0,1,0,0,1,1,0,0,1,1,0,0] b101__farkas_table_kept_2) [.ret]) .skip)])])) [(subC [1,0,1,0,0,1,1,1] b101__farkas_table_kept_2)])])]))),(spine (subC [1,1,0] b101__farkas_table_kept_2) [.ret])])]) fun cx hd hi hk => ?_
  show AWp prog cx _ _ ⟨19,[(0,vs a1),(1,.fn (.func 97) [] [])],[]⟩
  replace hk : cx.E.len = 0 := hk
  unfold slices_IndexFunc_farkas_vector_int_int__farkas_table_kept_2.wp at h
  refine awp_spine (rc [0,1] [] [] [] ⟨19,[(0,vs a1),(1,.fn (.func 97) [] [])],[]⟩ (pe) (tc ((awp_spine (rc [0,1,7,8] [] [] [] ⟨19,[(0,vs a1),(1,.fn (.func 97) [] []),(7,vi (a1.length:Int)),(8,vi 0)],[]⟩ (pe) (tc ((awp_len 0 [] (T := tI) (l := a1) (by kernel_rfl) fun hl => ?_))))))))
  replace h := h hl
  obtain ⟨I4,⟨n4a,hz4⟩,hI4⟩ := h
  refine awp_block (awp_loopN (fun n s => ∃ (x2:Int),I4 n x2 ∧ s = ⟨19,[(0,vs a1),(1,.fn (.func 97) [] []),(7,vi (a1.length:Int)),(8,vi x2)],[]⟩) (n := n4a) (s0 := ⟨19,[(0,vs a1),(1,.fn (.func 97) [] []),(7,vi (a1.length:Int)),(8,vi 0)],[]⟩) (wk_ghosts hk (l := [.keep [0,1,7,8]]) (by kernel_rfl)) ⟨0,hz4,rfl⟩ ?_)
  rintro n4 s ⟨x2,hx4,rfl⟩
  have h := hI4 n4 x2 hx4
  refine awp_spine (rc [0,1,7,8,9] [] [] [] ⟨19,[(0,vs a1),(1,.fn (.func 97) [] []),(7,vi (a1.length:Int)),(8,vi x2),(9,vb (decide (x2 < (a1.length:Int))))],[]⟩ (pe) (tc ((awp_spine (awp_cond (b := decide (x2 < (a1.length:Int))) (by kernel_rfl) (fun hb => ?_) (fun hb => ?_))))))
  · replace h := h.1 (of_decide_eq_true hb)
    obtain ⟨o1,h⟩ := h
    refine awp_skip (tc ((awp_spine (awp_block (awp_spine (rc [0,1,5,7,8] [] [] [] ⟨19,[(0,vs a1),(1,.fn (.func 97) [] []),(5,vi x2),(7,vi (a1.length:Int)),(8,vi x2)],[]⟩ (pe) (tc ((awp_spine (rc [0,1,5,7,8,16] [] [(5,.dat (vb (farkas_table_kept_2.fn (gI a1 x2))))] [] ⟨19,[(0,vs a1),(1,.fn (.func 97) [] []),(5,vi x2),(7,vi (a1.length:Int)),(8,vi x2),(16,vb (farkas_table_kept_2.fn (gI a1 x2)))],[]⟩ (pn o1 (pn (ok_farkas_table_kept_2 (gI a1 x2)) pe)) (tc ((awp_cond (b := farkas_table_kept_2.fn (gI a1 x2)) (by kernel_rfl) (fun hb => ?_) (fun hb => ?_))))))))))))))
    · replace h := h.1 (hb)
      refine awp_spine (rc [4] [] [] [] ⟨19,[(4,vi x2)],[]⟩ (pe) (tc ((awp_ret (tr (tr (tr (blk_r (tr (tr (tr (tr (blk_r (tr (tr (?_))))))))))))))))
      exact re hk (vi x2) [.keep [4]] ⟨19,[(4,vi x2)],[]⟩ ⟨x2,rfl,rfl,h⟩
    · replace h := h.2 (hb)
      obtain ⟨o2,h⟩ := h
      refine awp_skip (te ((te ((blk_n (tc ((rc [0,1,7,8] [] [] [] ⟨19,[(0,vs a1),(1,.fn (.func 97) [] []),(7,vi (a1.length:Int)),(8,vi (x2 + (1:Int)))],[]⟩ (pn o2 pe) (te ((te ((te ((then_n (?_))))))))))))))))
      obtain ⟨m,hm,h⟩ := h
      exact ⟨m,hm,⟨19,[(0,vs a1),(1,.fn (.func 97) [] []),(7,vi (a1.length:Int)),(8,vi (x2 + (1:Int)))],[]⟩,wk_ghosts hk (l := [.keep [0,1,7,8]]) (by kernel_rfl),x2 + (1:Int),h,rfl⟩
  · replace h := h.2 (of_decide_eq_false hb)
    refine awp_exit (then_x (then_x (then_x (blk_h (tc ((awp_spine (rc [4] [] [] [] ⟨19,[(4,vi (-1))],[]⟩ (pe) (tc ((awp_ret (tr (tr (tr (?_)))))))))))))))
    exact re hk (vi (-1)) [.keep [4]] ⟨19,[(4,vi (-1))],[]⟩ ⟨(-1),rfl,rfl,h⟩
theorem ok_slices_IndexFunc_farkas_vector_int_int__farkas_table_kept_2 (a1 : (List Int)) : OkC prog 101 [vs a1,.fn (.func 97) [] []] (vi (slices_IndexFunc_farkas_vector_int_int__farkas_table_kept_2.fn a1)) :=
  OkC.of call_slices_IndexFunc_farkas_vector_int_int__farkas_table_kept_2 ((walk_slices_IndexFunc_farkas_vector_int_int__farkas_table_kept_2 a1 _ (slices_IndexFunc_farkas_vector_int_int__farkas_table_kept_2.spec a1)).mono fun r o ⟨x,hr,ho,hx⟩ => ⟨by rw [hr,hx],ho⟩) rfl rfl (fun _ => rfl)

noncomputable abbrev b96__farkas_table_kept_2 : Code := bodyOf Try.f96
theorem call_slices_ContainsFunc_farkas_vector_int_int__farkas_table_kept_2 : CallOk prog 96 := ⟨_,Try.func96,by kernel_rfl,by kernel_rfl⟩
theorem walk_slices_ContainsFunc_farkas_vector_int_int__farkas_table_kept_2 (a1 : (List Int)) (Q : Bool → Prop) (h : slices_ContainsFunc_farkas_vector_int_int__farkas_table_kept_2.wp a1 Q) : VCalls prog 96 [vs a1,.fn (.func 97) [] []] [] (fun r o => ∃ x,r = vb x ∧ o = [] ∧ Q x) := by
  refine body Try.func96 (spine (subC [0] b96__farkas_table_kept_2) [(spine (subC [1,0] b96__farkas_table_kept_2) [.ret])]) fun cx hd hi hk => ?_
  show AWp prog cx _ _ ⟨9,[(0,vs a1),(1,.fn (.func 97) [] [])],[]⟩
  replace hk : cx.E.len = 0 := hk
  unfold slices_ContainsFunc_farkas_vector_int_int__farkas_table_kept_2.wp at h
  refine awp_spine (rc [0,1] [] [] [] ⟨9,[(0,vs a1),(1,.fn (.func 97) [] [])],[]⟩ (pe) (tc ((awp_spine (rc [4] [] [(2,.dat (vi (slices_IndexFunc_farkas_vector_int_int__farkas_table_kept_2.fn a1)))] [] ⟨9,[(4,vb (decide ((slices_IndexFunc_farkas_vector_int_int__farkas_table_kept_2.fn a1) ≥ (0:Int))))],[]⟩ (pn (ok_slices_IndexFunc_farkas_vector_int_int__farkas_table_kept_2 a1) pe) (tc ((awp_abs (fun (x1:Int) => ⟨9,[(4,vb (decide (x1 ≥ (0:Int))))],[]⟩) (slices_IndexFunc_farkas_vector_int_int__farkas_table_kept_2.fn a1) ?_))))))))
  intro x1 hx1
  replace h := h x1 hx1
  refine awp_ret (tr (tr (?_)))
  exact re hk (vb (decide (x1 ≥ (0:Int)))) [.keep [4]] ⟨9,[(4,vb (decide (x1 ≥ (0:Int))))],[]⟩ ⟨decide (x1 ≥ (0:Int)),rfl,rfl,h⟩
theorem ok_slices_ContainsFunc_farkas_vector_int_int__farkas_table_kept_2 (a1 : (List Int)) : OkC prog 96 [vs a1,.fn (.func 97) [] []] (vb (slices_ContainsFunc_farkas_vector_int_int__farkas_table_kept_2.fn a1)) :=
  OkC.of call_slices_ContainsFunc_farkas_vector_int_int__farkas_table_kept_2 ((walk_slices_ContainsFunc_farkas_vector_int_int__farkas_table_kept_2 a1 _ (slices_ContainsFunc_farkas_vector_int_int__farkas_table_kept_2.spec a1)).mono fun r o ⟨x,hr,ho,hx⟩ => ⟨by rw [hr,hx],ho⟩) rfl rfl (fun _ => rfl)

noncomputable abbrev b80 : Code := bodyOf Try.f80
theorem call_farkas_table_kept : CallOk prog 80 := ⟨_,Try.func80,by kernel_rfl,by kernel_rfl⟩
theorem walk_farkas_table_kept (a1 : farkas_table) (a2 : (List farkas_row)) (Q : farkas_table × Int → Prop) (h : farkas_table_kept.wp a1 a2 Q) : VCalls prog 80 [.agg (c_farkas_table a1),.d (.sl t_farkas_row) a2] [] (fun r o => ∃ x,r = .tup [.agg (c_farkas_table x.1),vi x.2] ∧ o = [] ∧ Q x) := by
  refine body Try.func80 (spine (subC [0] b80) [(spine (subC [1,0] b80) [(spine (subC [1,1,0,0] b80) [(.block 0 (.loop (spine (subC [1,1,0,1,0,0,0] b80) [(spine (.cond (.tmp 17) .skip (.exit 0)) [(spine (.block 1 (spine (subC [1,1,0,1,0,0,1,1,0,0,0] b80) [(spine (subC [1,1,0,1,0,0,1,1,0,0,1,0] b80) [(spine (subC [1,1,0,1,0,0,1,1,0,0,1,1,0] b80) [(.cond (.tmp 26) (subC [1,1,0,1,0,0,1,1,0,0,1,1,1,0] b80) .skip)])])])) [(subC [1,1,0,1,0,0,1,1,1] b80)])])]))),(spine (subC [1,1,1,0,0] b80) [(.cond (.tmp 37) (spine (subC [1,1,1,0,1,0,0] b80) [.ret]) .skip),(spine (subC [1,1,1,1,0,0] b80) [(.block 2 (.loop (spine (subC [1,1,1,1,0,1,0,0,0] b80) [(spine (.cond (.tmp 43) .skip (.exit 2)) [(spine (.block 3 (spine (subC [1,1,1,1,0,1,0,0,1,1,0,0,0] b80) [(spine (subC [1,1,1,1,0,1,0,0,1,1,0,0,1,0] b80) [(.cond (.tmp 48) (spine (subC [1,1,1,1,0,1,0,0,1,1,0,0,1,1,0,0] b80) [.ret]) .skip)])])) [(subC [1,1,1,1,0,1,0,0,1,1,1] b80)])])]))),(spine (subC [1,1,1,1,1,0] b80) [.ret])])])])])]) fun cx hd hi hk => ?_
  show AWp prog cx _ _ ⟨52,[(0,.agg (c_farkas_table a1)),(1,.d (.sl t_farkas_row) a2)],[]⟩
  replace hk : cx.E.len = 0 := hk
  unfold farkas_table_kept.wp at h
  refine awp_spine (rc [1,2,4] [] [] [0] ⟨52,[(1,.d (.sl t_farkas_row) a2),(2,.er (c_farkas_table a1)),(4,.ref 0 0 0)],[.box [vi 0,.nils]]⟩ (pe) (tc ((awp_spine (rc [1,2,4,6] [] [] [] ⟨52,[(1,.d (.sl t_farkas_row) a2),(2,.er (c_farkas_table a1)),(4,.ref 0 0 0),(6,.ref 1 0 0)],[.box [vi 0,.nils],.box [vi a1.1,.nils]]⟩ (pe) (tc ((awp_spine (rc [2,4,6,14,15,16] [] [] [] ⟨52,[(2,.er (c_farkas_table a1)),(4,.ref 0 0 0),(6,.ref 1 0 0),(14,.d (.sl t_farkas_row) a2),(15,vi (a2.length:Int)),(16,vi 0)],[.box [vi 0,.nils],.box [vi a1.1,.nils]]⟩ (pe) (tc ((awp_len 14 [] (T := t_farkas_row) (l := a2) (by kernel_rfl) fun hl => ?_))))))))))))
  replace h := h hl
  obtain ⟨I7,⟨n7a,hz7⟩,hI7⟩ := h
  refine awp_block (awp_loopN (fun n s => ∃ (x3:Int) (x4 : (List farkas_row)),I7 n x3 x4 ∧ s = ⟨52,[(2,.er (c_farkas_table a1)),(4,.ref 0 0 0),(6,.ref 1 0 0),(14,.d (.sl t_farkas_row) a2),(15,vi (a2.length:Int)),(16,vi x3)],[.box [vi 0,.nils],.box [vi a1.1,.osl 2 0],.row t_farkas_row x4 0]⟩) (n := n7a) (s0 := ⟨52,[(2,.er (c_farkas_table a1)),(4,.ref 0 0 0),(6,.ref 1 0 0),(14,.d (.sl t_farkas_row) a2),(15,vi (a2.length:Int)),(16,vi 0)],[.box [vi 0,.nils],.box [vi a1.1,.osl 2 0],.row t_farkas_row ([] : List farkas_row) 0]⟩) (wk_ghosts hk (l := [.keep [2,4,6,14,15,16],.adoptBox 1 1 t_farkas_row,.keep [2,4,6,14,15,16]]) (by kernel_rfl)) ⟨0,([] : List farkas_row),hz7,rfl⟩ ?_)
  rintro n7 s ⟨x3,x4,hx7,rfl⟩
  have h := hI7 n7 x3 x4 hx7
  refine awp_spine (rc [2,4,6,14,15,16,17] [] [] [] ⟨52,[(2,.er (c_farkas_table a1)),(4,.ref 0 0 0),(6,.ref 1 0 0),(14,.d (.sl t_farkas_row) a2),(15,vi (a2.length:Int)),(16,vi x3),(17,vb (decide (x3 < (a2.length:Int))))],[.box [vi 0,.nils],.box [vi a1.1,.osl 2 0],.row t_farkas_row x4 0]⟩ (pe) (tc ((awp_spine (awp_cond (b := decide (x3 < (a2.length:Int))) (by kernel_rfl) (fun hb => ?_) (fun hb => ?_))))))
  · replace h := h.1 (of_decide_eq_true hb)
    obtain ⟨o1,h⟩ := h
    refine awp_skip (tc ((awp_spine (awp_block (awp_spine (rc [2,4,6,8,14,15,16] [] [] [] ⟨52,[(2,.er (c_farkas_table a1)),(4,.ref 0 0 0),(6,.ref 1 0 0),(8,.ref 3 0 0),(14,.d (.sl t_farkas_row) a2),(15,vi (a2.length:Int)),(16,vi x3)],[.box [vi 0,.nils],.box [vi a1.1,.osl 2 0],.row t_farkas_row x4 0,.box (c_farkas_row (a2.getD (Int.toNat x3) d_farkas_row))]⟩ (pn o1 pe) (tc ((awp_abs (fun (x8 : farkas_row) => ⟨52,[(2,.er (c_farkas_table a1)),(4,.ref 0 0 0),(6,.ref 1 0 0),(8,.ref 3 0 0),(14,.d (.sl t_farkas_row) a2),(15,vi (a2.length:Int)),(16,vi x3)],[.box [vi 0,.nils],.box [vi a1.1,.osl 2 0],.row t_farkas_row x4 0,.box (c_farkas_row x8)]⟩) (a2.getD (Int.toNat x3) d_farkas_row) ?_)))))))))
    intro x8 hx8
    replace h := h x8 hx8
    obtain ⟨o2,h⟩ := h
    refine awp_spine (rc [2,4,6,8,14,15,16] [] [(1,.dat (.agg (c_farkas_row (farkas_row_reduced.fn x8))))] [] ⟨52,[(2,.er (c_farkas_table a1)),(4,.ref 0 0 0),(6,.ref 1 0 0),(8,.ref 3 0 0),(14,.d (.sl t_farkas_row) a2),(15,vi (a2.length:Int)),(16,vi x3)],[.box [vi 0,.nils],.box [vi a1.1,.osl 2 0],.row t_farkas_row x4 0,.box (c_farkas_row (farkas_row_reduced.fn x8))]⟩ (pn (ok_farkas_row_reduced x8 (o2)) pe) (tc ((awp_abs (fun (x9 : farkas_row) => ⟨52,[(2,.er (c_farkas_table a1)),(4,.ref 0 0 0),(6,.ref 1 0 0),(8,.ref 3 0 0),(14,.d (.sl t_farkas_row) a2),(15,vi (a2.length:Int)),(16,vi x3)],[.box [vi 0,.nils],.box [vi a1.1,.osl 2 0],.row t_farkas_row x4 0,.box (c_farkas_row x9)]⟩) (farkas_row_reduced.fn x8) ?_))))
    intro x9 hx9
    replace h := h x9 hx9
    obtain ⟨o3,h⟩ := h
    refine awp_spine (rc [2,4,6,8,14,15,16,26] [] [(3,.dat (vb (slices_ContainsFunc_Sfarkas_row_farkas_row__farkas_table_kept_1.fn x4 x9.1 x9.2 a1.1 a1.2)))] [] ⟨52,[(2,.er (c_farkas_table a1)),(4,.ref 0 0 0),(6,.ref 1 0 0),(8,.ref 3 0 0),(14,.d (.sl t_farkas_row) a2),(15,vi (a2.length:Int)),(16,vi x3),(26,vb (!(slices_ContainsFunc_Sfarkas_row_farkas_row__farkas_table_kept_1.fn x4 x9.1 x9.2 a1.1 a1.2)))],[.box [vi 0,.nils],.box [vi a1.1,.osl 2 0],.row t_farkas_row x4 0,.box (c_farkas_row x9)]⟩ (pn (OkC.lent 1 (by kernel_rfl) rfl rfl (ok_slices_ContainsFunc_Sfarkas_row_farkas_row__farkas_table_kept_1 x4 x9.1 x9.2 a1.1 a1.2 (o3)) : OkA prog 93 [.osl 2 0,.fn (.func 94) [] [.ref 3 0 0,.er (c_farkas_table a1)]] [.box [vi 0,.nils],.box [vi a1.1,.osl 2 0],.row t_farkas_row x4 0,.box (c_farkas_row x9)] (vb (slices_ContainsFunc_Sfarkas_row_farkas_row__farkas_table_kept_1.fn x4 x9.1 x9.2 a1.1 a1.2))) pe) (tc ((awp_cond (b := !(slices_ContainsFunc_Sfarkas_row_farkas_row__farkas_table_kept_1.fn x4 x9.1 x9.2 a1.1 a1.2)) (by kernel_rfl) (fun hb => ?_) (fun hb => ?_)))))
    · replace h := h.1 ((nt hb))
      obtain ⟨o4,h⟩ := h
      obtain ⟨o5,h⟩ := h
      refine rc [2,4,6,14,15,16] [] [] [3] ⟨52,[(2,.er (c_farkas_table a1)),(4,.ref 0 0 0),(6,.ref 1 0 0),(14,.d (.sl t_farkas_row) a2),(15,vi (a2.length:Int)),(16,vi x3)],[.box [vi 0,.nils],.box [vi a1.1,.osl 2 1],.row t_farkas_row (x4 ++ [x9]) 1,.box (c_farkas_row x9)]⟩ (pn (by decide : 1 * 2 ≤ 16777216) (pn o4 pe)) (te ((te ((te ((blk_n (tc ((rc [2,4,6,14,15,16] [] [] [] ⟨52,[(2,.er (c_farkas_table a1)),(4,.ref 0 0 0),(6,.ref 1 0 0),(14,.d (.sl t_farkas_row) a2),(15,vi (a2.length:Int)),(16,vi (x3 + (1:Int)))],[.box [vi 0,.nils],.box [vi a1.1,.osl 2 1],.row t_farkas_row (x4 ++ [x9]) 1,.box (c_farkas_row x9)]⟩ (pn o5 pe) (te ((te ((te ((then_n (?_))))))))))))))))))
      obtain ⟨m,hm,h⟩ := h
      exact ⟨m,hm,⟨52,[(2,.er (c_farkas_table a1)),(4,.ref 0 0 0),(6,.ref 1 0 0),(14,.d (.sl t_farkas_row) a2),(15,vi (a2.length:Int)),(16,vi (x3 + (1:Int)))],[.box [vi 0,.nils],.box [vi a1.1,.osl 2 0],.row t_farkas_row (x4 ++ [x9]) 0]⟩,wk_ghosts hk (l := [.keep [2,4,6,14,15,16],.cut 3,.reset 2,.keep [2,4,6,14,15,16]]) (by kernel_rfl),x3 + (1:Int),x4 ++ [x9],h,rfl⟩
    · replace h := h.2 ((nf hb))
      obtain ⟨o6,h⟩ := h
      refine awp_skip (te ((te ((te ((blk_n (tc ((rc [2,4,6,14,15,16] [] [] [] ⟨52,[(2,.er (c_farkas_table a1)),(4,.ref 0 0 0),(6,.ref 1 0 0),(14,.d (.sl t_farkas_row) a2),(15,vi (a2.length:Int)),(16,vi (x3 + (1:Int)))],[.box [vi 0,.nils],.box [vi a1.1,.osl 2 0],.row t_farkas_row x4 0,.box (c_farkas_row x9)]⟩ (pn o6 pe) (te ((te ((te ((then_n (?_))))))))))))))))))
      obtain ⟨m,hm,h⟩ := h
      exact ⟨m,hm,⟨52,[(2,.er (c_farkas_table a1)),(4,.ref 0 0 0),(6,.ref 1 0 0),(14,.d (.sl t_farkas_row) a2),(15,vi (a2.length:Int)),(16,vi (x3 + (1:Int)))],[.box [vi 0,.nils],.box [vi a1.1,.osl 2 0],.row t_farkas_row x4 0]⟩,wk_ghosts hk (l := [.keep [2,4,6,14,15,16],.cut 3,.keep [2,4,6,14,15,16]]) (by kernel_rfl),x3 + (1:Int),x4,h,rfl⟩
  · replace h := h.2 (of_decide_eq_false hb)
    refine awp_exit (then_x (then_x (then_x (blk_h (tc ((awp_spine (rc [4,6,37] [] [] [] ⟨52,[(4,.ref 0 0 0),(6,.ref 1 0 0),(37,vb (decide ((x4.length:Int) > (400:Int))))],[.box [vi 0,.nils],.box [vi a1.1,.osl 2 0],.row t_farkas_row x4 0]⟩ (pe) (tc ((awp_cond (b := decide ((x4.length:Int) > (400:Int))) (by kernel_rfl) (fun hb => ?_) (fun hb => ?_))))))))))))
    · replace h := h.1 (of_decide_eq_true hb)
      refine awp_spine (rc [4,5] [] [] [] ⟨52,[(4,.ref 0 0 0),(5,vi (3:Int))],[.box [vi 0,.nils],.box [vi a1.1,.osl 2 0],.row t_farkas_row x4 0]⟩ (pe) (tc ((awp_ret (tr (tr (tr (tr (tr (?_))))))))))
      exact re hk (.tup [.agg (c_farkas_table (((0,([] : List farkas_row)),3).1)),vi (((0,([] : List farkas_row)),3).2)]) [.keep [4,5],.nilBox 0 [1] t_farkas_row,.keep [4,5]] ⟨52,[(4,.ref 0 0 0),(5,vi (3:Int))],[.box [vi 0,.d (.sl t_farkas_row) ([] : List farkas_row)],.box [vi a1.1,.osl 2 0],.row t_farkas_row x4 0]⟩ ⟨((0,([] : List farkas_row)),3),rfl,rfl,h⟩
    · replace h := h.2 (of_decide_eq_false hb)
      obtain ⟨I13,⟨n13a,hz13⟩,hI13⟩ := h
      refine awp_skip (tc ((awp_spine (rc [4,6,40,41,42] [] [] [] ⟨52,[(4,.ref 0 0 0),(6,.ref 1 0 0),(40,.osl 2 0),(41,vi (x4.length:Int)),(42,vi 0)],[.box [vi 0,.nils],.box [vi a1.1,.osl 2 0],.row t_farkas_row x4 0]⟩ (pe) (tc ((awp_block (awp_loopN (fun n s => ∃ (x11:Int),I13 n x11 ∧ s = ⟨52,[(4,.ref 0 0 0),(6,.ref 1 0 0),(40,.osl 2 0),(41,vi (x4.length:Int)),(42,vi x11)],[.box [vi 0,.nils],.box [vi a1.1,.osl 2 0],.row t_farkas_row x4 0]⟩) (n := n13a) (s0 := ⟨52,[(4,.ref 0 0 0),(6,.ref 1 0 0),(40,.osl 2 0),(41,vi (x4.length:Int)),(42,vi 0)],[.box [vi 0,.nils],.box [vi a1.1,.osl 2 0],.row t_farkas_row x4 0]⟩) (wk_ghosts hk (l := [.keep [4,6,40,41,42]]) (by kernel_rfl)) ⟨0,hz13,rfl⟩ ?_))))))))
      rintro n13 s ⟨x11,hx13,rfl⟩
      have h := hI13 n13 x11 hx13
      refine awp_spine (rc [4,6,40,41,42,43] [] [] [] ⟨52,[(4,.ref 0 0 0),(6,.ref 1 0 0),(40,.osl 2 0),(41,vi (x4.length:Int)),(42,vi x11),(43,vb (decide (x11 < (x4.length:Int))))],[.box [vi 0,.nils],.box [vi a1.1,.osl 2 0],.row t_farkas_row x4 0]⟩ (pe) (tc ((awp_spine (awp_cond (b := decide (x11 < (x4.length:Int))) (by kernel_rfl) (fun hb => ?_) (fun hb => ?_))))))
      · replace h := h.1 (of_decide_eq_true hb)
        obtain ⟨o7,o8,h⟩ := h
        refine awp_skip (tc ((awp_spine (awp_block (awp_spine (rc [4,6,10,40,41,42] [] [] [] ⟨52,[(4,.ref 0 0 0),(6,.ref 1 0 0),(10,.ref 3 0 0),(40,.osl 2 0),(41,vi (x4.length:Int)),(42,vi x11)],[.box [vi 0,.nils],.box [vi a1.1,.osl 2 0],.row t_farkas_row x4 0,.box (c_farkas_row (x4.getD (Int.toNat x11) d_farkas_row))]⟩ (pn o7 (pn o8 pe)) (tc ((awp_abs (fun (x14 : farkas_row) => ⟨52,[(4,.ref 0 0 0),(6,.ref 1 0 0),(10,.ref 3 0 0),(40,.osl 2 0),(41,vi (x4.length:Int)),(42,vi x11)],[.box [vi 0,.nils],.box [vi a1.1,.osl 2 0],.row t_farkas_row x4 0,.box (c_farkas_row x14)]⟩) (x4.getD (Int.toNat x11) d_farkas_row) ?_)))))))))
        intro x14 hx14
        replace h := h x14 hx14
        refine awp_spine (rc [4,6,40,41,42,48] [] [(2,.dat (vb (slices_ContainsFunc_farkas_vector_int_int__farkas_table_kept_2.fn x14.2)))] [] ⟨52,[(4,.ref 0 0 0),(6,.ref 1 0 0),(40,.osl 2 0),(41,vi (x4.length:Int)),(42,vi x11),(48,vb (slices_ContainsFunc_farkas_vector_int_int__farkas_table_kept_2.fn x14.2))],[.box [vi 0,.nils],.box [vi a1.1,.osl 2 0],.row t_farkas_row x4 0,.box (c_farkas_row x14)]⟩ (pn (ok_slices_ContainsFunc_farkas_vector_int_int__farkas_table_kept_2 x14.2) pe) (tc ((awp_cond (b := slices_ContainsFunc_farkas_vector_int_int__farkas_table_kept_2.fn x14.2) (by kernel_rfl) (fun hb => ?_) (fun hb => ?_)))))
        · replace h := h.1 (hb)
          refine awp_spine (rc [4,5] [] [] [] ⟨52,[(4,.ref 0 0 0),(5,vi (3:Int))],[.box [vi 0,.nils],.box [vi a1.1,.osl 2 0],.row t_farkas_row x4 0,.box (c_farkas_row x14)]⟩ (pe) (tc ((awp_ret (tr (tr (tr (blk_r (tr (tr (tr (tr (blk_r (tr (tr (tr (tr (tr (?_)))))))))))))))))))
          exact re hk (.tup [.agg (c_farkas_table (((0,([] : List farkas_row)),3).1)),vi (((0,([] : List farkas_row)),3).2)]) [.keep [4,5],.nilBox 0 [1] t_farkas_row,.keep [4,5]] ⟨52,[(4,.ref 0 0 0),(5,vi (3:Int))],[.box [vi 0,.d (.sl t_farkas_row) ([] : List farkas_row)],.box [vi a1.1,.osl 2 0],.row t_farkas_row x4 0,.box (c_farkas_row x14)]⟩ ⟨((0,([] : List farkas_row)),3),rfl,rfl,h⟩
        · replace h := h.2 (hb)
          obtain ⟨o9,h⟩ := h
          refine awp_skip (te ((te ((blk_n (tc ((rc [4,6,40,41,42] [] [] [] ⟨52,[(4,.ref 0 0 0),(6,.ref 1 0 0),(40,.osl 2 0),(41,vi (x4.length:Int)),(42,vi (x11 + (1:Int)))],[.box [vi 0,.nils],.box [vi a1.1,.osl 2 0],.row t_farkas_row x4 0,.box (c_farkas_row x14)]⟩ (pn o9 pe) (te ((te ((te ((then_n (?_))))))))))))))))
          obtain ⟨m,hm,h⟩ := h
          exact ⟨m,hm,⟨52,[(4,.ref 0 0 0),(6,.ref 1 0 0),(40,.osl 2 0),(41,vi (x4.length:Int)),(42,vi (x11 + (1:Int)))],[.box [vi 0,.nils],.box [vi a1.1,.osl 2 0],.row t_farkas_row x4 0]⟩,wk_ghosts hk (l := [.keep [4,6,40,41,42],.cut 3,.keep [4,6,40,41,42]]) (by kernel_rfl),x11 + (1:Int),h,rfl⟩
      · replace h := h.2 (of_decide_eq_false hb)
        refine awp_exit (then_x (then_x (then_x (blk_h (tc ((awp_spine (rc [4,5] [] [] [] ⟨52,[(4,.ref 0 0 0),(5,vi 0)],[.box [vi a1.1,.osl 2 0],.box [vi a1.1,.osl 2 0],.row t_farkas_row x4 0]⟩ (pe) (tc ((awp_ret (tr (tr (tr (tr (tr (tr (?_))))))))))))))))))
        exact re hk (.tup [.agg (c_farkas_table (((a1.1,x4),0).1)),vi (((a1.1,x4),0).2)]) [.keep [4,5],.freeze 2] ⟨52,[(4,.ref 0 0 0),(5,vi 0)],[.box [vi a1.1,.d (.sl t_farkas_row) x4],.box [vi a1.1,.d (.sl t_farkas_row) x4],.dead]⟩ ⟨((a1.1,x4),0),rfl,rfl,h⟩
theorem ok_farkas_table_kept (a1 : farkas_table) (a2 : (List farkas_row)) (h : farkas_table_kept.pre a1 a2) : OkC prog 80 [.agg (c_farkas_table a1),.d (.sl t_farkas_row) a2] (.tup [.agg (c_farkas_table ((farkas_table_kept.fn a1 a2).1)),vi ((farkas_table_kept.fn a1 a2).2)]) :=
  OkC.of call_farkas_table_kept ((walk_farkas_table_kept a1 a2 _ (farkas_table_kept.spec a1 a2 h)).mono fun r o ⟨x,hr,ho,hx⟩ => ⟨by rw [hr,hx],ho⟩) rfl rfl (fun _ => rfl)

noncomputable abbrev b78 : Code := bodyOf Try.f78
theorem call_farkas_table_solver : CallOk prog 78 := ⟨_,Try.func78,by kernel_rfl,by kernel_rfl⟩
theorem walk_farkas_table_solver (a1 : farkas_table) (a2:Int) (Q : Int → Prop) (h : farkas_table_solver.wp a1 a2 Q) : VCalls prog 78 [.agg (c_farkas_table a1),vi a2] [] (fun r o => ∃ x,r = vi x ∧ o = [] ∧ Q x) := by
  refine body Try.func78 (spine (subC [0] b78) [(spine (subC [1,0] b78) [(spine (subC [1,1,0,0] b78) [(.block 0 (.loop (spine (subC [1,1,0,1,0,0,0] b78) [(spine (.cond (.tmp 12) .skip (.exit 0)) [(spine (.block 1 (spine (subC [1,1,0,1,0,0,1,1,0,0,0] b78) [(spine (subC [1,1,0,1,0,0,1,1,0,0,1,0] b78) [(.cond (.tmp 64) (subC [1,1,0,1,0,0,1,1,0,0,1,1,0] b78) .skip)])])) [(subC [1,1,0,1,0,0,1,1,1] b78)])])]))),(spine (subC [1,1,1,0] b78) [.ret])])])]) fun cx hd hi hk => ?_
  show AWp prog cx _ _ ⟨68,[(0,.agg (c_farkas_table a1)),(1,vi a2)],[]⟩
  replace hk : cx.E.len = 0 := hk
  unfold farkas_table_solver.wp at h
  refine awp_spine (rc [1,2] [] [] [0] ⟨68,[(1,vi a2),(2,.er (c_farkas_table a1))],[]⟩ (pe) (tc ((awp_spine (rc [1,2,5] [] [] [] ⟨68,[(1,vi a2),(2,.er (c_farkas_table a1)),(5,vi (-1))],[]⟩ (pe) (tc ((awp_spine (rc [1,2,5,9,10,11] [] [] [] ⟨68,[(1,vi a2),(2,.er (c_farkas_table a1)),(5,vi (-1)),(9,.d (.sl t_farkas_row) a1.2),(10,vi (a1.2.length:Int)),(11,vi 0)],[]⟩ (pe) (tc ((awp_len 2 [1] (T := t_farkas_row) (l := a1.2) (by kernel_rfl) fun hl => ?_))))))))))))
  replace h := h hl
  obtain ⟨I5,⟨n5a,hz5⟩,hI5⟩ := h
  refine awp_block (awp_loopN (fun n s => ∃ (x1:Int) (x2:Int),I5 n x1 x2 ∧ s = ⟨68,[(1,vi a2),(2,.er (c_farkas_table a1)),(5,vi x1),(9,.d (.sl t_farkas_row) a1.2),(10,vi (a1.2.length:Int)),(11,vi x2)],[]⟩) (n := n5a) (s0 := ⟨68,[(1,vi a2),(2,.er (c_farkas_table a1)),(5,vi (-1)),(9,.d (.sl t_farkas_row) a1.2),(10,vi (a1.2.length:Int)),(11,vi 0)],[]⟩) (wk_ghosts hk (l := [.keep [1,2,5,9,10,11]]) (by kernel_rfl)) ⟨(-1),0,hz5,rfl⟩ ?_)
  rintro n5 s ⟨x1,x2,hx5,rfl⟩
  have h := hI5 n5 x1 x2 hx5
  refine awp_spine (rc [1,2,5,9,10,11,12] [] [] [] ⟨68,[(1,vi a2),(2,.er (c_farkas_table a1)),(5,vi x1),(9,.d (.sl t_farkas_row) a1.2),(10,vi (a1.2.length:Int)),(11,vi x2),(12,vb (decide (x2 < (a1.2.length:Int))))],[]⟩ (pe) (tc ((awp_spine (awp_cond (b := decide (x2 < (a1.2.length:Int))) (by kernel_rfl) (fun hb => ?_) (fun hb => ?_))))))
  · replace h := h.1 (of_decide_eq_true hb)
    obtain ⟨o1,h⟩ := h
    refine awp_skip (tc ((awp_spine (awp_block (awp_spine (rc [1,2,5,6,7,9,10,11] [] [] [] ⟨68,[(1,vi a2),(2,.er (c_farkas_table a1)),(5,vi x1),(6,vi x2),(7,.ref 0 0 0),(9,.d (.sl t_farkas_row) a1.2),(10,vi (a1.2.length:Int)),(11,vi x2)],[.box (c_farkas_row (a1.2.getD (Int.toNat x2) d_farkas_row))]⟩ (pn o1 pe) (tc ((awp_abs (fun (x6 : farkas_row) => ⟨68,[(1,vi a2),(2,.er (c_farkas_table a1)),(5,vi x1),(6,vi x2),(7,.ref 0 0 0),(9,.d (.sl t_farkas_row) a1.2),(10,vi (a1.2.length:Int)),(11,vi x2)],[.box (c_farkas_row x6)]⟩) (a1.2.getD (Int.toNat x2) d_farkas_row) ?_)))))))))
    intro x6 hx6
    replace h := h x6 hx6
    obtain ⟨o2,o3,o4,o5,o6,o7,o8,o9,o10,h⟩ := h
    refine awp_spine (dr hk [1,2,5,6,9,10,11,61,62,63,64] [] [] [] ⟨[[],[0],[0,1],[0,1,2],[0,1,2,3],[0,1,2],(lr 6),(lr 7),(lr 8),(lr 9),(lr 10),(lr 11),(lr 12),(lr 13),(lr 14),(lr 15),(lr 14),(lr 17),(lr 18),(lr 14),[0,1,2,3,4,5,6,7,8,9,10,11,12,13,19],(lr 14),[0,1,2,3,4,5,6,7,8,9,10,11,12,13,19,20,21],[0,1,2,3,4,5,6,7,8,9,10,11,12,13,19,20,21,22],[0,1,2,3,4,5,6,7,8,9,10,11,12,13,19,20,21,22,23],(lr 25),(lr 14),[0,1,2,3,4,5,6,7,8,9,10,11,12,13,26],(lr 14),[0,1,2,3,4,5,6,7,8,9,10,11,12,13,26,27,28],[0,1,2,3,4,5,6,7,8,9,10,11,12,13,26,27,28,29],[0,1,2,3,4,5,6,7,8,9,10,11,12,13,26,27,28,29,30],(lr 14),[0,1,2,3,4,5,6,7,8,9,10,11,12,13,26,27,28,29,30,31,32],[0,1,2,3,4,5,6,7,8,9,10,11,12,13,26,27,28,29,30,31,32,33],(lr 14),[0,1,2,3,4,5,6,7,8,9,10,11,12,13,35],(lr 14),[0,1,2,3,4,5,6,7,8,9,10,11,12,13,35,36,37],[0,1,2,3,4,5,6,7,8,9,10,11,12,13,35,36,37,38],[0,1,2,3,4,5,6,7,8,9,10,11,12,13,35,36,37,38,39],(lr 14),[0,1,2,3,4,5,6,7,8,9,10,11,12,13,35,36,37,38,39,40,41],[0,1,2,3,4,5,6,7,8,9,10,11,12,13,35,36,37,38,39,40,41,42],[0,1,2,3,4,5,6,7,8,9,10,11,12,13,35,36,37,38,39,40,41,42,43],[0,1,2,3,4,5,6,7,8,9,10,11,12,13,26,27,28,29,30,31,32,33,34,35,36,37,38,39,40,41,42,43,44],(lr 46),(lr 47),(lr 48)],[.ref 0 0 0,vb x6.1,vb x6.1,.when x6.1 (.ref 0 0 1),.when x6.1 (vs x6.2),.when x6.1 (vi a2),.when x6.1 (.er [vi (gI x6.2 a2)]),.when x6.1 (vi (gI x6.2 a2)),.when x6.1 (vb ((gI x6.2 a2) != (0:Int))),vb (x6.1 && ((gI x6.2 a2) != (0:Int))),vb (x6.1 && ((gI x6.2 a2) != (0:Int))),.when (x6.1 && ((gI x6.2 a2) != (0:Int))) (vi x1),.when (x6.1 && ((gI x6.2 a2) != (0:Int))) (vb (decide (x1 < (0:Int)))),.when (x6.1 && ((gI x6.2 a2) != (0:Int))) (vb (decide (x1 < (0:Int)))),.when ((x6.1 && ((gI x6.2 a2) != (0:Int))) && (!(decide (x1 < (0:Int))))) (.ref 0 0 1),.when ((x6.1 && ((gI x6.2 a2) != (0:Int))) && (!(decide (x1 < (0:Int))))) (vs x6.2),.when ((x6.1 && ((gI x6.2 a2) != (0:Int))) && (!(decide (x1 < (0:Int))))) (vi a2),.when ((x6.1 && ((gI x6.2 a2) != (0:Int))) && (!(decide (x1 < (0:Int))))) (.er [vi (gI x6.2 a2)]),.when ((x6.1 && ((gI x6.2 a2) != (0:Int))) && (!(decide (x1 < (0:Int))))) (vi (gI x6.2 a2)),.when ((x6.1 && ((gI x6.2 a2) != (0:Int))) && (!(decide (x1 < (0:Int))))) (.ref 0 0 1),.when ((x6.1 && ((gI x6.2 a2) != (0:Int))) && (!(decide (x1 < (0:Int))))) (vs x6.2),.when ((x6.1 && ((gI x6.2 a2) != (0:Int))) && (!(decide (x1 < (0:Int))))) (vi a2),.when ((x6.1 && ((gI x6.2 a2) != (0:Int))) && (!(decide (x1 < (0:Int))))) (.er [vi (gI x6.2 a2)]),.when ((x6.1 && ((gI x6.2 a2) != (0:Int))) && (!(decide (x1 < (0:Int))))) (vi (gI x6.2 a2)),.when ((x6.1 && ((gI x6.2 a2) != (0:Int))) && (!(decide (x1 < (0:Int))))) (vi (-(gI x6.2 a2))),.when ((x6.1 && ((gI x6.2 a2) != (0:Int))) && (!(decide (x1 < (0:Int))))) (vi (if (-(gI x6.2 a2)) > (gI x6.2 a2) then (-(gI x6.2 a2)) else (gI x6.2 a2))),.when ((x6.1 && ((gI x6.2 a2) != (0:Int))) && (!(decide (x1 < (0:Int))))) (.er [.d (.sl t_farkas_row) a1.2]),.when ((x6.1 && ((gI x6.2 a2) != (0:Int))) && (!(decide (x1 < (0:Int))))) (.d (.sl t_farkas_row) a1.2),.when ((x6.1 && ((gI x6.2 a2) != (0:Int))) && (!(decide (x1 < (0:Int))))) (vi x1),.when ((x6.1 && ((gI x6.2 a2) != (0:Int))) && (!(decide (x1 < (0:Int))))) (.er (c_farkas_row (a1.2.getD (Int.toNat x1) d_farkas_row))),.when ((x6.1 && ((gI x6.2 a2) != (0:Int))) && (!(decide (x1 < (0:Int))))) (.er [vs ((a1.2.getD (Int.toNat x1) d_farkas_row).2)]),.when ((x6.1 && ((gI x6.2 a2) != (0:Int))) && (!(decide (x1 < (0:Int))))) (vs ((a1.2.getD (Int.toNat x1) d_farkas_row).2)),.when ((x6.1 && ((gI x6.2 a2) != (0:Int))) && (!(decide (x1 < (0:Int))))) (vi a2),.when ((x6.1 && ((gI x6.2 a2) != (0:Int))) && (!(decide (x1 < (0:Int))))) (.er [vi (gI ((a1.2.getD (Int.toNat x1) d_farkas_row).2) a2)]),.when ((x6.1 && ((gI x6.2 a2) != (0:Int))) && (!(decide (x1 < (0:Int))))) (vi (gI ((a1.2.getD (Int.toNat x1) d_farkas_row).2) a2)),.when ((x6.1 && ((gI x6.2 a2) != (0:Int))) && (!(decide (x1 < (0:Int))))) (.er [.d (.sl t_farkas_row) a1.2]),.when ((x6.1 && ((gI x6.2 a2) != (0:Int))) && (!(decide (x1 < (0:Int))))) (.d (.sl t_farkas_row) a1.2),.when ((x6.1 && ((gI x6.2 a2) != (0:Int))) && (!(decide (x1 < (0:Int))))) (vi x1),.when ((x6.1 && ((gI x6.2 a2) != (0:Int))) && (!(decide (x1 < (0:Int))))) (.er (c_farkas_row (a1.2.getD (Int.toNat x1) d_farkas_row))),.when ((x6.1 && ((gI x6.2 a2) != (0:Int))) && (!(decide (x1 < (0:Int))))) (.er [vs ((a1.2.getD (Int.toNat x1) d_farkas_row).2)]),.when ((x6.1 && ((gI x6.2 a2) != (0:Int))) && (!(decide (x1 < (0:Int))))) (vs ((a1.2.getD (Int.toNat x1) d_farkas_row).2)),.when ((x6.1 && ((gI x6.2 a2) != (0:Int))) && (!(decide (x1 < (0:Int))))) (vi a2),.when ((x6.1 && ((gI x6.2 a2) != (0:Int))) && (!(decide (x1 < (0:Int))))) (.er [vi (gI ((a1.2.getD (Int.toNat x1) d_farkas_row).2) a2)]),.when ((x6.1 && ((gI x6.2 a2) != (0:Int))) && (!(decide (x1 < (0:Int))))) (vi (gI ((a1.2.getD (Int.toNat x1) d_farkas_row).2) a2)),.when ((x6.1 && ((gI x6.2 a2) != (0:Int))) && (!(decide (x1 < (0:Int))))) (vi (-(gI ((a1.2.getD (Int.toNat x1) d_farkas_row).2) a2))),.when ((x6.1 && ((gI x6.2 a2) != (0:Int))) && (!(decide (x1 < (0:Int))))) (vi (if (-(gI ((a1.2.getD (Int.toNat x1) d_farkas_row).2) a2)) > (gI ((a1.2.getD (Int.toNat x1) d_farkas_row).2) a2) then (-(gI ((a1.2.getD (Int.toNat x1) d_farkas_row).2) a2)) else (gI ((a1.2.getD (Int.toNat x1) d_farkas_row).2) a2))),.when ((x6.1 && ((gI x6.2 a2) != (0:Int))) && (!(decide (x1 < (0:Int))))) (vb (decide ((if (-(gI x6.2 a2)) > (gI x6.2 a2) then (-(gI x6.2 a2)) else (gI x6.2 a2)) < (if (-(gI ((a1.2.getD (Int.toNat x1) d_farkas_row).2) a2)) > (gI ((a1.2.getD (Int.toNat x1) d_farkas_row).2) a2) then (-(gI ((a1.2.getD (Int.toNat x1) d_farkas_row).2) a2)) else (gI ((a1.2.getD (Int.toNat x1) d_farkas_row).2) a2))))),.when (x6.1 && ((gI x6.2 a2) != (0:Int))) (vb ((decide (x1 < (0:Int))) || (decide ((if (-(gI x6.2 a2)) > (gI x6.2 a2) then (-(gI x6.2 a2)) else (gI x6.2 a2)) < (if (-(gI ((a1.2.getD (Int.toNat x1) d_farkas_row).2) a2)) > (gI ((a1.2.getD (Int.toNat x1) d_farkas_row).2) a2) then (-(gI ((a1.2.getD (Int.toNat x1) d_farkas_row).2) a2)) else (gI ((a1.2.getD (Int.toNat x1) d_farkas_row).2) a2)))))),vb ((x6.1 && ((gI x6.2 a2) != (0:Int))) && ((decide (x1 < (0:Int))) || (decide ((if (-(gI x6.2 a2)) > (gI x6.2 a2) then (-(gI x6.2 a2)) else (gI x6.2 a2)) < (if (-(gI ((a1.2.getD (Int.toNat x1) d_farkas_row).2) a2)) > (gI ((a1.2.getD (Int.toNat x1) d_farkas_row).2) a2) then (-(gI ((a1.2.getD (Int.toNat x1) d_farkas_row).2) a2)) else (gI ((a1.2.getD (Int.toNat x1) d_farkas_row).2) a2))))))],_,[],[([],[.box (c_farkas_row x6)])],[],[]⟩ ⟨68,[(1,vi a2),(2,.er (c_farkas_table a1)),(5,vi x1),(6,vi x2),(9,.d (.sl t_farkas_row) a1.2),(10,vi (a1.2.length:Int)),(11,vi x2),(61,.when ((x6.1 && ((gI x6.2 a2) != (0:Int))) && (!(decide (x1 < (0:Int))))) (vi (if (-(gI ((a1.2.getD (Int.toNat x1) d_farkas_row).2) a2)) > (gI ((a1.2.getD (Int.toNat x1) d_farkas_row).2) a2) then (-(gI ((a1.2.getD (Int.toNat x1) d_farkas_row).2) a2)) else (gI ((a1.2.getD (Int.toNat x1) d_farkas_row).2) a2)))),(62,.when ((x6.1 && ((gI x6.2 a2) != (0:Int))) && (!(decide (x1 < (0:Int))))) (vb (decide ((if (-(gI x6.2 a2)) > (gI x6.2 a2) then (-(gI x6.2 a2)) else (gI x6.2 a2)) < (if (-(gI ((a1.2.getD (Int.toNat x1) d_farkas_row).2) a2)) > (gI ((a1.2.getD (Int.toNat x1) d_farkas_row).2) a2) then (-(gI ((a1.2.getD (Int.toNat x1) d_farkas_row).2) a2)) else (gI ((a1.2.getD (Int.toNat x1) d_farkas_row).2) a2)))))),(63,.when (x6.1 && ((gI x6.2 a2) != (0:Int))) (vb ((decide (x1 < (0:Int))) || (decide ((if (-(gI x6.2 a2)) > (gI x6.2 a2) then (-(gI x6.2 a2)) else (gI x6.2 a2)) < (if (-(gI ((a1.2.getD (Int.toNat x1) d_farkas_row).2) a2)) > (gI ((a1.2.getD (Int.toNat x1) d_farkas_row).2) a2) then (-(gI ((a1.2.getD (Int.toNat x1) d_farkas_row).2) a2)) else (gI ((a1.2.getD (Int.toNat x1) d_farkas_row).2) a2))))))),(64,vb ((x6.1 && ((gI x6.2 a2) != (0:Int))) && ((decide (x1 < (0:Int))) || (decide ((if (-(gI x6.2 a2)) > (gI x6.2 a2) then (-(gI x6.2 a2)) else (gI x6.2 a2)) < (if (-(gI ((a1.2.getD (Int.toNat x1) d_farkas_row).2) a2)) > (gI ((a1.2.getD (Int.toNat x1) d_farkas_row).2) a2) then (-(gI ((a1.2.getD (Int.toNat x1) d_farkas_row).2) a2)) else (gI ((a1.2.getD (Int.toNat x1) d_farkas_row).2) a2)))))))],[.box (c_farkas_row x6)]⟩ (.n (.n (.n (.n (.s (fun hg => ⟨hg,trivial⟩ : x6.1 = true → x6.1 = true ∧ True) (.n (.s (fun hg => ⟨hg,hg,(o2 hg)⟩ : x6.1 = true → x6.1 = true ∧ (x6.1 = true ∧ ((0:Int) ≤ a2 ∧ a2 < (x6.2.length:Int)))) (.s (fun hg => ⟨hg,trivial⟩ : x6.1 = true → x6.1 = true ∧ True) (.s (fun hg => ⟨hg,trivial⟩ : x6.1 = true → x6.1 = true ∧ True) (.s (fun hc => hc : x6.1 = true → x6.1 = true) (.n (.n (.s (fun hg => ⟨hg,trivial⟩ : (x6.1 && ((gI x6.2 a2) != (0:Int))) = true → (x6.1 && ((gI x6.2 a2) != (0:Int))) = true ∧ True) (.s (fun hg => ⟨hg,trivial⟩ : (x6.1 && ((gI x6.2 a2) != (0:Int))) = true → (x6.1 && ((gI x6.2 a2) != (0:Int))) = true ∧ True) (.n (.s (fun hg => ⟨hg,trivial⟩ : ((x6.1 && ((gI x6.2 a2) != (0:Int))) && (!(decide (x1 < (0:Int))))) = true → ((x6.1 && ((gI x6.2 a2) != (0:Int))) && (!(decide (x1 < (0:Int))))) = true ∧ True) (.n (.s (fun hg => ⟨hg,hg,(o3 hg)⟩ : ((x6.1 && ((gI x6.2 a2) != (0:Int))) && (!(decide (x1 < (0:Int))))) = true → ((x6.1 && ((gI x6.2 a2) != (0:Int))) && (!(decide (x1 < (0:Int))))) = true ∧ (((x6.1 && ((gI x6.2 a2) != (0:Int))) && (!(decide (x1 < (0:Int))))) = true ∧ ((0:Int) ≤ a2 ∧ a2 < (x6.2.length:Int)))) (.s (fun hg => ⟨hg,trivial⟩ : ((x6.1 && ((gI x6.2 a2) != (0:Int))) && (!(decide (x1 < (0:Int))))) = true → ((x6.1 && ((gI x6.2 a2) != (0:Int))) && (!(decide (x1 < (0:Int))))) = true ∧ True) (.n (.s (fun hg => ⟨hg,trivial⟩ : ((x6.1 && ((gI x6.2 a2) != (0:Int))) && (!(decide (x1 < (0:Int))))) = true → ((x6.1 && ((gI x6.2 a2) != (0:Int))) && (!(decide (x1 < (0:Int))))) = true ∧ True) (.n (.s (fun hg => ⟨hg,hg,(o4 hg)⟩ : ((x6.1 && ((gI x6.2 a2) != (0:Int))) && (!(decide (x1 < (0:Int))))) = true → ((x6.1 && ((gI x6.2 a2) != (0:Int))) && (!(decide (x1 < (0:Int))))) = true ∧ (((x6.1 && ((gI x6.2 a2) != (0:Int))) && (!(decide (x1 < (0:Int))))) = true ∧ ((0:Int) ≤ a2 ∧ a2 < (x6.2.length:Int)))) (.s (fun hg => ⟨hg,trivial⟩ : ((x6.1 && ((gI x6.2 a2) != (0:Int))) && (!(decide (x1 < (0:Int))))) = true → ((x6.1 && ((gI x6.2 a2) != (0:Int))) && (!(decide (x1 < (0:Int))))) = true ∧ True) (.s (fun hg => ⟨hg,(o5 hg)⟩ : ((x6.1 && ((gI x6.2 a2) != (0:Int))) && (!(decide (x1 < (0:Int))))) = true → ((x6.1 && ((gI x6.2 a2) != (0:Int))) && (!(decide (x1 < (0:Int))))) = true ∧ (-9223372036854775808 ≤ -(gI x6.2 a2) ∧ -(gI x6.2 a2) ≤ 9223372036854775807)) (.s (fun hg => ⟨hg,hg,trivial⟩ : ((x6.1 && ((gI x6.2 a2) != (0:Int))) && (!(decide (x1 < (0:Int))))) = true → ((x6.1 && ((gI x6.2 a2) != (0:Int))) && (!(decide (x1 < (0:Int))))) = true ∧ (((x6.1 && ((gI x6.2 a2) != (0:Int))) && (!(decide (x1 < (0:Int))))) = true ∧ True)) (.n (.s (fun hg => ⟨hg,trivial⟩ : ((x6.1 && ((gI x6.2 a2) != (0:Int))) && (!(decide (x1 < (0:Int))))) = true → ((x6.1 && ((gI x6.2 a2) != (0:Int))) && (!(decide (x1 < (0:Int))))) = true ∧ True) (.n (.s (fun hg => ⟨hg,hg,(o6 hg)⟩ : ((x6.1 && ((gI x6.2 a2) != (0:Int))) && (!(decide (x1 < (0:Int))))) = true → ((x6.1 && ((gI x6.2 a2) != (0:Int))) && (!(decide (x1 < (0:Int))))) = true ∧ (((x6.1 && ((gI x6.2 a2) != (0:Int))) && (!(decide (x1 < (0:Int))))) = true ∧ ((0:Int) ≤ x1 ∧ x1 < (a1.2.length:Int)))) (.s (fun hg => ⟨hg,trivial⟩ : ((x6.1 && ((gI x6.2 a2) != (0:Int))) && (!(decide (x1 < (0:Int))))) = true → ((x6.1 && ((gI x6.2 a2) != (0:Int))) && (!(decide (x1 < (0:Int))))) = true ∧ True) (.s (fun hg => ⟨hg,trivial⟩ : ((x6.1 && ((gI x6.2 a2) != (0:Int))) && (!(decide (x1 < (0:Int))))) = true → ((x6.1 && ((gI x6.2 a2) != (0:Int))) && (!(decide (x1 < (0:Int))))) = true ∧ True) (.n (.s (fun hg => ⟨hg,hg,(o7 hg)⟩ : ((x6.1 && ((gI x6.2 a2) != (0:Int))) && (!(decide (x1 < (0:Int))))) = true → ((x6.1 && ((gI x6.2 a2) != (0:Int))) && (!(decide (x1 < (0:Int))))) = true ∧ (((x6.1 && ((gI x6.2 a2) != (0:Int))) && (!(decide (x1 < (0:Int))))) = true ∧ ((0:Int) ≤ a2 ∧ a2 < (((a1.2.getD (Int.toNat x1) d_farkas_row).2).length:Int)))) (.s (fun hg => ⟨hg,trivial⟩ : ((x6.1 && ((gI x6.2 a2) != (0:Int))) && (!(decide (x1 < (0:Int))))) = true → ((x6.1 && ((gI x6.2 a2) != (0:Int))) && (!(decide (x1 < (0:Int))))) = true ∧ True) (.n (.s (fun hg => ⟨hg,trivial⟩ : ((x6.1 && ((gI x6.2 a2) != (0:Int))) && (!(decide (x1 < (0:Int))))) = true → ((x6.1 && ((gI x6.2 a2) != (0:Int))) && (!(decide (x1 < (0:Int))))) = true ∧ True) (.n (.s (fun hg => ⟨hg,hg,(o8 hg)⟩ : ((x6.1 && ((gI x6.2 a2) != (0:Int))) && (!(decide (x1 < (0:Int))))) = true → ((x6.1 && ((gI x6.2 a2) != (0:Int))) && (!(decide (x1 < (0:Int))))) = true ∧ (((x6.1 && ((gI x6.2 a2) != (0:Int))) && (!(decide (x1 < (0:Int))))) = true ∧ ((0:Int) ≤ x1 ∧ x1 < (a1.2.length:Int)))) (.s (fun hg => ⟨hg,trivial⟩ : ((x6.1 && ((gI x6.2 a2) != (0:Int))) && (!(decide (x1 < (0:Int))))) = true → ((x6.1 && ((gI x6.2 a2) != (0:Int))) && (!(decide (x1 < (0:Int))))) = true ∧ True) (.s (fun hg => ⟨hg,trivial⟩ : ((x6.1 && ((gI x6.2 a2) != (0:Int))) && (!(decide (x1 < (0:Int))))) = true → ((x6.1 && ((gI x6.2 a2) != (0:Int))) && (!(decide (x1 < (0:Int))))) = true ∧ True) (.n (.s (fun hg => ⟨hg,hg,(o9 hg)⟩ : ((x6.1 && ((gI x6.2 a2) != (0:Int))) && (!(decide (x1 < (0:Int))))) = true → ((x6.1 && ((gI x6.2 a2) != (0:Int))) && (!(decide (x1 < (0:Int))))) = true ∧ (((x6.1 && ((gI x6.2 a2) != (0:Int))) && (!(decide (x1 < (0:Int))))) = true ∧ ((0:Int) ≤ a2 ∧ a2 < (((a1.2.getD (Int.toNat x1) d_farkas_row).2).length:Int)))) (.s (fun hg => ⟨hg,trivial⟩ : ((x6.1 && ((gI x6.2 a2) != (0:Int))) && (!(decide (x1 < (0:Int))))) = true → ((x6.1 && ((gI x6.2 a2) != (0:Int))) && (!(decide (x1 < (0:Int))))) = true ∧ True) (.s (fun hg => ⟨hg,(o10 hg)⟩ : ((x6.1 && ((gI x6.2 a2) != (0:Int))) && (!(decide (x1 < (0:Int))))) = true → ((x6.1 && ((gI x6.2 a2) != (0:Int))) && (!(decide (x1 < (0:Int))))) = true ∧ (-9223372036854775808 ≤ -(gI ((a1.2.getD (Int.toNat x1) d_farkas_row).2) a2) ∧ -(gI ((a1.2.getD (Int.toNat x1) d_farkas_row).2) a2) ≤ 9223372036854775807)) (.s (fun hg => ⟨hg,hg,trivial⟩ : ((x6.1 && ((gI x6.2 a2) != (0:Int))) && (!(decide (x1 < (0:Int))))) = true → ((x6.1 && ((gI x6.2 a2) != (0:Int))) && (!(decide (x1 < (0:Int))))) = true ∧ (((x6.1 && ((gI x6.2 a2) != (0:Int))) && (!(decide (x1 < (0:Int))))) = true ∧ True)) (.s (fun hg => ⟨hg,hg,trivial⟩ : ((x6.1 && ((gI x6.2 a2) != (0:Int))) && (!(decide (x1 < (0:Int))))) = true → ((x6.1 && ((gI x6.2 a2) != (0:Int))) && (!(decide (x1 < (0:Int))))) = true ∧ (((x6.1 && ((gI x6.2 a2) != (0:Int))) && (!(decide (x1 < (0:Int))))) = true ∧ True)) (.s (fun hg => ⟨hg,fun hc => and_f hg hc⟩ : (x6.1 && ((gI x6.2 a2) != (0:Int))) = true → (x6.1 && ((gI x6.2 a2) != (0:Int))) = true ∧ ((decide (x1 < (0:Int))) = false → ((x6.1 && ((gI x6.2 a2) != (0:Int))) && (!(decide (x1 < (0:Int))))) = true)) (.s (fun hc => hc : (x6.1 && ((gI x6.2 a2) != (0:Int))) = true → (x6.1 && ((gI x6.2 a2) != (0:Int))) = true) AllO.e))))))))))))))))))))))))))))))))))))))))))))))))) ?_)
    refine tc ((awp_abs (fun (x7:Int) => ⟨68,[(1,vi a2),(2,.er (c_farkas_table a1)),(5,vi x1),(6,vi x2),(9,.d (.sl t_farkas_row) a1.2),(10,vi (a1.2.length:Int)),(11,vi x2),(61,.when ((x6.1 && ((gI x6.2 a2) != (0:Int))) && (!(decide (x1 < (0:Int))))) (vi x7)),(62,.when ((x6.1 && ((gI x6.2 a2) != (0:Int))) && (!(decide (x1 < (0:Int))))) (vb (decide ((if (-(gI x6.2 a2)) > (gI x6.2 a2) then (-(gI x6.2 a2)) else (gI x6.2 a2)) < x7)))),(63,.when (x6.1 && ((gI x6.2 a2) != (0:Int))) (vb ((decide (x1 < (0:Int))) || (decide ((if (-(gI x6.2 a2)) > (gI x6.2 a2) then (-(gI x6.2 a2)) else (gI x6.2 a2)) < x7))))),(64,vb ((x6.1 && ((gI x6.2 a2) != (0:Int))) && ((decide (x1 < (0:Int))) || (decide ((if (-(gI x6.2 a2)) > (gI x6.2 a2) then (-(gI x6.2 a2)) else (gI x6.2 a2)) < x7)))))],[.box (c_farkas_row x6)]⟩) (if (-(gI ((a1.2.getD (Int.toNat x1) d_farkas_row).2) a2)) > (gI ((a1.2.getD (Int.toNat x1) d_farkas_row).2) a2) then (-(gI ((a1.2.getD (Int.toNat x1) d_farkas_row).2) a2)) else (gI ((a1.2.getD (Int.toNat x1) d_farkas_row).2) a2)) ?_))
    intro x7 hx7
    replace h := h x7 hx7
    refine awp_cond (b := (x6.1 && ((gI x6.2 a2) != (0:Int))) && ((decide (x1 < (0:Int))) || (decide ((if (-(gI x6.2 a2)) > (gI x6.2 a2) then (-(gI x6.2 a2)) else (gI x6.2 a2)) < x7)))) (by kernel_rfl) (fun hb => ?_) (fun hb => ?_)
    · replace h := h.1 (hb)
      obtain ⟨o11,h⟩ := h
      refine rc [1,2,5,9,10,11,61,62,63] [] [] [] ⟨68,[(1,vi a2),(2,.er (c_farkas_table a1)),(5,vi x2),(9,.d (.sl t_farkas_row) a1.2),(10,vi (a1.2.length:Int)),(11,vi x2),(61,.when ((x6.1 && ((gI x6.2 a2) != (0:Int))) && (!(decide (x1 < (0:Int))))) (vi x7)),(62,.when ((x6.1 && ((gI x6.2 a2) != (0:Int))) && (!(decide (x1 < (0:Int))))) (vb (decide ((if (-(gI x6.2 a2)) > (gI x6.2 a2) then (-(gI x6.2 a2)) else (gI x6.2 a2)) < x7)))),(63,.when (x6.1 && ((gI x6.2 a2) != (0:Int))) (vb ((decide (x1 < (0:Int))) || (decide ((if (-(gI x6.2 a2)) > (gI x6.2 a2) then (-(gI x6.2 a2)) else (gI x6.2 a2)) < x7)))))],[.box (c_farkas_row x6)]⟩ (pe) (te ((te ((blk_n (tc ((rc [1,2,5,9,10,11,61,62,63] [] [] [] ⟨68,[(1,vi a2),(2,.er (c_farkas_table a1)),(5,vi x2),(9,.d (.sl t_farkas_row) a1.2),(10,vi (a1.2.length:Int)),(11,vi (x2 + (1:Int))),(61,.when ((x6.1 && ((gI x6.2 a2) != (0:Int))) && (!(decide (x1 < (0:Int))))) (vi x7)),(62,.when ((x6.1 && ((gI x6.2 a2) != (0:Int))) && (!(decide (x1 < (0:Int))))) (vb (decide ((if (-(gI x6.2 a2)) > (gI x6.2 a2) then (-(gI x6.2 a2)) else (gI x6.2 a2)) < x7)))),(63,.when (x6.1 && ((gI x6.2 a2) != (0:Int))) (vb ((decide (x1 < (0:Int))) || (decide ((if (-(gI x6.2 a2)) > (gI x6.2 a2) then (-(gI x6.2 a2)) else (gI x6.2 a2)) < x7)))))],[.box (c_farkas_row x6)]⟩ (pn o11 pe) (te ((te ((te ((then_n (?_))))))))))))))))
      obtain ⟨m,hm,h⟩ := h
      exact ⟨m,hm,⟨68,[(1,vi a2),(2,.er (c_farkas_table a1)),(5,vi x2),(9,.d (.sl t_farkas_row) a1.2),(10,vi (a1.2.length:Int)),(11,vi (x2 + (1:Int)))],[]⟩,wk_ghosts hk (l := [.keep [1,2,5,9,10,11],.cut 0,.keep [1,2,5,9,10,11]]) (by kernel_rfl),x2,x2 + (1:Int),h,rfl⟩
    · replace h := h.2 (hb)
      obtain ⟨o12,h⟩ := h
      refine awp_skip (te ((te ((blk_n (tc ((rc [1,2,5,9,10,11,61,62,63] [] [] [] ⟨68,[(1,vi a2),(2,.er (c_farkas_table a1)),(5,vi x1),(9,.d (.sl t_farkas_row) a1.2),(10,vi (a1.2.length:Int)),(11,vi (x2 + (1:Int))),(61,.when ((x6.1 && ((gI x6.2 a2) != (0:Int))) && (!(decide (x1 < (0:Int))))) (vi x7)),(62,.when ((x6.1 && ((gI x6.2 a2) != (0:Int))) && (!(decide (x1 < (0:Int))))) (vb (decide ((if (-(gI x6.2 a2)) > (gI x6.2 a2) then (-(gI x6.2 a2)) else (gI x6.2 a2)) < x7)))),(63,.when (x6.1 && ((gI x6.2 a2) != (0:Int))) (vb ((decide (x1 < (0:Int))) || (decide ((if (-(gI x6.2 a2)) > (gI x6.2 a2) then (-(gI x6.2 a2)) else (gI x6.2 a2)) < x7)))))],[.box (c_farkas_row x6)]⟩ (pn o12 pe) (te ((te ((te ((then_n (?_))))))))))))))))
      obtain ⟨m,hm,h⟩ := h
      exact ⟨m,hm,⟨68,[(1,vi a2),(2,.er (c_farkas_table a1)),(5,vi x1),(9,.d (.sl t_farkas_row) a1.2),(10,vi (a1.2.length:Int)),(11,vi (x2 + (1:Int)))],[]⟩,wk_ghosts hk (l := [.keep [1,2,5,9,10,11],.cut 0,.keep [1,2,5,9,10,11]]) (by kernel_rfl),x1,x2 + (1:Int),h,rfl⟩
  · replace h := h.2 (of_decide_eq_false hb)
    refine awp_exit (then_x (then_x (then_x (blk_h (tc ((awp_spine (rc [4] [] [] [] ⟨68,[(4,vi x1)],[]⟩ (pe) (tc ((awp_ret (tr (tr (tr (tr (?_))))))))))))))))
    exact re hk (vi x1) [.keep [4]] ⟨68,[(4,vi x1)],[]⟩ ⟨x1,rfl,rfl,h⟩
theorem ok_farkas_table_solver (a1 : farkas_table) (a2:Int) (h : farkas_table_solver.pre a1 a2) : OkC prog 78 [.agg (c_farkas_table a1),vi a2] (vi (farkas_table_solver.fn a1 a2)) :=
  OkC.of call_farkas_table_solver ((walk_farkas_table_solver a1 a2 _ (farkas_table_solver.spec a1 a2 h)).mono fun r o ⟨x,hr,ho,hx⟩ => ⟨by rw [hr,hx],ho⟩) rfl rfl (fun _ => rfl)

noncomputable abbrev b79 : Code := bodyOf Try.f79
theorem call_farkas_vector_int_sum : CallOk prog 79 := ⟨_,Try.func79,by kernel_rfl,by kernel_rfl⟩
theorem walk_farkas_vector_int_sum (a1 : (List Int)) (a2:Int) (a3:Int) (a4 : (List Int)) (Q : (List Int) → Prop) (h : farkas_vector_int_sum.wp a1 a2 a3 a4 Q) : VCalls prog 79 [vs a1,vi a2,vi a3,vs a4] [] (fun r o => ∃ x,r = vs x ∧ o = [] ∧ Q x) := by
  refine body Try.func79 (spine (subC [0] b79) [(spine (subC [1,0] b79) [(spine (subC [1,1,0,0] b79) [(.block 0 (.loop (spine (subC [1,1,0,1,0,0,0] b79) [(spine (.cond (.tmp 17) .skip (.exit 0)) [(spine (.block 1 (spine (subC [1,1,0,1,0,0,1,1,0,0,0] b79) [(subC [1,1,0,1,0,0,1,1,0,0,1] b79)])) [(subC [1,1,0,1,0,0,1,1,1] b79)])])]))),(spine (subC [1,1,1,0] b79) [.ret])])])]) fun cx hd hi hk => ?_
  show AWp prog cx _ _ ⟨37,[(0,vs a1),(1,vi a2),(2,vi a3),(3,vs a4)],[]⟩
  replace hk : cx.E.len = 0 := hk
  unfold farkas_vector_int_sum.wp at h
  obtain ⟨o1,h⟩ := h
  refine awp_spine (rc [0,1,2,3] [] [] [] ⟨37,[(0,vs a1),(1,vi a2),(2,vi a3),(3,vs a4)],[]⟩ (pe) (tc ((awp_spine (rc [0,1,2,3,9] [] [] [] ⟨37,[(0,vs a1),(1,vi a2),(2,vi a3),(3,vs a4),(9,.osl 0 0)],[.row tI (List.replicate (Int.toNat (a1.length:Int)) (0:Int)) 0]⟩ (pn o1 pe) (tc ((awp_abs (fun (x1 : (List Int)) => ⟨37,[(0,vs a1),(1,vi a2),(2,vi a3),(3,vs a4),(9,.osl 0 0)],[.row tI x1 0]⟩) (List.replicate (Int.toNat (a1.length:Int)) (0:Int)) ?_))))))))
  intro x1 hx1
  replace h := h x1 hx1
  refine awp_len 0 [] (T := tI) (l := a1) (by kernel_rfl) fun hl => ?_
  replace h := h hl
  refine awp_spine (rc [0,1,2,3,9,15,16] [] [] [] ⟨37,[(0,vs a1),(1,vi a2),(2,vi a3),(3,vs a4),(9,.osl 0 0),(15,vi (a1.length:Int)),(16,vi 0)],[.row tI x1 0]⟩ (pe) (tc ((awp_len 0 [] (T := tI) (l := a1) (by kernel_rfl) fun hl => ?_))))
  replace h := h hl
  obtain ⟨I8,⟨n8a,hz8⟩,hI8⟩ := h
  refine awp_block (awp_loopN (fun n s => ∃ (x4:Int) (x5 : (List Int)),I8 n x4 x5 ∧ s = ⟨37,[(0,vs a1),(1,vi a2),(2,vi a3),(3,vs a4),(9,.osl 0 0),(15,vi (a1.length:Int)),(16,vi x4)],[.row tI x5 0]⟩) (n := n8a) (s0 := ⟨37,[(0,vs a1),(1,vi a2),(2,vi a3),(3,vs a4),(9,.osl 0 0),(15,vi (a1.length:Int)),(16,vi 0)],[.row tI x1 0]⟩) (wk_ghosts hk (l := [.keep [0,1,2,3,9,15,16]]) (by kernel_rfl)) ⟨0,x1,hz8,rfl⟩ ?_)
  rintro n8 s ⟨x4,x5,hx8,rfl⟩
  have h := hI8 n8 x4 x5 hx8
  refine awp_spine (rc [0,1,2,3,9,15,16,17] [] [] [] ⟨37,[(0,vs a1),(1,vi a2),(2,vi a3),(3,vs a4),(9,.osl 0 0),(15,vi (a1.length:Int)),(16,vi x4),(17,vb (decide (x4 < (a1.length:Int))))],[.row tI x5 0]⟩ (pe) (tc ((awp_spine (awp_cond (b := decide (x4 < (a1.length:Int))) (by kernel_rfl) (fun hb => ?_) (fun hb => ?_))))))
  · replace h := h.1 (of_decide_eq_true hb)
    obtain ⟨o2,o3,o4,o5,o6,o7,o8,h⟩ := h
    refine awp_skip (tc ((awp_spine (awp_block (awp_spine (rc [0,1,2,3,9,10,15,16] [] [] [] ⟨37,[(0,vs a1),(1,vi a2),(2,vi a3),(3,vs a4),(9,.osl 0 0),(10,vi x4),(15,vi (a1.length:Int)),(16,vi x4)],[.row tI x5 0]⟩ (pe) (tc ((dr hk [0,1,2,3,9,15,16] [] [] [] ⟨[[],[],[],[],[],[3,4],[3,4,5],[2,3,4,5,6],[],[],[],[9,10],[9,10,11],[8,9,10,11,12],[2,3,4,5,6,7,8,9,10,11,12,13],(lr 15),(lr 16)],[.osl 0 0,vi x4,vi a2,vs a1,vi x4,.er [vi (gI a1 x4)],vi (gI a1 x4),vi (a2 * (gI a1 x4)),vi a3,vs a4,vi x4,.er [vi (gI a4 x4)],vi (gI a4 x4),vi (a3 * (gI a4 x4)),vi ((a2 * (gI a1 x4)) + (a3 * (gI a4 x4))),.rref 0 0 (Int.toNat x4) 0,.tup []],_,[16],[([],[.row tI x5 0]),([16],[.row tI (x5.set (Int.toNat x4) ((a2 * (gI a1 x4)) + (a3 * (gI a4 x4)))) 0])],[],[]⟩ ⟨37,[(0,vs a1),(1,vi a2),(2,vi a3),(3,vs a4),(9,.osl 0 0),(15,vi (a1.length:Int)),(16,vi x4)],[.row tI (x5.set (Int.toNat x4) ((a2 * (gI a1 x4)) + (a3 * (gI a4 x4)))) 0]⟩ (.n (.n (.n (.n (.n (.s o2 (.n (.s o3 (.n (.n (.n (.s o4 (.n (.s o5 (.s o6 (.s o7 (.s o8 AllO.e))))))))))))))))) (te ((blk_n (tc ((awp_abs (fun (x9 : (List Int)) => ⟨37,[(0,vs a1),(1,vi a2),(2,vi a3),(3,vs a4),(9,.osl 0 0),(15,vi (a1.length:Int)),(16,vi x4)],[.row tI x9 0]⟩) (x5.set (Int.toNat x4) ((a2 * (gI a1 x4)) + (a3 * (gI a4 x4)))) ?_)))))))))))))))
    intro x9 hx9
    replace h := h x9 hx9
    obtain ⟨o9,h⟩ := h
    refine rc [0,1,2,3,9,15,16] [] [] [] ⟨37,[(0,vs a1),(1,vi a2),(2,vi a3),(3,vs a4),(9,.osl 0 0),(15,vi (a1.length:Int)),(16,vi (x4 + (1:Int)))],[.row tI x9 0]⟩ (pn o9 pe) (te ((te ((te ((then_n (?_))))))))
    obtain ⟨m,hm,h⟩ := h
    exact ⟨m,hm,⟨37,[(0,vs a1),(1,vi a2),(2,vi a3),(3,vs a4),(9,.osl 0 0),(15,vi (a1.length:Int)),(16,vi (x4 + (1:Int)))],[.row tI x9 0]⟩,wk_ghosts hk (l := [.keep [0,1,2,3,9,15,16]]) (by kernel_rfl),x4 + (1:Int),x9,h,rfl⟩
  · replace h := h.2 (of_decide_eq_false hb)
    refine awp_exit (then_x (then_x (then_x (blk_h (tc ((awp_spine (rc [8] [] [] [] ⟨37,[(8,.osl 0 0)],[.row tI x5 0]⟩ (pe) (tc ((awp_ret (tr (tr (tr (tr (?_))))))))))))))))
    exact re hk (vs x5) [.keep [8],.freeze 0] ⟨37,[(8,vs x5)],[.dead]⟩ ⟨x5,rfl,rfl,h⟩
theorem ok_farkas_vector_int_sum (a1 : (List Int)) (a2:Int) (a3:Int) (a4 : (List Int)) (h : farkas_vector_int_sum.pre a1 a2 a3 a4) : OkC prog 79 [vs a1,vi a2,vi a3,vs a4] (vs (farkas_vector_int_sum.fn a1 a2 a3 a4)) :=
  OkC.of call_farkas_vector_int_sum ((walk_farkas_vector_int_sum a1 a2 a3 a4 _ (farkas_vector_int_sum.spec a1 a2 a3 a4 h)).mono fun r o ⟨x,hr,ho,hx⟩ => ⟨by rw [hr,hx],ho⟩) rfl rfl (fun _ => rfl)

noncomputable abbrev b56 : Code := bodyOf Try.f56
theorem call_farkas_table_without : CallOk prog 56 := ⟨_,Try.func56,by kernel_rfl,by kernel_rfl⟩
theorem walk_farkas_table_without (a1 : farkas_table) (a2:Int) (Q : farkas_table × Int → Prop) (h : farkas_table_without.wp a1 a2 Q) : VCalls prog 56 [.agg (c_farkas_table a1),vi a2] [] (fun r o => ∃ x,r = .tup [.agg (c_farkas_table x.1),vi x.2] ∧ o = [] ∧ Q x) := by
  refine body Try.func56 (spine (subC [0] b56) [(spine (subC [1,0] b56) [(spine (subC [1,1,0,0] b56) [(spine (subC [1,1,0,1,0] b56) [(.cond (.tmp 23) (spine (subC [1,1,0,1,1,0,0] b56) [(spine (subC [1,1,0,1,1,0,1,0] b56) [(spine (subC [1,1,0,1,1,0,1,1,0,0] b56) [(.cond (.tmp 35) (subC [1,1,0,1,1,0,1,1,0,1,0] b56) .skip),(spine (subC [1,1,0,1,1,0,1,1,1,0,0] b56) [(.block 0 (.loop (spine (subC [1,1,0,1,1,0,1,1,1,0,1,0,0,0] b56) [(spine (.cond (.tmp 42) .skip (.exit 0)) [(spine (.block 1 (spine (subC [1,1,0,1,1,0,1,1,1,0,1,0,0,1,1,0,0,0] b56) [(.block 2 (spine (subC [1,1,0,1,1,0,1,1,1,0,1,0,0,1,1,0,0,1,0,0] b56) [(.cond (.tmp 66) .skip (spine (subC [1,1,0,1,1,0,1,1,1,0,1,0,0,1,1,0,0,1,0,1,1,0] b56) [(.cond (.tmp 70) (subC [1,1,0,1,1,0,1,1,1,0,1,0,0,1,1,0,0,1,0,1,1,1,0] b56) (subC [1,1,0,1,1,0,1,1,1,0,1,0,0,1,1,0,0,1,0,1,1,1,1] b56))]))]))])) [(subC [1,1,0,1,1,0,1,1,1,0,1,0,0,1,1,1] b56)])])]))),(spine (subC [1,1,0,1,1,0,1,1,1,1,0] b56) [.ret])])])])]) .skip)]),(spine (subC [1,1,1,0,0] b56) [(.block 3 (.loop (spine (subC [1,1,1,0,1,0,0,0] b56) [(spine (.cond (.tmp 91) .skip (.exit 3)) [(spine (.block 4 (spine (subC [1,1,1,0,1,0,0,1,1,0,0,0] b56) [(spine (subC [1,1,1,0,1,0,0,1,1,0,0,1,0] b56) [(.cond (.tmp 99) (subC [1,1,1,0,1,0,0,1,1,0,0,1,1,0] b56) .skip)])])) [(subC [1,1,1,0,1,0,0,1,1,1] b56)])])]))),(spine (subC [1,1,1,1,0,0] b56) [(.block 5 (.loop (spine (subC [1,1,1,1,0,1,0,0,0] b56) [(spine (.cond (.tmp 109) .skip (.exit 5)) [(spine (.block 6 (spine (subC [1,1,1,1,0,1,0,0,1,1,0,0,0] b56) [(spine (subC [1,1,1,1,0,1,0,0,1,1,0,0,1,0] b56) [(.block 7 (.loop (spine (subC [1,1,1,1,0,1,0,0,1,1,0,0,1,1,0,0,0] b56) [(spine (.cond (.tmp 116) .skip (.exit 7)) [(spine (.block 8 (spine (subC [1,1,1,1,0,1,0,0,1,1,0,0,1,1,0,0,1,1,0,0,0] b56) [(spine (subC [1,1,1,1,0,1,0,0,1,1,0,0,1,1,0,0,1,1,0,0,1,0] b56) [(.cond (.tmp 132) (subC [1,1,1,1,0,1,0,0,1,1,0,0,1,1,0,0,1,1,0,0,1,1,0] b56) .skip)])])) [(subC [1,1,1,1,0,1,0,0,1,1,0,0,1,1,0,0,1,1,1] b56)])])])))])])) [(subC [1,1,1,1,0,1,0,0,1,1,1] b56)])])]))),(spine (subC [1,1,1,1,1,0] b56) [.ret])])])])])]) fun cx hd hi hk => ?_
  show AWp prog cx _ _ ⟨160,[(0,.agg (c_farkas_table a1)),(1,vi a2)],[]⟩
  replace hk : cx.E.len = 0 := hk
  unfold farkas_table_without.wp at h
  obtain ⟨o1,h⟩ := h
  refine awp_spine (rc [1,2,4] [] [] [0] ⟨160,[(1,vi a2),(2,.er (c_farkas_table a1)),(4,.ref 0 0 0)],[.box [vi 0,.nils]]⟩ (pe) (tc ((awp_spine (rc [1,2,4,6] [] [] [] ⟨160,[(1,vi a2),(2,.er (c_farkas_table a1)),(4,.ref 0 0 0),(6,.nils)],[.box [vi 0,.nils]]⟩ (pe) (tc ((awp_spine (rc [1,2,4,6,7] [] [(2,.dat (vi (farkas_table_solver.fn a1 a2)))] [] ⟨160,[(1,vi a2),(2,.er (c_farkas_table a1)),(4,.ref 0 0 0),(6,.nils),(7,vi (farkas_table_solver.fn a1 a2))],[.box [vi 0,.nils]]⟩ (pn (ok_farkas_table_solver a1 a2 (o1)) pe) (tc ((awp_abs (fun (x1:Int) => ⟨160,[(1,vi a2),(2,.er (c_farkas_table a1)),(4,.ref 0 0 0),(6,.nils),(7,vi x1)],[.box [vi 0,.nils]]⟩) (farkas_table_solver.fn a1 a2) ?_))))))))))))
  intro x1 hx1
  replace h := h x1 hx1
  refine awp_spine (rc [1,2,4,6,7,23] [] [] [] ⟨160,[(1,vi a2),(2,.er (c_farkas_table a1)),(4,.ref 0 0 0),(6,.nils),(7,vi x1),(23,vb (decide (x1 ≥ (0:Int))))],[.box [vi 0,.nils]]⟩ (pe) (tc ((awp_cond (b := decide (x1 ≥ (0:Int))) (by kernel_rfl) (fun hb => ?_) (fun hb => ?_)))))
  · replace h := h.1 (of_decide_eq_true hb)
    obtain ⟨o2,h⟩ := h
    refine awp_spine (rc [1,2,4,6,7,8] [] [] [] ⟨160,[(1,vi a2),(2,.er (c_farkas_table a1)),(4,.ref 0 0 0),(6,.nils),(7,vi x1),(8,.ref 1 0 0)],[.box [vi 0,.nils],.box (c_farkas_row (a1.2.getD (Int.toNat x1) d_farkas_row))]⟩ (pn o2 pe) (tc ((awp_abs (fun (x2 : farkas_row) => ⟨160,[(1,vi a2),(2,.er (c_farkas_table a1)),(4,.ref 0 0 0),(6,.nils),(7,vi x1),(8,.ref 1 0 0)],[.box [vi 0,.nils],.box (c_farkas_row x2)]⟩) (a1.2.getD (Int.toNat x1) d_farkas_row) ?_))))
    intro x2 hx2
    replace h := h x2 hx2
    obtain ⟨o3,h⟩ := h
    obtain ⟨R5,hA5,hB5⟩ := h
    refine awp_spine (dr hk [1,2,4,6,7,8,9,10] [] [] [] ⟨[[],[0],[],[0,1,2],[0,1,2,3],[],(lr 6)],[.ref 1 0 1,vs x2.2,vi a2,.er [vi (gI x2.2 a2)],vi (gI x2.2 a2),vi (1:Int),vi (gI x2.2 a2)],_,[],[([],[.box [vi 0,.nils],.box (c_farkas_row x2)])],[],[]⟩ ⟨160,[(1,vi a2),(2,.er (c_farkas_table a1)),(4,.ref 0 0 0),(6,.nils),(7,vi x1),(8,.ref 1 0 0),(9,vi (1:Int)),(10,vi (gI x2.2 a2))],[.box [vi 0,.nils],.box (c_farkas_row x2)]⟩ (.n (.n (.n (.s o3 (.n (.n (.n AllO.e))))))) (tc ((awp_spine (rc [1,2,4,6,7,8,9,10,35] [] [] [] ⟨160,[(1,vi a2),(2,.er (c_farkas_table a1)),(4,.ref 0 0 0),(6,.nils),(7,vi x1),(8,.ref 1 0 0),(9,vi (1:Int)),(10,vi (gI x2.2 a2)),(35,vb (decide ((gI x2.2 a2) < (0:Int))))],[.box [vi 0,.nils],.box (c_farkas_row x2)]⟩ (pe) (tc ((awp_meet (fun s' => ∃ (x3:Int) (x4:Int),R5 x3 x4 ∧ Wk cx s' ⟨160,[(1,vi a2),(2,.er (c_farkas_table a1)),(4,.ref 0 0 0),(6,.nils),(7,vi x1),(8,.ref 1 0 0),(9,vi x3),(10,vi x4)],[.box [vi 0,.nils],.box (c_farkas_row x2)]⟩) ?_ ?_))))))))
    · have h := hA5
      refine awp_cond (b := decide ((gI x2.2 a2) < (0:Int))) (by kernel_rfl) (fun hb => ?_) (fun hb => ?_)
      · replace h := h.1 (of_decide_eq_true hb)
        obtain ⟨o4,h⟩ := h
        refine rc [1,2,4,6,7,8,9,10] [] [] [] ⟨160,[(1,vi a2),(2,.er (c_farkas_table a1)),(4,.ref 0 0 0),(6,.nils),(7,vi x1),(8,.ref 1 0 0),(9,vi (-1)),(10,vi (-(gI x2.2 a2)))],[.box [vi 0,.nils],.box (c_farkas_row x2)]⟩ (pn o4 pe) (then_n (?_))
        exact ⟨(-1),-(gI x2.2 a2),h,wk_ghosts hk (l := [.keep [1,2,4,6,7,8,9,10]]) (by kernel_rfl)⟩
      · replace h := h.2 (of_decide_eq_false hb)
        refine awp_skip (then_n (?_))
        exact ⟨1,gI x2.2 a2,h,wk_ghosts hk (l := [.keep [1,2,4,6,7,8,9,10]]) (by kernel_rfl)⟩
    · rintro s' ⟨x3,x4,hx5,hw5⟩
      have h := hB5 x3 x4 hx5
      refine spine_c (awp_wk hw5 (awp_spine (rc [1,2,4,6,7,8,9,10,39,40,41] [] [] [] ⟨160,[(1,vi a2),(2,.er (c_farkas_table a1)),(4,.ref 0 0 0),(6,.nils),(7,vi x1),(8,.ref 1 0 0),(9,vi x3),(10,vi x4),(39,.d (.sl t_farkas_row) a1.2),(40,vi (a1.2.length:Int)),(41,vi 0)],[.box [vi 0,.nils],.box (c_farkas_row x2)]⟩ (pe) (tc ((awp_len 2 [1] (T := t_farkas_row) (l := a1.2) (by kernel_rfl) fun hl => ?_))))))
      replace h := h hl
      obtain ⟨I12,⟨n12a,hz12⟩,hI12⟩ := h
      refine awp_block (awp_loopN (fun n s => ∃ (x8:Int) (x9 : (List farkas_row)),I12 n x8 x9 ∧ s = ⟨160,[(1,vi a2),(2,.er (c_farkas_table a1)),(4,.ref 0 0 0),(6,.osl 2 0),(7,vi x1),(8,.ref 1 0 0),(9,vi x3),(10,vi x4),(39,.d (.sl t_farkas_row) a1.2),(40,vi (a1.2.length:Int)),(41,vi x8)],[.box [vi 0,.nils],.box (c_farkas_row x2),.row t_farkas_row x9 0]⟩) (n := n12a) (s0 := ⟨160,[(1,vi a2),(2,.er (c_farkas_table a1)),(4,.ref 0 0 0),(6,.osl 2 0),(7,vi x1),(8,.ref 1 0 0),(9,vi x3),(10,vi x4),(39,.d (.sl t_farkas_row) a1.2),(40,vi (a1.2.length:Int)),(41,vi 0)],[.box [vi 0,.nils],.box (c_farkas_row x2),.row t_farkas_row ([] : List farkas_row) 0]⟩) (wk_ghosts hk (l := [.keep [1,2,4,6,7,8,9,10,39,40,41],.adopt 6 t_farkas_row,.keep [1,2,4,6,7,8,9,10,39,40,41]]) (by kernel_rfl)) ⟨0,([] : List farkas_row),hz12,rfl⟩ ?_)
      rintro n12 s ⟨x8,x9,hx12,rfl⟩
      have h := hI12 n12 x8 x9 hx12
      refine awp_spine (rc [1,2,4,6,7,8,9,10,39,40,41,42] [] [] [] ⟨160,[(1,vi a2),(2,.er (c_farkas_table a1)),(4,.ref 0 0 0),(6,.osl 2 0),(7,vi x1),(8,.ref 1 0 0),(9,vi x3),(10,vi x4),(39,.d (.sl t_farkas_row) a1.2),(40,vi (a1.2.length:Int)),(41,vi x8),(42,vb (decide (x8 < (a1.2.length:Int))))],[.box [vi 0,.nils],.box (c_farkas_row x2),.row t_farkas_row x9 0]⟩ (pe) (tc ((awp_spine (awp_cond (b := decide (x8 < (a1.2.length:Int))) (by kernel_rfl) (fun hb => ?_) (fun hb => ?_))))))
      · replace h := h.1 (of_decide_eq_true hb)
        obtain ⟨o5,h⟩ := h
        refine awp_skip (tc ((awp_spine (awp_block (awp_spine (rc [1,2,4,6,7,8,9,10,11,12,39,40,41] [] [] [] ⟨160,[(1,vi a2),(2,.er (c_farkas_table a1)),(4,.ref 0 0 0),(6,.osl 2 0),(7,vi x1),(8,.ref 1 0 0),(9,vi x3),(10,vi x4),(11,vi x8),(12,.ref 3 0 0),(39,.d (.sl t_farkas_row) a1.2),(40,vi (a1.2.length:Int)),(41,vi x8)],[.box [vi 0,.nils],.box (c_farkas_row x2),.row t_farkas_row x9 0,.box (c_farkas_row (a1.2.getD (Int.toNat x8) d_farkas_row))]⟩ (pn o5 pe) (tc ((awp_abs (fun (x13 : farkas_row) => ⟨160,[(1,vi a2),(2,.er (c_farkas_table a1)),(4,.ref 0 0 0),(6,.osl 2 0),(7,vi x1),(8,.ref 1 0 0),(9,vi x3),(10,vi x4),(11,vi x8),(12,.ref 3 0 0),(39,.d (.sl t_farkas_row) a1.2),(40,vi (a1.2.length:Int)),(41,vi x8)],[.box [vi 0,.nils],.box (c_farkas_row x2),.row t_farkas_row x9 0,.box (c_farkas_row x13)]⟩) (a1.2.getD (Int.toNat x8) d_farkas_row) ?_)))))))))
        intro x13 hx13
        replace h := h x13 hx13
        refine awp_block (awp_spine (rc [1,2,4,6,7,8,9,10,12,39,40,41,66] [] [] [] ⟨160,[(1,vi a2),(2,.er (c_farkas_table a1)),(4,.ref 0 0 0),(6,.osl 2 0),(7,vi x1),(8,.ref 1 0 0),(9,vi x3),(10,vi x4),(12,.ref 3 0 0),(39,.d (.sl t_farkas_row) a1.2),(40,vi (a1.2.length:Int)),(41,vi x8),(66,vb (x8 == x1))],[.box [vi 0,.nils],.box (c_farkas_row x2),.row t_farkas_row x9 0,.box (c_farkas_row x13)]⟩ (pe) (tc ((awp_cond (b := x8 == x1) (by kernel_rfl) (fun hb => ?_) (fun hb => ?_))))))
        · replace h := h.1 (eq_of_beq hb)
          obtain ⟨o6,h⟩ := h
          refine awp_skip (te ((blk_n (te ((blk_n (tc ((rc [1,2,4,6,7,8,9,10,39,40,41] [] [] [] ⟨160,[(1,vi a2),(2,.er (c_farkas_table a1)),(4,.ref 0 0 0),(6,.osl 2 0),(7,vi x1),(8,.ref 1 0 0),(9,vi x3),(10,vi x4),(39,.d (.sl t_farkas_row) a1.2),(40,vi (a1.2.length:Int)),(41,vi (x8 + (1:Int)))],[.box [vi 0,.nils],.box (c_farkas_row x2),.row t_farkas_row x9 0,.box (c_farkas_row x13)]⟩ (pn o6 pe) (te ((te ((te ((then_n (?_)))))))))))))))))
          obtain ⟨m,hm,h⟩ := h
          exact ⟨m,hm,⟨160,[(1,vi a2),(2,.er (c_farkas_table a1)),(4,.ref 0 0 0),(6,.osl 2 0),(7,vi x1),(8,.ref 1 0 0),(9,vi x3),(10,vi x4),(39,.d (.sl t_farkas_row) a1.2),(40,vi (a1.2.length:Int)),(41,vi (x8 + (1:Int)))],[.box [vi 0,.nils],.box (c_farkas_row x2),.row t_farkas_row x9 0]⟩,wk_ghosts hk (l := [.keep [1,2,4,6,7,8,9,10,39,40,41],.cut 3,.keep [1,2,4,6,7,8,9,10,39,40,41]]) (by kernel_rfl),x8 + (1:Int),x9,h,rfl⟩
        · replace h := h.2 (ne_of_beq_false hb)
          obtain ⟨o7,h⟩ := h
          refine awp_spine (rc [1,2,4,6,7,8,9,10,12,39,40,41,70] [] [] [] ⟨160,[(1,vi a2),(2,.er (c_farkas_table a1)),(4,.ref 0 0 0),(6,.osl 2 0),(7,vi x1),(8,.ref 1 0 0),(9,vi x3),(10,vi x4),(12,.ref 3 0 0),(39,.d (.sl t_farkas_row) a1.2),(40,vi (a1.2.length:Int)),(41,vi x8),(70,vb ((gI x13.2 a2) == (0:Int)))],[.box [vi 0,.nils],.box (c_farkas_row x2),.row t_farkas_row x9 0,.box (c_farkas_row x13)]⟩ (pn o7 pe) (tc ((awp_cond (b := (gI x13.2 a2) == (0:Int)) (by kernel_rfl) (fun hb => ?_) (fun hb => ?_)))))
          · replace h := h.1 (eq_of_beq hb)
            obtain ⟨o8,h⟩ := h
            obtain ⟨o9,h⟩ := h
            refine rc [1,2,4,6,7,8,9,10,39,40,41] [] [] [2] ⟨160,[(1,vi a2),(2,.er (c_farkas_table a1)),(4,.ref 0 0 0),(6,.osl 2 1),(7,vi x1),(8,.ref 1 0 0),(9,vi x3),(10,vi x4),(39,.d (.sl t_farkas_row) a1.2),(40,vi (a1.2.length:Int)),(41,vi x8)],[.box [vi 0,.nils],.box (c_farkas_row x2),.row t_farkas_row (x9 ++ [x13]) 1,.box (c_farkas_row x13)]⟩ (pn (by decide : 1 * 2 ≤ 16777216) (pn o8 pe)) (te ((te ((blk_n (te ((blk_n (tc ((rc [1,2,4,6,7,8,9,10,39,40,41] [] [] [] ⟨160,[(1,vi a2),(2,.er (c_farkas_table a1)),(4,.ref 0 0 0),(6,.osl 2 1),(7,vi x1),(8,.ref 1 0 0),(9,vi x3),(10,vi x4),(39,.d (.sl t_farkas_row) a1.2),(40,vi (a1.2.length:Int)),(41,vi (x8 + (1:Int)))],[.box [vi 0,.nils],.box (c_farkas_row x2),.row t_farkas_row (x9 ++ [x13]) 1,.box (c_farkas_row x13)]⟩ (pn o9 pe) (te ((te ((te ((then_n (?_)))))))))))))))))))
            obtain ⟨m,hm,h⟩ := h
            exact ⟨m,hm,⟨160,[(1,vi a2),(2,.er (c_farkas_table a1)),(4,.ref 0 0 0),(6,.osl 2 0),(7,vi x1),(8,.ref 1 0 0),(9,vi x3),(10,vi x4),(39,.d (.sl t_farkas_row) a1.2),(40,vi (a1.2.length:Int)),(41,vi (x8 + (1:Int)))],[.box [vi 0,.nils],.box (c_farkas_row x2),.row t_farkas_row (x9 ++ [x13]) 0]⟩,wk_ghosts hk (l := [.keep [1,2,4,6,7,8,9,10,39,40,41],.cut 3,.reset 2,.keep [1,2,4,6,7,8,9,10,39,40,41]]) (by kernel_rfl),x8 + (1:Int),x9 ++ [x13],h,rfl⟩
          · replace h := h.2 (ne_of_beq_false hb)
            obtain ⟨o10,o11,o12,o13,o14,h⟩ := h
            refine dr hk [1,2,4,6,7,8,9,10,39,40,41] [] [16] [18] ⟨[[],[],[1],[],[3],[],[],[6],[],[8],[],[8,9,10],[8,9,10,11],[6,7,8,9,10,11,12],[],[14],[3,4,5,6,7,8,9,10,11,12,13,14,15],[1,2,3,4,5,6,7,8,9,10,11,12,13,14,15,16],[1,2,3,4,5,6,7,8,9,10,11,12,13,14,15,16,17],(lr 19),(lr 20)],[.osl 2 0,.ref 3 0 0,vb x13.1,.ref 3 0 1,vs x13.2,vi x4,vi x3,vi (-x3),.ref 3 0 1,vs x13.2,vi a2,.er [vi (gI x13.2 a2)],vi (gI x13.2 a2),vi ((-x3) * (gI x13.2 a2)),.ref 1 0 1,vs x2.2,vs (farkas_vector_int_sum.fn x13.2 x4 ((-x3) * (gI x13.2 a2)) x2.2),.agg [vb x13.1,vs (farkas_vector_int_sum.fn x13.2 x4 ((-x3) * (gI x13.2 a2)) x2.2)],.d (.sl t_farkas_row) [(x13.1,farkas_vector_int_sum.fn x13.2 x4 ((-x3) * (gI x13.2 a2)) x2.2)],.osl 2 1,.osl 2 1],_,[19],[([],[.box [vi 0,.nils],.box (c_farkas_row x2),.row t_farkas_row x9 0,.box (c_farkas_row x13)]),([19],[.box [vi 0,.nils],.box (c_farkas_row x2),.row t_farkas_row (x9 ++ [(x13.1,farkas_vector_int_sum.fn x13.2 x4 ((-x3) * (gI x13.2 a2)) x2.2)]) 1,.box (c_farkas_row x13)])],[],[]⟩ ⟨160,[(1,vi a2),(2,.er (c_farkas_table a1)),(4,.ref 0 0 0),(6,.osl 2 1),(7,vi x1),(8,.ref 1 0 0),(9,vi x3),(10,vi x4),(39,.d (.sl t_farkas_row) a1.2),(40,vi (a1.2.length:Int)),(41,vi x8)],[.box [vi 0,.nils],.box (c_farkas_row x2),.row t_farkas_row (x9 ++ [(x13.1,farkas_vector_int_sum.fn x13.2 x4 ((-x3) * (gI x13.2 a2)) x2.2)]) 1,.box (c_farkas_row x13)]⟩ (.n (.n (.n (.n (.n (.n (.n (.s o10 (.n (.n (.n (.s o11 (.n (.s o12 (.n (.n (.s (ok_farkas_vector_int_sum x13.2 x4 ((-x3) * (gI x13.2 a2)) x2.2 (o13)) (.n (.s (by decide : 1 * 2 ≤ 16777216) (.s o14 (.n AllO.e))))))))))))))))))))) (te ((te ((blk_n (te ((blk_n (tc ((awp_abs (fun (x14 : (List farkas_row)) => ⟨160,[(1,vi a2),(2,.er (c_farkas_table a1)),(4,.ref 0 0 0),(6,.osl 2 1),(7,vi x1),(8,.ref 1 0 0),(9,vi x3),(10,vi x4),(39,.d (.sl t_farkas_row) a1.2),(40,vi (a1.2.length:Int)),(41,vi x8)],[.box [vi 0,.nils],.box (c_farkas_row x2),.row t_farkas_row x14 1,.box (c_farkas_row x13)]⟩) (x9 ++ [(x13.1,farkas_vector_int_sum.fn x13.2 x4 ((-x3) * (gI x13.2 a2)) x2.2)]) ?_)))))))))))
            intro x14 hx14
            replace h := h x14 hx14
            obtain ⟨o15,h⟩ := h
            refine rc [1,2,4,6,7,8,9,10,39,40,41] [] [] [] ⟨160,[(1,vi a2),(2,.er (c_farkas_table a1)),(4,.ref 0 0 0),(6,.osl 2 1),(7,vi x1),(8,.ref 1 0 0),(9,vi x3),(10,vi x4),(39,.d (.sl t_farkas_row) a1.2),(40,vi (a1.2.length:Int)),(41,vi (x8 + (1:Int)))],[.box [vi 0,.nils],.box (c_farkas_row x2),.row t_farkas_row x14 1,.box (c_farkas_row x13)]⟩ (pn o15 pe) (te ((te ((te ((then_n (?_))))))))
            obtain ⟨m,hm,h⟩ := h
            exact ⟨m,hm,⟨160,[(1,vi a2),(2,.er (c_farkas_table a1)),(4,.ref 0 0 0),(6,.osl 2 0),(7,vi x1),(8,.ref 1 0 0),(9,vi x3),(10,vi x4),(39,.d (.sl t_farkas_row) a1.2),(40,vi (a1.2.length:Int)),(41,vi (x8 + (1:Int)))],[.box [vi 0,.nils],.box (c_farkas_row x2),.row t_farkas_row x14 0]⟩,wk_ghosts hk (l := [.keep [1,2,4,6,7,8,9,10,39,40,41],.cut 3,.reset 2,.keep [1,2,4,6,7,8,9,10,39,40,41]]) (by kernel_rfl),x8 + (1:Int),x14,h,rfl⟩
      · replace h := h.2 (of_decide_eq_false hb)
        obtain ⟨o16,h⟩ := h
        refine awp_exit (then_x (then_x (then_x (blk_h (tc ((awp_spine (awp_gh hk [.freeze 2,.keep [1,2,4,6,7,8,9,10,39,40,41,42]] ⟨160,[(1,vi a2),(2,.er (c_farkas_table a1)),(4,.ref 0 0 0),(6,.d (.sl t_farkas_row) x9),(7,vi x1),(8,.ref 1 0 0),(9,vi x3),(10,vi x4),(39,.d (.sl t_farkas_row) a1.2),(40,vi (a1.2.length:Int)),(41,vi x8),(42,vb (decide (x8 < (a1.2.length:Int))))],[.box [vi 0,.nils],.box (c_farkas_row x2),.dead]⟩ (by kernel_rfl) (rc [4,5] [] [(2,.dat (.tup [.agg (c_farkas_table ((farkas_table_kept.fn a1 x9).1)),vi ((farkas_table_kept.fn a1 x9).2)]))] [] ⟨160,[(4,.ref 0 0 0),(5,vi ((farkas_table_kept.fn a1 x9).2))],[.box (c_farkas_table ((farkas_table_kept.fn a1 x9).1)),.box (c_farkas_row x2),.dead]⟩ (pn (ok_farkas_table_kept a1 x9 (o16)) pe) (tc ((awp_abs (fun (x15 : farkas_table × Int) => ⟨160,[(4,.ref 0 0 0),(5,vi x15.2)],[.box (c_farkas_table x15.1),.box (c_farkas_row x2),.dead]⟩) (farkas_table_kept.fn a1 x9) ?_))))))))))))
        intro x15 hx15
        replace h := h x15 hx15
        refine awp_abs (fun (x16:Int) => ⟨160,[(4,.ref 0 0 0),(5,vi x15.2)],[.box [vi x16,.d (.sl t_farkas_row) x15.1.2],.box (c_farkas_row x2),.dead]⟩) (x15.1.1) ?_
        intro x16 hx16
        replace h := h x16 hx16
        refine awp_abs (fun (x17 : (List farkas_row)) => ⟨160,[(4,.ref 0 0 0),(5,vi x15.2)],[.box [vi x16,.d (.sl t_farkas_row) x17],.box (c_farkas_row x2),.dead]⟩) (x15.1.2) ?_
        intro x17 hx17
        replace h := h x17 hx17
        refine awp_ret (tr (tr (tr (tr (tr (tr (tr (tr (tr (?_))))))))))
        exact re hk (.tup [.agg (c_farkas_table (((x16,x17),x15.2).1)),vi (((x16,x17),x15.2).2)]) [.keep [4,5]] ⟨160,[(4,.ref 0 0 0),(5,vi x15.2)],[.box [vi x16,.d (.sl t_farkas_row) x17],.box (c_farkas_row x2),.dead]⟩ ⟨((x16,x17),x15.2),rfl,rfl,h⟩
  · replace h := h.2 (of_decide_eq_false hb)
    refine awp_skip (te ((tc ((awp_spine (rc [1,2,4,6,88,89,90] [] [] [] ⟨160,[(1,vi a2),(2,.er (c_farkas_table a1)),(4,.ref 0 0 0),(6,.nils),(88,.d (.sl t_farkas_row) a1.2),(89,vi (a1.2.length:Int)),(90,vi 0)],[.box [vi 0,.nils]]⟩ (pe) (tc ((awp_len 2 [1] (T := t_farkas_row) (l := a1.2) (by kernel_rfl) fun hl => ?_)))))))))
    replace h := h hl
    obtain ⟨I24,⟨n24a,hz24⟩,hI24⟩ := h
    refine awp_block (awp_loopN (fun n s => ∃ (x20:Int) (x21 : (List farkas_row)),I24 n x20 x21 ∧ s = ⟨160,[(1,vi a2),(2,.er (c_farkas_table a1)),(4,.ref 0 0 0),(6,.osl 1 0),(88,.d (.sl t_farkas_row) a1.2),(89,vi (a1.2.length:Int)),(90,vi x20)],[.box [vi 0,.nils],.row t_farkas_row x21 0]⟩) (n := n24a) (s0 := ⟨160,[(1,vi a2),(2,.er (c_farkas_table a1)),(4,.ref 0 0 0),(6,.osl 1 0),(88,.d (.sl t_farkas_row) a1.2),(89,vi (a1.2.length:Int)),(90,vi 0)],[.box [vi 0,.nils],.row t_farkas_row ([] : List farkas_row) 0]⟩) (wk_ghosts hk (l := [.keep [1,2,4,6,88,89,90],.adopt 6 t_farkas_row,.keep [1,2,4,6,88,89,90]]) (by kernel_rfl)) ⟨0,([] : List farkas_row),hz24,rfl⟩ ?_)
    rintro n24 s ⟨x20,x21,hx24,rfl⟩
    have h := hI24 n24 x20 x21 hx24
    refine awp_spine (rc [1,2,4,6,88,89,90,91] [] [] [] ⟨160,[(1,vi a2),(2,.er (c_farkas_table a1)),(4,.ref 0 0 0),(6,.osl 1 0),(88,.d (.sl t_farkas_row) a1.2),(89,vi (a1.2.length:Int)),(90,vi x20),(91,vb (decide (x20 < (a1.2.length:Int))))],[.box [vi 0,.nils],.row t_farkas_row x21 0]⟩ (pe) (tc ((awp_spine (awp_cond (b := decide (x20 < (a1.2.length:Int))) (by kernel_rfl) (fun hb => ?_) (fun hb => ?_))))))
    · replace h := h.1 (of_decide_eq_true hb)
      obtain ⟨o17,h⟩ := h
      refine awp_skip (tc ((awp_spine (awp_block (awp_spine (rc [1,2,4,6,14,88,89,90] [] [] [] ⟨160,[(1,vi a2),(2,.er (c_farkas_table a1)),(4,.ref 0 0 0),(6,.osl 1 0),(14,.ref 2 0 0),(88,.d (.sl t_farkas_row) a1.2),(89,vi (a1.2.length:Int)),(90,vi x20)],[.box [vi 0,.nils],.row t_farkas_row x21 0,.box (c_farkas_row (a1.2.getD (Int.toNat x20) d_farkas_row))]⟩ (pn o17 pe) (tc ((awp_abs (fun (x25 : farkas_row) => ⟨160,[(1,vi a2),(2,.er (c_farkas_table a1)),(4,.ref 0 0 0),(6,.osl 1 0),(14,.ref 2 0 0),(88,.d (.sl t_farkas_row) a1.2),(89,vi (a1.2.length:Int)),(90,vi x20)],[.box [vi 0,.nils],.row t_farkas_row x21 0,.box (c_farkas_row x25)]⟩) (a1.2.getD (Int.toNat x20) d_farkas_row) ?_)))))))))
      intro x25 hx25
      replace h := h x25 hx25
      obtain ⟨o18,h⟩ := h
      refine awp_spine (rc [1,2,4,6,14,88,89,90,99] [] [] [] ⟨160,[(1,vi a2),(2,.er (c_farkas_table a1)),(4,.ref 0 0 0),(6,.osl 1 0),(14,.ref 2 0 0),(88,.d (.sl t_farkas_row) a1.2),(89,vi (a1.2.length:Int)),(90,vi x20),(99,vb ((gI x25.2 a2) == (0:Int)))],[.box [vi 0,.nils],.row t_farkas_row x21 0,.box (c_farkas_row x25)]⟩ (pn o18 pe) (tc ((awp_cond (b := (gI x25.2 a2) == (0:Int)) (by kernel_rfl) (fun hb => ?_) (fun hb => ?_)))))
      · replace h := h.1 (eq_of_beq hb)
        obtain ⟨o19,h⟩ := h
        obtain ⟨o20,h⟩ := h
        refine rc [1,2,4,6,88,89,90] [] [] [2] ⟨160,[(1,vi a2),(2,.er (c_farkas_table a1)),(4,.ref 0 0 0),(6,.osl 1 1),(88,.d (.sl t_farkas_row) a1.2),(89,vi (a1.2.length:Int)),(90,vi x20)],[.box [vi 0,.nils],.row t_farkas_row (x21 ++ [x25]) 1,.box (c_farkas_row x25)]⟩ (pn (by decide : 1 * 2 ≤ 16777216) (pn o19 pe)) (te ((te ((blk_n (tc ((rc [1,2,4,6,88,89,90] [] [] [] ⟨160,[(1,vi a2),(2,.er (c_farkas_table a1)),(4,.ref 0 0 0),(6,.osl 1 1),(88,.d (.sl t_farkas_row) a1.2),(89,vi (a1.2.length:Int)),(90,vi (x20 + (1:Int)))],[.box [vi 0,.nils],.row t_farkas_row (x21 ++ [x25]) 1,.box (c_farkas_row x25)]⟩ (pn o20 pe) (te ((te ((te ((then_n (?_))))))))))))))))
        obtain ⟨m,hm,h⟩ := h
        exact ⟨m,hm,⟨160,[(1,vi a2),(2,.er (c_farkas_table a1)),(4,.ref 0 0 0),(6,.osl 1 0),(88,.d (.sl t_farkas_row) a1.2),(89,vi (a1.2.length:Int)),(90,vi (x20 + (1:Int)))],[.box [vi 0,.nils],.row t_farkas_row (x21 ++ [x25]) 0]⟩,wk_ghosts hk (l := [.keep [1,2,4,6,88,89,90],.cut 2,.reset 1,.keep [1,2,4,6,88,89,90]]) (by kernel_rfl),x20 + (1:Int),x21 ++ [x25],h,rfl⟩
      · replace h := h.2 (ne_of_beq_false hb)
        obtain ⟨o21,h⟩ := h
        refine awp_skip (te ((te ((blk_n (tc ((rc [1,2,4,6,88,89,90] [] [] [] ⟨160,[(1,vi a2),(2,.er (c_farkas_table a1)),(4,.ref 0 0 0),(6,.osl 1 0),(88,.d (.sl t_farkas_row) a1.2),(89,vi (a1.2.length:Int)),(90,vi (x20 + (1:Int)))],[.box [vi 0,.nils],.row t_farkas_row x21 0,.box (c_farkas_row x25)]⟩ (pn o21 pe) (te ((te ((te ((then_n (?_))))))))))))))))
        obtain ⟨m,hm,h⟩ := h
        exact ⟨m,hm,⟨160,[(1,vi a2),(2,.er (c_farkas_table a1)),(4,.ref 0 0 0),(6,.osl 1 0),(88,.d (.sl t_farkas_row) a1.2),(89,vi (a1.2.length:Int)),(90,vi (x20 + (1:Int)))],[.box [vi 0,.nils],.row t_farkas_row x21 0]⟩,wk_ghosts hk (l := [.keep [1,2,4,6,88,89,90],.cut 2,.keep [1,2,4,6,88,89,90]]) (by kernel_rfl),x20 + (1:Int),x21,h,rfl⟩
    · replace h := h.2 (of_decide_eq_false hb)
      refine awp_exit (then_x (then_x (then_x (blk_h (tc ((awp_spine (rc [1,2,4,6,106,107,108] [] [] [] ⟨160,[(1,vi a2),(2,.er (c_farkas_table a1)),(4,.ref 0 0 0),(6,.osl 1 0),(106,.d (.sl t_farkas_row) a1.2),(107,vi (a1.2.length:Int)),(108,vi 0)],[.box [vi 0,.nils],.row t_farkas_row x21 0]⟩ (pe) (tc ((awp_len 2 [1] (T := t_farkas_row) (l := a1.2) (by kernel_rfl) fun hl => ?_)))))))))))
      replace h := h hl
      obtain ⟨I32,⟨n32a,hz32⟩,hI32⟩ := h
      refine awp_block (awp_loopN (fun n s => ∃ (x28:Int) (x29 : (List farkas_row)),I32 n x28 x29 ∧ s = ⟨160,[(1,vi a2),(2,.er (c_farkas_table a1)),(4,.ref 0 0 0),(6,.osl 1 0),(106,.d (.sl t_farkas_row) a1.2),(107,vi (a1.2.length:Int)),(108,vi x28)],[.box [vi 0,.nils],.row t_farkas_row x29 0]⟩) (n := n32a) (s0 := ⟨160,[(1,vi a2),(2,.er (c_farkas_table a1)),(4,.ref 0 0 0),(6,.osl 1 0),(106,.d (.sl t_farkas_row) a1.2),(107,vi (a1.2.length:Int)),(108,vi 0)],[.box [vi 0,.nils],.row t_farkas_row x21 0]⟩) (wk_ghosts hk (l := [.keep [1,2,4,6,106,107,108]]) (by kernel_rfl)) ⟨0,x21,hz32,rfl⟩ ?_)
      rintro n32 s ⟨x28,x29,hx32,rfl⟩
      have h := hI32 n32 x28 x29 hx32
      refine awp_spine (rc [1,2,4,6,106,107,108,109] [] [] [] ⟨160,[(1,vi a2),(2,.er (c_farkas_table a1)),(4,.ref 0 0 0),(6,.osl 1 0),(106,.d (.sl t_farkas_row) a1.2),(107,vi (a1.2.length:Int)),(108,vi x28),(109,vb (decide (x28 < (a1.2.length:Int))))],[.box [vi 0,.nils],.row t_farkas_row x29 0]⟩ (pe) (tc ((awp_spine (awp_cond (b := decide (x28 < (a1.2.length:Int))) (by kernel_rfl) (fun hb => ?_) (fun hb => ?_))))))
      · replace h := h.1 (of_decide_eq_true hb)
        obtain ⟨o22,h⟩ := h
        refine awp_skip (tc ((awp_spine (awp_block (awp_spine (rc [1,2,4,6,16,106,107,108] [] [] [] ⟨160,[(1,vi a2),(2,.er (c_farkas_table a1)),(4,.ref 0 0 0),(6,.osl 1 0),(16,.ref 2 0 0),(106,.d (.sl t_farkas_row) a1.2),(107,vi (a1.2.length:Int)),(108,vi x28)],[.box [vi 0,.nils],.row t_farkas_row x29 0,.box (c_farkas_row (a1.2.getD (Int.toNat x28) d_farkas_row))]⟩ (pn o22 pe) (tc ((awp_abs (fun (x33 : farkas_row) => ⟨160,[(1,vi a2),(2,.er (c_farkas_table a1)),(4,.ref 0 0 0),(6,.osl 1 0),(16,.ref 2 0 0),(106,.d (.sl t_farkas_row) a1.2),(107,vi (a1.2.length:Int)),(108,vi x28)],[.box [vi 0,.nils],.row t_farkas_row x29 0,.box (c_farkas_row x33)]⟩) (a1.2.getD (Int.toNat x28) d_farkas_row) ?_)))))))))
        intro x33 hx33
        replace h := h x33 hx33
        refine awp_spine (rc [1,2,4,6,16,106,107,108,113,114,115] [] [] [] ⟨160,[(1,vi a2),(2,.er (c_farkas_table a1)),(4,.ref 0 0 0),(6,.osl 1 0),(16,.ref 2 0 0),(106,.d (.sl t_farkas_row) a1.2),(107,vi (a1.2.length:Int)),(108,vi x28),(113,.d (.sl t_farkas_row) a1.2),(114,vi (a1.2.length:Int)),(115,vi 0)],[.box [vi 0,.nils],.row t_farkas_row x29 0,.box (c_farkas_row x33)]⟩ (pe) (tc ((awp_len 2 [1] (T := t_farkas_row) (l := a1.2) (by kernel_rfl) fun hl => ?_))))
        replace h := h hl
        obtain ⟨I40,⟨n40a,hz40⟩,hI40⟩ := h
        refine awp_block (awp_loopN (fun n s => ∃ (x36:Int) (x37 : (List farkas_row)),I40 n x36 x37 ∧ s = ⟨160,[(1,vi a2),(2,.er (c_farkas_table a1)),(4,.ref 0 0 0),(6,.osl 1 0),(16,.ref 2 0 0),(106,.d (.sl t_farkas_row) a1.2),(107,vi (a1.2.length:Int)),(108,vi x28),(113,.d (.sl t_farkas_row) a1.2),(114,vi (a1.2.length:Int)),(115,vi x36)],[.box [vi 0,.nils],.row t_farkas_row x37 0,.box (c_farkas_row x33)]⟩) (n := n40a) (s0 := ⟨160,[(1,vi a2),(2,.er (c_farkas_table a1)),(4,.ref 0 0 0),(6,.osl 1 0),(16,.ref 2 0 0),(106,.d (.sl t_farkas_row) a1.2),(107,vi (a1.2.length:Int)),(108,vi x28),(113,.d (.sl t_farkas_row) a1.2),(114,vi (a1.2.length:Int)),(115,vi 0)],[.box [vi 0,.nils],.row t_farkas_row x29 0,.box (c_farkas_row x33)]⟩) (wk_ghosts hk (l := [.keep [1,2,4,6,16,106,107,108,113,114,115]]) (by kernel_rfl)) ⟨0,x29,hz40,rfl⟩ ?_)
        rintro n40 s ⟨x36,x37,hx40,rfl⟩
        have h := hI40 n40 x36 x37 hx40
        refine awp_spine (rc [1,2,4,6,16,106,107,108,113,114,115,116] [] [] [] ⟨160,[(1,vi a2),(2,.er (c_farkas_table a1)),(4,.ref 0 0 0),(6,.osl 1 0),(16,.ref 2 0 0),(106,.d (.sl t_farkas_row) a1.2),(107,vi (a1.2.length:Int)),(108,vi x28),(113,.d (.sl t_farkas_row) a1.2),(114,vi (a1.2.length:Int)),(115,vi x36),(116,vb (decide (x36 < (a1.2.length:Int))))],[.box [vi 0,.nils],.row t_farkas_row x37 0,.box (c_farkas_row x33)]⟩ (pe) (tc ((awp_spine (awp_cond (b := decide (x36 < (a1.2.length:Int))) (by kernel_rfl) (fun hb => ?_) (fun hb => ?_))))))
        · replace h := h.1 (of_decide_eq_true hb)
          obtain ⟨o23,h⟩ := h
          refine awp_skip (tc ((awp_spine (awp_block (awp_spine (rc [1,2,4,6,16,18,106,107,108,113,114,115] [] [] [] ⟨160,[(1,vi a2),(2,.er (c_farkas_table a1)),(4,.ref 0 0 0),(6,.osl 1 0),(16,.ref 2 0 0),(18,.ref 3 0 0),(106,.d (.sl t_farkas_row) a1.2),(107,vi (a1.2.length:Int)),(108,vi x28),(113,.d (.sl t_farkas_row) a1.2),(114,vi (a1.2.length:Int)),(115,vi x36)],[.box [vi 0,.nils],.row t_farkas_row x37 0,.box (c_farkas_row x33),.box (c_farkas_row (a1.2.getD (Int.toNat x36) d_farkas_row))]⟩ (pn o23 pe) (tc ((awp_abs (fun (x41 : farkas_row) => ⟨160,[(1,vi a2),(2,.er (c_farkas_table a1)),(4,.ref 0 0 0),(6,.osl 1 0),(16,.ref 2 0 0),(18,.ref 3 0 0),(106,.d (.sl t_farkas_row) a1.2),(107,vi (a1.2.length:Int)),(108,vi x28),(113,.d (.sl t_farkas_row) a1.2),(114,vi (a1.2.length:Int)),(115,vi x36)],[.box [vi 0,.nils],.row t_farkas_row x37 0,.box (c_farkas_row x33),.box (c_farkas_row x41)]⟩) (a1.2.getD (Int.toNat x36) d_farkas_row) ?_)))))))))
          intro x41 hx41
          replace h := h x41 hx41
          obtain ⟨o24,o25,h⟩ := h
          refine awp_spine (rc [1,2,4,6,16,18,106,107,108,113,114,115,132] [] [] [] ⟨160,[(1,vi a2),(2,.er (c_farkas_table a1)),(4,.ref 0 0 0),(6,.osl 1 0),(16,.ref 2 0 0),(18,.ref 3 0 0),(106,.d (.sl t_farkas_row) a1.2),(107,vi (a1.2.length:Int)),(108,vi x28),(113,.d (.sl t_farkas_row) a1.2),(114,vi (a1.2.length:Int)),(115,vi x36),(132,vb ((decide ((gI x33.2 a2) > (0:Int))) && (decide ((gI x41.2 a2) < (0:Int)))))],[.box [vi 0,.nils],.row t_farkas_row x37 0,.box (c_farkas_row x33),.box (c_farkas_row x41)]⟩ (pn o24 (pn (fun hg => ⟨hg,trivial⟩ : (decide ((gI x33.2 a2) > (0:Int))) = true → (decide ((gI x33.2 a2) > (0:Int))) = true ∧ True) (pn (fun hg => ⟨hg,hg,(o25 hg)⟩ : (decide ((gI x33.2 a2) > (0:Int))) = true → (decide ((gI x33.2 a2) > (0:Int))) = true ∧ ((decide ((gI x33.2 a2) > (0:Int))) = true ∧ ((0:Int) ≤ a2 ∧ a2 < (x41.2.length:Int)))) (pn (fun hg => ⟨hg,trivial⟩ : (decide ((gI x33.2 a2) > (0:Int))) = true → (decide ((gI x33.2 a2) > (0:Int))) = true ∧ True) (pn (fun hg => ⟨hg,trivial⟩ : (decide ((gI x33.2 a2) > (0:Int))) = true → (decide ((gI x33.2 a2) > (0:Int))) = true ∧ True) (pn (fun hc => hc : (decide ((gI x33.2 a2) > (0:Int))) = true → (decide ((gI x33.2 a2) > (0:Int))) = true) pe)))))) (tc ((awp_cond (b := (decide ((gI x33.2 a2) > (0:Int))) && (decide ((gI x41.2 a2) < (0:Int)))) (by kernel_rfl) (fun hb => ?_) (fun hb => ?_)))))
          · replace h := h.1 (hb)
            obtain ⟨o26,o27,o28,o29,o30,h⟩ := h
            refine dr hk [1,2,4,6,16,106,107,108,113,114,115] [] [16] [18] ⟨[[],[],[1],[],[3],[],[3,4,5],[3,4,5,6],[3,4,5,6,7],[],[9],[],[9,10,11],[9,10,11,12],[],[14],[1,2,3,4,5,6,7,8,9,10,11,12,13,14,15],[1,2,3,4,5,6,7,8,9,10,11,12,13,14,15,16],[1,2,3,4,5,6,7,8,9,10,11,12,13,14,15,16,17],(lr 19),(lr 20)],[.osl 1 0,.ref 2 0 1,vs x33.2,.ref 3 0 1,vs x41.2,vi a2,.er [vi (gI x41.2 a2)],vi (gI x41.2 a2),vi (-(gI x41.2 a2)),.ref 2 0 1,vs x33.2,vi a2,.er [vi (gI x33.2 a2)],vi (gI x33.2 a2),.ref 3 0 1,vs x41.2,vs (farkas_vector_int_sum.fn x33.2 (-(gI x41.2 a2)) (gI x33.2 a2) x41.2),.agg [vb false,vs (farkas_vector_int_sum.fn x33.2 (-(gI x41.2 a2)) (gI x33.2 a2) x41.2)],.d (.sl t_farkas_row) [(false,farkas_vector_int_sum.fn x33.2 (-(gI x41.2 a2)) (gI x33.2 a2) x41.2)],.osl 1 1,.osl 1 1],_,[19],[([],[.box [vi 0,.nils],.row t_farkas_row x37 0,.box (c_farkas_row x33),.box (c_farkas_row x41)]),([19],[.box [vi 0,.nils],.row t_farkas_row (x37 ++ [(false,farkas_vector_int_sum.fn x33.2 (-(gI x41.2 a2)) (gI x33.2 a2) x41.2)]) 1,.box (c_farkas_row x33),.box (c_farkas_row x41)])],[],[]⟩ ⟨160,[(1,vi a2),(2,.er (c_farkas_table a1)),(4,.ref 0 0 0),(6,.osl 1 1),(16,.ref 2 0 0),(106,.d (.sl t_farkas_row) a1.2),(107,vi (a1.2.length:Int)),(108,vi x28),(113,.d (.sl t_farkas_row) a1.2),(114,vi (a1.2.length:Int)),(115,vi x36)],[.box [vi 0,.nils],.row t_farkas_row (x37 ++ [(false,farkas_vector_int_sum.fn x33.2 (-(gI x41.2 a2)) (gI x33.2 a2) x41.2)]) 1,.box (c_farkas_row x33),.box (c_farkas_row x41)]⟩ (.n (.n (.n (.n (.n (.n (.s o26 (.n (.s o27 (.n (.n (.n (.s o28 (.n (.n (.n (.s (ok_farkas_vector_int_sum x33.2 (-(gI x41.2 a2)) (gI x33.2 a2) x41.2 (o29)) (.n (.s (by decide : 1 * 2 ≤ 16777216) (.s o30 (.n AllO.e))))))))))))))))))))) (te ((te ((blk_n (tc ((awp_abs (fun (x42 : (List farkas_row)) => ⟨160,[(1,vi a2),(2,.er (c_farkas_table a1)),(4,.ref 0 0 0),(6,.osl 1 1),(16,.ref 2 0 0),(106,.d (.sl t_farkas_row) a1.2),(107,vi (a1.2.length:Int)),(108,vi x28),(113,.d (.sl t_farkas_row) a1.2),(114,vi (a1.2.length:Int)),(115,vi x36)],[.box [vi 0,.nils],.row t_farkas_row x42 1,.box (c_farkas_row x33),.box (c_farkas_row x41)]⟩) (x37 ++ [(false,farkas_vector_int_sum.fn x33.2 (-(gI x41.2 a2)) (gI x33.2 a2) x41.2)]) ?_))))))))
            intro x42 hx42
            replace h := h x42 hx42
            obtain ⟨o31,h⟩ := h
            refine rc [1,2,4,6,16,106,107,108,113,114,115] [] [] [] ⟨160,[(1,vi a2),(2,.er (c_farkas_table a1)),(4,.ref 0 0 0),(6,.osl 1 1),(16,.ref 2 0 0),(106,.d (.sl t_farkas_row) a1.2),(107,vi (a1.2.length:Int)),(108,vi x28),(113,.d (.sl t_farkas_row) a1.2),(114,vi (a1.2.length:Int)),(115,vi (x36 + (1:Int)))],[.box [vi 0,.nils],.row t_farkas_row x42 1,.box (c_farkas_row x33),.box (c_farkas_row x41)]⟩ (pn o31 pe) (te ((te ((te ((then_n (?_))))))))
            obtain ⟨m,hm,h⟩ := h
            exact ⟨m,hm,⟨160,[(1,vi a2),(2,.er (c_farkas_table a1)),(4,.ref 0 0 0),(6,.osl 1 0),(16,.ref 2 0 0),(106,.d (.sl t_farkas_row) a1.2),(107,vi (a1.2.length:Int)),(108,vi x28),(113,.d (.sl t_farkas_row) a1.2),(114,vi (a1.2.length:Int)),(115,vi (x36 + (1:Int)))],[.box [vi 0,.nils],.row t_farkas_row x42 0,.box (c_farkas_row x33)]⟩,wk_ghosts hk (l := [.keep [1,2,4,6,16,106,107,108,113,114,115],.cut 3,.reset 1,.keep [1,2,4,6,16,106,107,108,113,114,115]]) (by kernel_rfl),x36 + (1:Int),x42,h,rfl⟩
          · replace h := h.2 (hb)
            obtain ⟨o32,h⟩ := h
            refine awp_skip (te ((te ((blk_n (tc ((rc [1,2,4,6,16,106,107,108,113,114,115] [] [] [] ⟨160,[(1,vi a2),(2,.er (c_farkas_table a1)),(4,.ref 0 0 0),(6,.osl 1 0),(16,.ref 2 0 0),(106,.d (.sl t_farkas_row) a1.2),(107,vi (a1.2.length:Int)),(108,vi x28),(113,.d (.sl t_farkas_row) a1.2),(114,vi (a1.2.length:Int)),(115,vi (x36 + (1:Int)))],[.box [vi 0,.nils],.row t_farkas_row x37 0,.box (c_farkas_row x33),.box (c_farkas_row x41)]⟩ (pn o32 pe) (te ((te ((te ((then_n (?_))))))))))))))))
            obtain ⟨m,hm,h⟩ := h
            exact ⟨m,hm,⟨160,[(1,vi a2),(2,.er (c_farkas_table a1)),(4,.ref 0 0 0),(6,.osl 1 0),(16,.ref 2 0 0),(106,.d (.sl t_farkas_row) a1.2),(107,vi (a1.2.length:Int)),(108,vi x28),(113,.d (.sl t_farkas_row) a1.2),(114,vi (a1.2.length:Int)),(115,vi (x36 + (1:Int)))],[.box [vi 0,.nils],.row t_farkas_row x37 0,.box (c_farkas_row x33)]⟩,wk_ghosts hk (l := [.keep [1,2,4,6,16,106,107,108,113,114,115],.cut 3,.keep [1,2,4,6,16,106,107,108,113,114,115]]) (by kernel_rfl),x36 + (1:Int),x37,h,rfl⟩
        · replace h := h.2 (of_decide_eq_false hb)
          obtain ⟨o33,h⟩ := h
          refine awp_exit (then_x (then_x (then_x (blk_h (te ((te ((blk_n (tc ((rc [1,2,4,6,106,107,108] [] [] [] ⟨160,[(1,vi a2),(2,.er (c_farkas_table a1)),(4,.ref 0 0 0),(6,.osl 1 0),(106,.d (.sl t_farkas_row) a1.2),(107,vi (a1.2.length:Int)),(108,vi (x28 + (1:Int)))],[.box [vi 0,.nils],.row t_farkas_row x37 0,.box (c_farkas_row x33)]⟩ (pn o33 pe) (te ((te ((te ((then_n (?_))))))))))))))))))))
          obtain ⟨m,hm,h⟩ := h
          exact ⟨m,hm,⟨160,[(1,vi a2),(2,.er (c_farkas_table a1)),(4,.ref 0 0 0),(6,.osl 1 0),(106,.d (.sl t_farkas_row) a1.2),(107,vi (a1.2.length:Int)),(108,vi (x28 + (1:Int)))],[.box [vi 0,.nils],.row t_farkas_row x37 0]⟩,wk_ghosts hk (l := [.keep [1,2,4,6,106,107,108],.cut 2,.keep [1,2,4,6,106,107,108]]) (by kernel_rfl),x28 + (1:Int),x37,h,rfl⟩
      · replace h := h.2 (of_decide_eq_false hb)
        obtain ⟨o34,h⟩ := h
        refine awp_exit (then_x (then_x (then_x (blk_h (tc ((awp_spine (awp_gh hk [.freeze 1,.keep [1,2,4,6,106,107,108,109]] ⟨160,[(1,vi a2),(2,.er (c_farkas_table a1)),(4,.ref 0 0 0),(6,.d (.sl t_farkas_row) x29),(106,.d (.sl t_farkas_row) a1.2),(107,vi (a1.2.length:Int)),(108,vi x28),(109,vb (decide (x28 < (a1.2.length:Int))))],[.box [vi 0,.nils],.dead]⟩ (by kernel_rfl) (rc [4,5] [] [(2,.dat (.tup [.agg (c_farkas_table ((farkas_table_kept.fn a1 x29).1)),vi ((farkas_table_kept.fn a1 x29).2)]))] [] ⟨160,[(4,.ref 0 0 0),(5,vi ((farkas_table_kept.fn a1 x29).2))],[.box (c_farkas_table ((farkas_table_kept.fn a1 x29).1)),.dead]⟩ (pn (ok_farkas_table_kept a1 x29 (o34)) pe) (tc ((awp_abs (fun (x43 : farkas_table × Int) => ⟨160,[(4,.ref 0 0 0),(5,vi x43.2)],[.box (c_farkas_table x43.1),.dead]⟩) (farkas_table_kept.fn a1 x29) ?_))))))))))))
        intro x43 hx43
        replace h := h x43 hx43
        refine awp_abs (fun (x44:Int) => ⟨160,[(4,.ref 0 0 0),(5,vi x44)],[.box (c_farkas_table x43.1),.dead]⟩) (x43.2) ?_
        intro x44 hx44
        replace h := h x44 hx44
        refine awp_abs (fun (x45:Int) => ⟨160,[(4,.ref 0 0 0),(5,vi x44)],[.box [vi x45,.d (.sl t_farkas_row) x43.1.2],.dead]⟩) (x43.1.1) ?_
        intro x45 hx45
        replace h := h x45 hx45
        refine awp_abs (fun (x46 : (List farkas_row)) => ⟨160,[(4,.ref 0 0 0),(5,vi x44)],[.box [vi x45,.d (.sl t_farkas_row) x46],.dead]⟩) (x43.1.2) ?_
        intro x46 hx46
        replace h := h x46 hx46
        refine awp_ret (tr (tr (tr (tr (tr (tr (?_)))))))
        exact re hk (.tup [.agg (c_farkas_table (((x45,x46),x44).1)),vi (((x45,x46),x44).2)]) [.keep [4,5]] ⟨160,[(4,.ref 0 0 0),(5,vi x44)],[.box [vi x45,.d (.sl t_farkas_row) x46],.dead]⟩ ⟨((x45,x46),x44),rfl,rfl,h⟩
theorem ok_farkas_table_without (a1 : farkas_table) (a2:Int) (h : farkas_table_without.pre a1 a2) : OkC prog 56 [.agg (c_farkas_table a1),vi a2] (.tup [.agg (c_farkas_table ((farkas_table_without.fn a1 a2).1)),vi ((farkas_table_without.fn a1 a2).2)]) :=
  OkC.of call_farkas_table_without ((walk_farkas_table_without a1 a2 _ (farkas_table_without.spec a1 a2 h)).mono fun r o ⟨x,hr,ho,hx⟩ => ⟨by rw [hr,hx],ho⟩) rfl rfl (fun _ => rfl)

noncomputable abbrev b26 : Code := bodyOf Try.f26
theorem call_farkas_eliminated : CallOk prog 26 := ⟨_,Try.func26,by kernel_rfl,by kernel_rfl⟩
theorem walk_farkas_eliminated (a1 : (List api_Cond)) (a2:Int) (Q : (List farkas_table) × Int → Prop) (h : farkas_eliminated.wp a1 a2 Q) : VCalls prog 26 [.d (.sl t_api_Cond) a1,vi a2] [] (fun r o => ∃ x,r = .tup [.d (.sl t_farkas_table) x.1,vi x.2] ∧ o = [] ∧ Q x) := by
  refine body Try.func26 (spine (subC [0] b26) [(spine (subC [1,0] b26) [(spine (subC [1,1,0] b26) [(spine (subC [1,1,1,0,0] b26) [(.block 0 (.loop (spine (subC [1,1,1,0,1,0,0,0,0] b26) [(.cond (.tmp 21) .skip (.exit 0)),(spine (.block 1 (spine (subC [1,1,1,0,1,0,0,1,0,0,0] b26) [(spine (subC [1,1,1,0,1,0,0,1,0,0,1,0] b26) [(spine (subC [1,1,1,0,1,0,0,1,0,0,1,1,0] b26) [(.cond (.tmp 38) (spine (subC [1,1,1,0,1,0,0,1,0,0,1,1,1,0,0] b26) [.ret]) .skip)])])])) [(subC [1,1,1,0,1,0,0,1,1] b26)])]))),(spine (subC [1,1,1,1,0] b26) [.ret])])])])]) fun cx hd hi hk => ?_
  show AWp prog cx _ _ ⟨41,[(0,.d (.sl t_api_Cond) a1),(1,vi a2)],[]⟩
  replace hk : cx.E.len = 0 := hk
  unfold farkas_eliminated.wp at h
  obtain ⟨o1,o2,h⟩ := h
  refine awp_spine (rc [0,1] [] [] [] ⟨41,[(0,.d (.sl t_api_Cond) a1),(1,vi a2)],[]⟩ (pe) (tc ((awp_spine (rc [0,1,6] [] [] [] ⟨41,[(0,.d (.sl t_api_Cond) a1),(1,vi a2),(6,.osl 0 0)],[.row t_farkas_table (List.replicate (Int.toNat (a2 + (1:Int))) d_farkas_table) 0]⟩ (pn o1 (pn o2 pe)) (tc ((awp_abs (fun (x1 : (List farkas_table)) => ⟨41,[(0,.d (.sl t_api_Cond) a1),(1,vi a2),(6,.osl 0 0)],[.row t_farkas_table x1 0]⟩) (List.replicate (Int.toNat (a2 + (1:Int))) d_farkas_table) ?_))))))))
  intro x1 hx1
  replace h := h x1 hx1
  obtain ⟨o3,o4,o5,h⟩ := h
  refine awp_spine (rc [1,6] [] [(4,.dat (.agg (c_farkas_table (farkas_first.fn a1 a2))))] [] ⟨41,[(1,vi a2),(6,.osl 0 0)],[.row t_farkas_table (x1.set (Int.toNat a2) (farkas_first.fn a1 a2)) 0]⟩ (pn (ok_farkas_first a1 a2 (o3)) (pn o4 (pn o5 pe))) (tc ((awp_abs (fun (x2 : farkas_table) => ⟨41,[(1,vi a2),(6,.osl 0 0)],[.row t_farkas_table (x1.set (Int.toNat a2) x2) 0]⟩) (farkas_first.fn a1 a2) ?_))))
  intro x2 hx2
  replace h := h x2 hx2
  refine awp_abs (fun (x3 : (List farkas_table)) => ⟨41,[(1,vi a2),(6,.osl 0 0)],[.row t_farkas_table x3 0]⟩) (x1.set (Int.toNat a2) x2) ?_
  intro x3 hx3
  replace h := h x3 hx3
  obtain ⟨o6,h⟩ := h
  obtain ⟨I10,⟨n10a,hz10⟩,hI10⟩ := h
  refine awp_spine (rc [6,7] [] [] [] ⟨41,[(6,.osl 0 0),(7,vi (a2 - (1:Int)))],[.row t_farkas_table x3 0]⟩ (pn o6 pe) (tc ((awp_block (awp_loopN (fun n s => ∃ (x6:Int) (x7 : (List farkas_table)),I10 n x6 x7 ∧ s = ⟨41,[(6,.osl 0 0),(7,vi x6)],[.row t_farkas_table x7 0]⟩) (n := n10a) (s0 := ⟨41,[(6,.osl 0 0),(7,vi (a2 - (1:Int)))],[.row t_farkas_table x3 0]⟩) (wk_ghosts hk (l := [.keep [6,7]]) (by kernel_rfl)) ⟨a2 - (1:Int),x3,hz10,rfl⟩ ?_)))))
  rintro n10 s ⟨x6,x7,hx10,rfl⟩
  have h := hI10 n10 x6 x7 hx10
  refine awp_spine (rc [6,7,21] [] [] [] ⟨41,[(6,.osl 0 0),(7,vi x6),(21,vb (decide (x6 ≥ (0:Int))))],[.row t_farkas_table x7 0]⟩ (pe) (tc ((awp_cond (b := decide (x6 ≥ (0:Int))) (by kernel_rfl) (fun hb => ?_) (fun hb => ?_)))))
  · replace h := h.1 (of_decide_eq_true hb)
    obtain ⟨o7,o8,o9,o10,o11,o12,h⟩ := h
    refine awp_skip (tc ((awp_spine (awp_block (awp_spine (rc [6,7] [] [] [] ⟨41,[(6,.osl 0 0),(7,vi x6)],[.row t_farkas_table x7 0]⟩ (pe) (tc ((awp_spine (rc [6,7,8] [] [(8,.dat (.tup [.agg (c_farkas_table ((farkas_table_without.fn (x7.getD (Int.toNat (x6 + (1:Int))) d_farkas_table) x6).1)),vi ((farkas_table_without.fn (x7.getD (Int.toNat (x6 + (1:Int))) d_farkas_table) x6).2)]))] [] ⟨41,[(6,.osl 0 0),(7,vi x6),(8,vi ((farkas_table_without.fn (x7.getD (Int.toNat (x6 + (1:Int))) d_farkas_table) x6).2))],[.row t_farkas_table (x7.set (Int.toNat x6) ((farkas_table_without.fn (x7.getD (Int.toNat (x6 + (1:Int))) d_farkas_table) x6).1)) 0]⟩ (pn o7 (pn o8 (pn o9 (pn (ok_farkas_table_without (x7.getD (Int.toNat (x6 + (1:Int))) d_farkas_table) x6 (o10)) (pn o11 (pn o12 pe)))))) (tc ((awp_abs (fun (x11 : farkas_table × Int) => ⟨41,[(6,.osl 0 0),(7,vi x6),(8,vi x11.2)],[.row t_farkas_table (x7.set (Int.toNat x6) x11.1) 0]⟩) (farkas_table_without.fn (x7.getD (Int.toNat (x6 + (1:Int))) d_farkas_table) x6) ?_)))))))))))))
    intro x11 hx11
    replace h := h x11 hx11
    refine awp_abs (fun (x12:Int) => ⟨41,[(6,.osl 0 0),(7,vi x6),(8,vi x12)],[.row t_farkas_table (x7.set (Int.toNat x6) x11.1) 0]⟩) (x11.2) ?_
    intro x12 hx12
    replace h := h x12 hx12
    refine awp_abs (fun (x13 : (List farkas_table)) => ⟨41,[(6,.osl 0 0),(7,vi x6),(8,vi x12)],[.row t_farkas_table x13 0]⟩) (x7.set (Int.toNat x6) x11.1) ?_
    intro x13 hx13
    replace h := h x13 hx13
    refine awp_spine (rc [6,7,8,38] [] [] [] ⟨41,[(6,.osl 0 0),(7,vi x6),(8,vi x12),(38,vb (x12 != (0:Int)))],[.row t_farkas_table x13 0]⟩ (pe) (tc ((awp_cond (b := x12 != (0:Int)) (by kernel_rfl) (fun hb => ?_) (fun hb => ?_)))))
    · replace h := h.1 (bne_iff_ne.mp hb)
      refine awp_spine (rc [4,5] [] [] [] ⟨41,[(4,.nils),(5,vi x12)],[.row t_farkas_table x13 0]⟩ (pe) (tc ((awp_ret (tr (tr (tr (tr (blk_r (tr (tr (tr (blk_r (tr (tr (tr (tr (?_))))))))))))))))))
      exact re hk (.tup [.d (.sl t_farkas_table) ((([] : List farkas_table),x12).1),vi ((([] : List farkas_table),x12).2)]) [.keep [4,5],.nilAt 4 [] t_farkas_table,.keep [4,5]] ⟨41,[(4,.d (.sl t_farkas_table) ([] : List farkas_table)),(5,vi x12)],[.row t_farkas_table x13 0]⟩ ⟨(([] : List farkas_table),x12),rfl,rfl,h⟩
    · replace h := h.2 (bne_f hb)
      obtain ⟨o13,h⟩ := h
      refine awp_skip (te ((te ((te ((blk_n (tc ((rc [6,7] [] [] [] ⟨41,[(6,.osl 0 0),(7,vi (x6 - (1:Int)))],[.row t_farkas_table x13 0]⟩ (pn o13 pe) (te ((te ((then_n (?_))))))))))))))))
      obtain ⟨m,hm,h⟩ := h
      exact ⟨m,hm,⟨41,[(6,.osl 0 0),(7,vi (x6 - (1:Int)))],[.row t_farkas_table x13 0]⟩,wk_ghosts hk (l := [.keep [6,7]]) (by kernel_rfl),x6 - (1:Int),x13,h,rfl⟩
  · replace h := h.2 (of_decide_eq_false hb)
    refine awp_exit (then_x (then_x (blk_h (tc ((awp_spine (rc [4,5] [] [] [] ⟨41,[(4,.osl 0 0),(5,vi 0)],[.row t_farkas_table x7 0]⟩ (pe) (tc ((awp_ret (tr (tr (tr (tr (tr (?_))))))))))))))))
    exact re hk (.tup [.d (.sl t_farkas_table) ((x7,0).1),vi ((x7,0).2)]) [.keep [4,5],.freeze 0] ⟨41,[(4,.d (.sl t_farkas_table) x7),(5,vi 0)],[.dead]⟩ ⟨(x7,0),rfl,rfl,h⟩
theorem ok_farkas_eliminated (a1 : (List api_Cond)) (a2:Int) (h : farkas_eliminated.pre a1 a2) : OkC prog 26 [.d (.sl t_api_Cond) a1,vi a2] (.tup [.d (.sl t_farkas_table) ((farkas_eliminated.fn a1 a2).1),vi ((farkas_eliminated.fn a1 a2).2)]) :=
  OkC.of call_farkas_eliminated ((walk_farkas_eliminated a1 a2 _ (farkas_eliminated.spec a1 a2 h)).mono fun r o ⟨x,hr,ho,hx⟩ => ⟨by rw [hr,hx],ho⟩) rfl rfl (fun _ => rfl)

noncomputable abbrev b89 : Code := bodyOf Try.f89
theorem call_farkas_size : CallOk prog 89 := ⟨_,Try.func89,by kernel_rfl,by kernel_rfl⟩
theorem walk_farkas_size (a1:Int) (Q : Int → Prop) (h : farkas_size.wp a1 Q) : VCalls prog 89 [vi a1] [] (fun r o => ∃ x,r = vu x ∧ o = [] ∧ Q x) := by
  refine body Try.func89 (spine (subC [0] b89) [(spine (subC [1,0,0] b89) [(.cond (.tmp 4) (spine (subC [1,0,1,0,0] b89) [.ret]) .skip),(spine (subC [1,1,0] b89) [.ret])])]) fun cx hd hi hk => ?_
  show AWp prog cx _ _ ⟨10,[(0,vi a1)],[]⟩
  replace hk : cx.E.len = 0 := hk
  unfold farkas_size.wp at h
  refine awp_spine (rc [0] [] [] [] ⟨10,[(0,vi a1)],[]⟩ (pe) (tc ((awp_spine (rc [0,4] [] [] [] ⟨10,[(0,vi a1),(4,vb (decide (a1 < (0:Int))))],[]⟩ (pe) (tc ((awp_cond (b := decide (a1 < (0:Int))) (by kernel_rfl) (fun hb => ?_) (fun hb => ?_)))))))))
  · replace h := h.1 (of_decide_eq_true hb)
    refine awp_spine (rc [2] [1,2] [] [] ⟨10,[(2,vu (IntKind.wrap .u64 (-(IntKind.wrap .u64 a1))))],[]⟩ (pe) (tc ((awp_abs (fun (x1:Int) => ⟨10,[(2,vu x1)],[]⟩) (IntKind.wrap .u64 (-(IntKind.wrap .u64 a1))) ?_))))
    intro x1 hx1
    replace h := h x1 hx1
    refine awp_ret (tr (tr (tr (?_))))
    exact re hk (vu x1) [.keep [2]] ⟨10,[(2,vu x1)],[]⟩ ⟨x1,rfl,rfl,h⟩
  · replace h := h.2 (of_decide_eq_false hb)
    refine awp_skip (tc ((awp_spine (rc [2] [1] [] [] ⟨10,[(2,vu (IntKind.wrap .u64 a1))],[]⟩ (pe) (tc ((awp_ret (tr (tr (tr (?_)))))))))))
    exact re hk (vu (IntKind.wrap .u64 a1)) [.keep [2]] ⟨10,[(2,vu (IntKind.wrap .u64 a1))],[]⟩ ⟨IntKind.wrap .u64 a1,rfl,rfl,h⟩
theorem ok_farkas_size (a1:Int) (h : farkas_size.pre a1) : OkC prog 89 [vi a1] (vu (farkas_size.fn a1)) :=
  OkC.of call_farkas_size ((walk_farkas_size a1 _ (farkas_size.spec a1 h)).mono fun r o ⟨x,hr,ho,hx⟩ => ⟨by rw [hr,hx],ho⟩) rfl rfl (fun _ => rfl)

noncomputable abbrev b88 : Code := bodyOf Try.f88
theorem call_math_bits_Mul64 : CallOk prog 88 := ⟨_,Try.func88,by kernel_rfl,by kernel_rfl⟩
theorem walk_math_bits_Mul64 (a1:Int) (a2:Int) (Q : Int × Int → Prop) (h : math_bits_Mul64.wp a1 a2 Q) : VCalls prog 88 [vu a1,vu a2] [] (fun r o => ∃ x,r = .tup [vu x.1,vu x.2] ∧ o = [] ∧ Q x) := by
  refine body Try.func88 (spine (subC [0] b88) [(spine (subC [1,0] b88) [(spine (subC [1,1,0] b88) [(spine (subC [1,1,1,0] b88) [(spine (subC [1,1,1,1,0] b88) [(spine (subC [1,1,1,1,1,0] b88) [(spine (subC [1,1,1,1,1,1,0] b88) [(spine (subC [1,1,1,1,1,1,1,0] b88) [(spine (subC [1,1,1,1,1,1,1,1,0] b88) [(spine (subC [1,1,1,1,1,1,1,1,1,0] b88) [(spine (subC [1,1,1,1,1,1,1,1,1,1,0] b88) [(spine (subC [1,1,1,1,1,1,1,1,1,1,1,0] b88) [.ret])])])])])])])])])])])]) fun cx hd hi hk => ?_
  show AWp prog cx _ _ ⟨51,[(0,vu a1),(1,vu a2)],[]⟩
  replace hk : cx.E.len = 0 := hk
  unfold math_bits_Mul64.wp at h
  refine awp_spine (rc [0,1] [] [] [] ⟨51,[(0,vu a1),(1,vu a2)],[]⟩ (pe) (tc ((awp_spine (rc [0,1,6] [1] [] [] ⟨51,[(0,vu a1),(1,vu a2),(6,vu (IntKind.wrap .u64 ((BitVec.ofInt 64 a1 &&& BitVec.ofInt 64 (4294967295:Int)).toNat:Int)))],[]⟩ (pe) (tc ((awp_abs (fun (x1:Int) => ⟨51,[(0,vu a1),(1,vu a2),(6,vu x1)],[]⟩) (IntKind.wrap .u64 ((BitVec.ofInt 64 a1 &&& BitVec.ofInt 64 (4294967295:Int)).toNat:Int)) ?_))))))))
  intro x1 hx1
  replace h := h x1 hx1
  obtain ⟨o1,h⟩ := h
  refine awp_spine (rc [0,1,6,7] [1] [] [] ⟨51,[(0,vu a1),(1,vu a2),(6,vu x1),(7,vu (Int.fdiv a1 (2 ^ (min (Int.toNat (32:Int)) 64))))],[]⟩ (pn o1 pe) (tc ((awp_abs (fun (x2:Int) => ⟨51,[(0,vu a1),(1,vu a2),(6,vu x1),(7,vu x2)],[]⟩) (Int.fdiv a1 (2 ^ (min (Int.toNat (32:Int)) 64))) ?_))))
  intro x2 hx2
  replace h := h x2 hx2
  refine awp_spine (rc [0,1,6,7,8] [1] [] [] ⟨51,[(0,vu a1),(1,vu a2),(6,vu x1),(7,vu x2),(8,vu (IntKind.wrap .u64 ((BitVec.ofInt 64 a2 &&& BitVec.ofInt 64 (4294967295:Int)).toNat:Int)))],[]⟩ (pe) (tc ((awp_abs (fun (x3:Int) => ⟨51,[(0,vu a1),(1,vu a2),(6,vu x1),(7,vu x2),(8,vu x3)],[]⟩) (IntKind.wrap .u64 ((BitVec.ofInt 64 a2 &&& BitVec.ofInt 64 (4294967295:Int)).toNat:Int)) ?_))))
  intro x3 hx3
  replace h := h x3 hx3
  obtain ⟨o2,h⟩ := h
  refine awp_spine (rc [0,1,6,7,8,9] [1] [] [] ⟨51,[(0,vu a1),(1,vu a2),(6,vu x1),(7,vu x2),(8,vu x3),(9,vu (Int.fdiv a2 (2 ^ (min (Int.toNat (32:Int)) 64))))],[]⟩ (pn o2 pe) (tc ((awp_abs (fun (x4:Int) => ⟨51,[(0,vu a1),(1,vu a2),(6,vu x1),(7,vu x2),(8,vu x3),(9,vu x4)],[]⟩) (Int.fdiv a2 (2 ^ (min (Int.toNat (32:Int)) 64))) ?_))))
  intro x4 hx4
  replace h := h x4 hx4
  obtain ⟨o3,h⟩ := h
  refine awp_spine (rc [0,1,6,7,8,9,10] [2] [] [] ⟨51,[(0,vu a1),(1,vu a2),(6,vu x1),(7,vu x2),(8,vu x3),(9,vu x4),(10,vu (IntKind.wrap .u64 (x1 * x3)))],[]⟩ (pe) (tc ((awp_spine (rc [0,1,6,7,9,11] [2,4,5] [] [] ⟨51,[(0,vu a1),(1,vu a2),(6,vu x1),(7,vu x2),(9,vu x4),(11,vu (IntKind.wrap .u64 ((IntKind.wrap .u64 (x2 * x3)) + (Int.fdiv (IntKind.wrap .u64 (x1 * x3)) (2 ^ (min (Int.toNat (32:Int)) 64))))))],[]⟩ (pn o3 pe) (tc ((awp_abs (fun (x5:Int) => ⟨51,[(0,vu a1),(1,vu a2),(6,vu x1),(7,vu x2),(9,vu x4),(11,vu x5)],[]⟩) (IntKind.wrap .u64 ((IntKind.wrap .u64 (x2 * x3)) + (Int.fdiv (IntKind.wrap .u64 (x1 * x3)) (2 ^ (min (Int.toNat (32:Int)) 64))))) ?_))))))))
  intro x5 hx5
  replace h := h x5 hx5
  refine awp_spine (rc [0,1,6,7,9,11,12] [1] [] [] ⟨51,[(0,vu a1),(1,vu a2),(6,vu x1),(7,vu x2),(9,vu x4),(11,vu x5),(12,vu (IntKind.wrap .u64 ((BitVec.ofInt 64 x5 &&& BitVec.ofInt 64 (4294967295:Int)).toNat:Int)))],[]⟩ (pe) (tc ((awp_abs (fun (x6:Int) => ⟨51,[(0,vu a1),(1,vu a2),(6,vu x1),(7,vu x2),(9,vu x4),(11,vu x5),(12,vu x6)],[]⟩) (IntKind.wrap .u64 ((BitVec.ofInt 64 x5 &&& BitVec.ofInt 64 (4294967295:Int)).toNat:Int)) ?_))))
  intro x6 hx6
  replace h := h x6 hx6
  obtain ⟨o4,h⟩ := h
  refine awp_spine (rc [0,1,6,7,9,12,13] [1] [] [] ⟨51,[(0,vu a1),(1,vu a2),(6,vu x1),(7,vu x2),(9,vu x4),(12,vu x6),(13,vu (Int.fdiv x5 (2 ^ (min (Int.toNat (32:Int)) 64))))],[]⟩ (pn o4 pe) (tc ((awp_abs (fun (x7:Int) => ⟨51,[(0,vu a1),(1,vu a2),(6,vu x1),(7,vu x2),(9,vu x4),(12,vu x6),(13,vu x7)],[]⟩) (Int.fdiv x5 (2 ^ (min (Int.toNat (32:Int)) 64))) ?_))))
  intro x7 hx7
  replace h := h x7 hx7
  refine awp_spine (rc [0,1,7,9,12,13] [3,4] [] [] ⟨51,[(0,vu a1),(1,vu a2),(7,vu x2),(9,vu x4),(12,vu (IntKind.wrap .u64 (x6 + (IntKind.wrap .u64 (x1 * x4))))),(13,vu x7)],[]⟩ (pe) (tc ((awp_abs (fun (x8:Int) => ⟨51,[(0,vu a1),(1,vu a2),(7,vu x2),(9,vu x4),(12,vu x8),(13,vu x7)],[]⟩) (IntKind.wrap .u64 (x6 + (IntKind.wrap .u64 (x1 * x4)))) ?_))))
  intro x8 hx8
  replace h := h x8 hx8
  obtain ⟨o5,h⟩ := h
  refine awp_spine (rc [0,1,4] [2,4,6,7] [] [] ⟨51,[(0,vu a1),(1,vu a2),(4,vu (IntKind.wrap .u64 ((IntKind.wrap .u64 ((IntKind.wrap .u64 (x2 * x4)) + x7)) + (Int.fdiv x8 (2 ^ (min (Int.toNat (32:Int)) 64))))))],[]⟩ (pn o5 pe) (tc ((awp_abs (fun (x9:Int) => ⟨51,[(0,vu a1),(1,vu a2),(4,vu x9)],[]⟩) (IntKind.wrap .u64 ((IntKind.wrap .u64 ((IntKind.wrap .u64 (x2 * x4)) + x7)) + (Int.fdiv x8 (2 ^ (min (Int.toNat (32:Int)) 64))))) ?_))))
  intro x9 hx9
  replace h := h x9 hx9
  refine awp_spine (rc [4,5] [2] [] [] ⟨51,[(4,vu x9),(5,vu (IntKind.wrap .u64 (a1 * a2)))],[]⟩ (pe) (tc ((awp_ret (tr (tr (tr (tr (tr (tr (tr (tr (tr (tr (tr (tr (?_)))))))))))))))))
  exact re hk (.tup [vu ((x9,IntKind.wrap .u64 (a1 * a2)).1),vu ((x9,IntKind.wrap .u64 (a1 * a2)).2)]) [.keep [4,5]] ⟨51,[(4,vu x9),(5,vu (IntKind.wrap .u64 (a1 * a2)))],[]⟩ ⟨(x9,IntKind.wrap .u64 (a1 * a2)),rfl,rfl,h⟩
theorem ok_math_bits_Mul64 (a1:Int) (a2:Int) (h : math_bits_Mul64.pre a1 a2) : OkC prog 88 [vu a1,vu a2] (.tup [vu ((math_bits_Mul64.fn a1 a2).1),vu ((math_bits_Mul64.fn a1 a2).2)]) :=
  OkC.of call_math_bits_Mul64 ((walk_math_bits_Mul64 a1 a2 _ (math_bits_Mul64.spec a1 a2 h)).mono fun r o ⟨x,hr,ho,hx⟩ => ⟨by rw [hr,hx],ho⟩) rfl rfl (fun _ => rfl)

end Go.Proofs.Ytlncingakpelbaa
