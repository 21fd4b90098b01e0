/- Part of a proof that a law of the program holds for every input: how abstract states follow the program (part M). No conditions. -/
import Derived.Test.YtlncingakpelbaaFwL
namespace Go.Proofs.Ytlncingakpelbaa
open Go
set_option linter.unusedVariables false

/-! ## Contracts of functions -/
def VCalls (P : Program) (f : FuncId) (args : List V) (imp : List Obj) (Q : V → List Obj → Prop) : Prop :=
  ∀ (E : Env) (cargs : Array Value), Good E imp → Reps E args cargs.toList →
    Calls P f cargs E.w fun e w' => ∃ v E' r objs, e = .returned v ∧ E'.w = w' ∧ Good E' objs ∧ Step E imp E' objs ∧ Rep E' r v ∧ Q r objs

theorem VCalls.mono {P : Program} {f : FuncId} {args : List V} {imp : List Obj} {Q Q' : V → List Obj → Prop} (h : VCalls P f args imp Q) (hq : ∀ r o, Q r o → Q' r o) : VCalls P f args imp Q' :=
  fun E c g r => (h E c g r).mono fun e w ⟨v, E', r, objs, h1, h2, h3, h4, h5, h6⟩ => ⟨v, E', r, objs, h1, h2, h3, h4, h5, hq _ _ h6⟩

/-- What the result variables hold. -/
def resV (τ : TyTab) (s : St) : List ResultVar → Option (List V)
  | [] => some []
  | .tmp t :: l => (resV τ s l).map fun r => s.get t :: r
  | .cell a t :: l => match s.get a, τ t with
    | .ref b 0 0, some ti => match s.objs[b]? with
      | some (.box cs) => if ti.k.known then match (takeN ti.size cs).bind (ofCells ti.isAgg), resV τ s l with
        | some v, some r => some (v :: r)
        | _, _ => none
        else none
      | _ => none
    | _, _ => none

def mkRes : List V → V
  | [v] => v
  | l => .tup l

/-- At the function's end: the result, and what of the own objects is handed back (the first m). -/
def Ret (τ : TyTab) (fn : Func) (Q : V → List Obj → Prop) (s : St) : Prop :=
  ∃ vs m, resV τ s fn.results.toList = some vs ∧ m ≤ s.objs.length ∧ V.underL m vs = true ∧ objsBelow m (s.objs.take m) = true ∧ Q (mkRes vs) (s.objs.take m)

def RetQ (τ : TyTab) (fn : Func) (imp : Nat) (Q : V → List Obj → Prop) : Exit → St → Prop
  | .normal, s | .ret, s => Ret τ fn (fun r o => imp ≤ o.length ∧ Q r o) s
  | _, _ => False

section
variable {P : Program} {τ : TyTab}

def resRun (tmps : Array Value) : ResultVar → Sem Value
  | .tmp t => pure (tmps.getD t undef)
  | .cell b t => do loadVar t (← asAddr (tmps.getD b undef))

theorem results_eq (fn : Func) (tmps : Array Value) : results fn tmps = (do let vs ← fn.results.mapM (resRun tmps); pure (if h : vs.size = 1 then vs[0] else .tuple vs)) := by
  rfl

theorem resV_run (hτ : TabOk P τ) {s : St} {E : Env} {a : Act} (g : Good E s.objs) (h6 : ∀ t, Rep E (s.get t) (a.tmps.getD t undef)) : ∀ {l : List ResultVar} {vs : List V}, resV τ s l = some vs →
    ∃ cs : List Value, (l.mapM (resRun a.tmps)).run P E.w = .ok cs E.w ∧ Reps E vs cs
  | [], vs, h => by simp only [resV] at h; cases h; exact ⟨[], by simp, .nil⟩
  | .tmp t :: l, vs, h => by
    simp only [resV, Option.map_eq_some_iff] at h
    obtain ⟨r, h1, rfl⟩ := h
    obtain ⟨cs, h2, h3⟩ := resV_run hτ g h6 h1
    exact ⟨a.tmps.getD t undef :: cs, by simp only [List.mapM_cons, resRun, Sem.run_bind, Sem.run_pure, Result.andThen_ok, h2], .cons (h6 t) h3⟩
  | .cell b t :: l, vs, h => by
    simp only [resV] at h
    split at h
    · rename_i bl ti hb hti
      split at h
      · rename_i cs hcs
        split at h
        · rename_i hk
          split at h
          · rename_i v r hv hr
            cases h
            simp only [Option.bind_eq_some_iff] at hv
            obtain ⟨ds, hd1, hd2⟩ := hv
            obtain ⟨rfl, hd3⟩ := takeN_inv hd1
            have hat := g.at_ _ _ hcs
            obtain ⟨vals, t', h4, h5⟩ := box_reps hat
            obtain ⟨h7, h8⟩ := h5.at_cells h4 0 ti.size
            rw [List.drop_zero] at h7
            have hb' := h6 b
            rw [hb] at hb'
            obtain ⟨E', v', hr1, _, _, hr4⟩ := load_ok (p := none) (hτ t ti hti) hk g h7 h8 hd3 hd2
            have hl := loadVar_run (hτ t ti hti) hk E.w (E.loc bl).b 0 _ (h7.1.trans hd3) h8 (ofCells_rep hd2 h7).2
            obtain ⟨cs', h2, h3⟩ := resV_run hτ g h6 hr
            refine ⟨_, by simp only [List.mapM_cons, resRun, ref_inv hb' hat.1 rfl, asAddr, Sem.run_bind, Sem.run_pure, Result.andThen_ok, hl, h2], .cons (ofCells_rep hd2 h7).1 h3⟩
          · cases h
        · cases h
      · cases h
    · cases h

theorem mkRes_rep {E : Env} {vs : List V} {cs : List Value} (r : Reps E vs cs) : Rep E (mkRes vs) (if h : cs.toArray.size = 1 then cs.toArray[0] else .tuple cs.toArray) := by
  match vs, cs, r with
  | [], [], r => exact .tup rfl (fun j hj => by simp at hj)
  | [v], [c], r => exact r.head
  | v :: v' :: vs, c :: c' :: cs, r =>
    rw [dif_neg (by simp)]
    exact .tup (by simpa using r.1) (fun j hj => by have := r.2 j hj; simpa [Array.getD_eq_getD_getElem?, List.getD_eq_getElem?_getD] using this)
  | [], _ :: _, r => have := r.1; simp at this
  | [_], [], r => have := r.1; simp at this
  | [_], _ :: _ :: _, r => have := r.1; simp at this
  | _ :: _ :: _, [], r => have := r.1; simp at this
  | _ :: _ :: _, [_], r => have := r.1; simp at this

/-- The arguments lie in the first slots. -/
def argTmps : Nat → List V → List (Nat × V)
  | _, [] => []
  | n, v :: l => (n, v) :: argTmps (n + 1) l

theorem look_args : ∀ (l : List V) (n t : Nat), look t (argTmps n l) = if n ≤ t then l.getD (t - n) .any else .any
  | [], n, t => by simp [argTmps, look]
  | v :: l, n, t => by
    rw [argTmps, look_cons]
    split
    · rename_i e; subst e; simp
    · rename_i e
      rw [look_args l (n + 1) t]
      by_cases h : n ≤ t
      · rw [if_pos h, if_pos (by omega), show t - n = (t - (n + 1)) + 1 from by omega]; simp
      · rw [if_neg h, if_neg (by omega)]

theorem vcalls_of_body (hτ : TabOk P τ) {f : FuncId} {fn : Func} {c : Code} {args : List V} {imp : List Obj} {Q : V → List Obj → Prop} (hf : P.funcs[f]? = some fn) (hb : fn.body = some c)
    (hn : args.length ≤ fn.ntmps) (h : ∀ cx : Cx, cx.dfs = [] → cx.imp = imp → cx.E.len = imp.length → AWp P cx c (RetQ τ fn imp.length Q) ⟨fn.ntmps, argTmps 0 args, imp⟩) : VCalls P f args imp Q := by
  intro E cargs g r
  have hsz : cargs.size = args.length := by simpa using r.1
  refine calls_of_wp hf hb (wp_mono (h ⟨E, imp, []⟩ rfl rfl g.len.symm _ E.w ⟨E, rfl, g, .refl _ _, ?_, rfl, fun t => ?_⟩) ?_)
  · simp [hsz]; omega
  · show Rep E (look t (argTmps 0 args)) _
    rw [look_args, if_pos (Nat.zero_le _), Nat.sub_zero]
    by_cases ht : t < args.length
    · have := r.2 t ht
      simp only [Array.getD_eq_getD_getElem?]
      rw [Array.getElem?_append_left (by omega)]
      simpa [List.getD_eq_getElem?_getD] using this
    · rw [List.getD_eq_getElem?_getD, List.getElem?_eq_none (by omega)]
      exact .any _
  · rintro e a w ⟨s, hq, E', rfl, g', st, h4, h5, h6⟩
    have fin : Ret τ fn (fun r o => imp.length ≤ o.length ∧ Q r o) s → a.defers = [] ∧ ∃ v, (results fn a.tmps).run P E'.w = .ok v E'.w ∧
        ∃ v' E'' r objs, (Ending.returned v) = .returned v' ∧ E''.w = E'.w ∧ Good E'' objs ∧ Step E imp E'' objs ∧ Rep E'' r v' ∧ Q r objs := by
      rintro ⟨vs, m, h7, h8, h9, h10, h11, h12⟩
      obtain ⟨cs, h13, h14⟩ := resV_run hτ g' h6 h7
      refine ⟨h5, _, ?_, _, E'.cut m, mkRes vs, s.objs.take m, rfl, rfl, g'.cut h8 h10, st.cut ?_ h8, below_rep (mkRes_rep h14) ?_, h12⟩
      · rw [results_eq, Array.mapM_eq_mapM_toList]
        simp only [Sem.run_bind, Sem.run_map, h13, Result.andThen_ok, Sem.run_pure]
      · rw [← g.len]; simp only [List.length_take] at h11; omega
      · match vs, h9 with
        | [], h9 => rfl
        | [v], h9 => simp only [V.underL, Bool.and_true] at h9; exact h9
        | v :: v' :: l, h9 => exact h9
    cases e with
    | normal => exact fin hq
    | ret => exact fin hq
    | _ => exact hq.elim
end
end Go.Proofs.Ytlncingakpelbaa
