/- Part of a proof that a law of the program holds for every input: how abstract states follow the program (part S). No conditions. -/
import Derived.Test.YtlncingakpelbaaFwR
import Derived.Defers
namespace Go.Proofs.Ytlncingakpelbaa
open Go
set_option linter.unusedVariables false

/-! ## Functions that defer a call -/
variable {P : Program} {τ : TyTab} {cx : Cx} {s : St}

def AWpG (P : Program) (cx : Cx) (c : Code) (R : Exit → Act → World → Prop) (s : St) : Prop := ∀ a w, Rel cx s a w → c.wp P R a w

/-- An end that is right whatever the slots hold. -/
def RetG (cx : Cx) (R : Exit → Act → World → Prop) (e : Exit) (s : St) : Prop := ∃ s', Wk cx s s' ∧ ∀ a w, Rel cx s' a w → R e a w

theorem awpG_seq {c d : Code} {R : Exit → Act → World → Prop} (h : AWp P cx c (Then (RetG cx R) (AWpG P cx d R)) s) : AWpG P cx (.seq c d) R s := by
  intro a w r
  refine wp_seq (wp_mono (h a w r) ?_)
  rintro e a w ⟨s', h1, h2⟩
  cases e <;> first | exact h1 a w h2 | (obtain ⟨s'', hw, h3⟩ := h1; exact h3 a w (hw a w h2))

theorem awpG_of {c : Code} {R : Exit → Act → World → Prop} (h : AWp P cx c (RetG cx R) s) : AWpG P cx c R s :=
  fun a w r => wp_mono (h a w r) fun e a w ⟨s', ⟨s'', hw, h3⟩, h2⟩ => h3 a w (hw a w h2)

theorem awpG_eq {c c' : Code} {R : Exit → Act → World → Prop} (h : c = c') (k : AWpG P cx c' R s) : AWpG P cx c R s := h ▸ k

theorem awpG_abs {α : Type} {c : Code} {R : Exit → Act → World → Prop} (S : α → St) (e : α) (h : ∀ x, x = e → AWpG P cx c R (S x)) : AWpG P cx c R (S e) := h e rfl

def EndR (E : Env) (imp : List Obj) (Q : V → List Obj → Prop) : Ending → World → Prop :=
  fun e w' => ∃ v E' r objs, e = .returned v ∧ E'.w = w' ∧ Good E' objs ∧ Step E imp E' objs ∧ Rep E' r v ∧ Q r objs

theorem Ret.done (hτ : TabOk P τ) {fn : Func} {Q : V → List Obj → Prop} {a : Act} {w : World} (h : Ret τ fn (fun r o => cx.imp.length ≤ o.length ∧ Q r o) s) (hE : cx.E.len = cx.imp.length) (r : Rel cx s a w) :
    ∃ v, (results fn a.tmps).run P w = .ok v w ∧ EndR cx.E cx.imp Q (.returned v) w := by
  obtain ⟨E', rfl, g', st, h4, h5, h6⟩ := r
  obtain ⟨vs, m, h7, h8, h9, h10, h11, h12⟩ := h
  obtain ⟨cs, h13, h14⟩ := resV_run hτ g' h6 h7
  refine ⟨_, ?_, _, E'.cut m, mkRes vs, s.objs.take m, rfl, rfl, g'.cut h8 h10, st.cut ?_ h8, below_rep (mkRes_rep h14) ?_, h12⟩
  · rw [results_eq, Array.mapM_eq_mapM_toList]
    simp only [Sem.run_bind, Sem.run_map, h13, Result.andThen_ok, Sem.run_pure]
  · rw [hE]; simp only [List.length_take] at h11; omega
  · match vs, h9 with
    | [], h9 => rfl
    | [v], h9 => simp only [V.underL, Bool.and_true] at h9; exact h9
    | v :: v' :: l, h9 => exact h9

theorem retW_G (hτ : TabOk P τ) {fn : Func} {Q : V → List Obj → Prop} {e : Exit} (hE : cx.E.len = cx.imp.length) (hd : cx.dfs = []) (h : RetW cx τ fn cx.imp.length Q e s) : RetG cx (bodyPostD P fn (EndR cx.E cx.imp Q)) e s := by
  obtain ⟨s', hw, hq⟩ := h
  refine ⟨s', hw, fun a w r => ?_⟩
  have hdf : a.defers = [] := by obtain ⟨_, _, _, _, _, h5, _⟩ := id r; rw [h5, hd]
  have fin : Ret τ fn (fun r o => cx.imp.length ≤ o.length ∧ Q r o) s' → Leaves P fn a.tmps (EndR cx.E cx.imp Q) a.defers .returning w := fun hret => by
    rw [hdf]
    exact hret.done hτ hE r
  cases e with
  | normal => exact fin hq
  | ret => exact fin hq
  | _ => exact hq.elim

theorem vcalls_bodyG {f : FuncId} {fn : Func} {c : Code} {args : List V} {imp : List Obj} {Q : V → List Obj → Prop} (hf : P.funcs[f]? = some fn) (hb : fn.body = some c)
    (hn : args.length ≤ fn.ntmps) (h : ∀ E0 : Env, E0.len = imp.length → AWpG P ⟨E0, imp, []⟩ c (bodyPostD P fn (EndR E0 imp Q)) ⟨fn.ntmps, argTmps 0 args, imp⟩) : VCalls P f args imp Q := by
  intro E cargs g r
  have hsz : cargs.size = args.length := by simpa using r.1
  refine calls_of_wp_defers hf hb (h E g.len.symm _ E.w ⟨E, rfl, g, .refl _ _, ?_, rfl, fun t => ?_⟩)
  · simp [hsz]; omega
  · show Rep E (look t (argTmps 0 args)) _
    rw [look_args, if_pos (Nat.zero_le _), Nat.sub_zero]
    by_cases ht : t < args.length
    · have := r.2 t ht
      simp only [Array.getD_eq_getD_getElem?]
      rw [Array.getElem?_append_left (by omega)]
      simpa [List.getD_eq_getElem?_getD] using this
    · rw [List.getD_eq_getElem?_getD, List.getElem?_eq_none (by omega)]
      exact .any _

/-- The deferred call: its function and what it captures. -/
structure Dfr (cx : Cx) (cx2 : Cx) (g : FuncId) (cv : List V) (objs : List Obj) : Prop where
  imp : cx2.imp = objs
  len : cx2.E.len = objs.length
  dfs : ∃ q : Array Value, cx2.dfs = [⟨.fn (.func g) q, #[]⟩] ∧ Reps cx2.E cv q.toList
  st : Step cx.E cx.imp cx2.E objs

def deferAt (ops : List Oper) (i : Nat) (s : St) : Option (FuncId × List V) :=
  match ops[i]? with
  | some ⟨none, .defer ⟨.value x, args, _⟩, _, _, _, none⟩ => match Nat.beq args.size 0, s.ev x with
    | true, .fn (.func g) [] cv => some (g, cv)
    | _, _ => none
  | _ => none

def AOpsG (P : Program) (cx : Cx) (ops : Array Oper) (R : Exit → Act → World → Prop) (l : List Nat) (s : St) : Prop := ∀ a w, Rel cx s a w → wpOps P ops R l a w

theorem runC_okG (hτ : TabOk P τ) {hx : Nat → Bool} {orc : List (Nat × Orc)} {bn : List Nat} {ops : Array Oper} {R : Exit → Act → World → Prop} : ∀ {l l' : List Nat} {s s' : St} {obs : List Prop}, runC P τ hx orc bn ops.toList l s = some (obs, s') → AllP obs → AOpsG P cx ops R l' s' → AOpsG P cx ops R (l ++ l') s
  | [], l', s, s', obs, h, _, hk => by simp only [runC] at h; cases h; exact hk
  | i :: l, l', s, s', obs, h, ho, hk => by
    simp only [runC] at h
    split at h
    · cases h
    · rename_i o hi
      split at h
      · cases h
      · rename_i out h1
        split at h
        · cases h
        · rename_i s1 hs
          split at h
          · cases h
          · rename_i obs2 s2 h2
            cases h
            obtain ⟨rfl, hd⟩ := setTmp_inv hs
            have hb : okP out.ob ∧ AllP obs2 := by
              cases hob : out.ob with
              | none => rw [hob] at ho; exact ⟨trivial, ho⟩
              | some p => rw [hob] at ho; exact ⟨AllP.head ho, AllP.tail ho⟩
            have hrest := runC_okG hτ h2 hb.2 hk
            intro a w r
            obtain ⟨E, rfl, g2, g3, g4, g5, g6⟩ := id r
            show wpOps P ops R (i :: (l ++ l')) a E.w
            rw [wpOps_cons]
            exact op_ok hτ h1 hb.1 (by simpa using hi) g2 g6 fun E' c k1 k2 k3 => hrest _ _ (Rel.after rfl g3 g4 g5 g6 k1 k2 k3 hd)

/-- A region that ends with a defer. -/
theorem awpG_defer (hτ : TabOk P τ) (hd : cx.dfs = []) {c rest : Code} {R : Exit → Act → World → Prop} {g : FuncId} {cv : List V} {s1 : St} (l1 : List Nat) (n : Nat) (hc : isRg c = true) (hl : List.range (regOps c).size = l1 ++ [n])
    (h1 : runC P τ (fun _ => true) [] [] (regOps c).toList l1 s = some ([], s1)) (h : deferAt (regOps c).toList n s1 = some (g, cv))
    (hk : ∀ cx2 : Cx, Dfr cx cx2 g cv s1.objs → AWpG P cx2 rest R s1) : AWpG P cx (.seq c rest) R s := by
  cases c with
  | region id ops d => cases d with
    | true => cases hc
    | false =>
      simp only [regOps] at hl h1 h
      have key : ∀ R' : Exit → Act → World → Prop, (∀ a w, rest.wp P R a w → R' .normal a w) → AOpsG P cx ops R' [n] s1 := by
        intro R' hR'
        unfold deferAt at h
        split at h
        · rename_i x args tys ty po af hi
          split at h
          · rename_i g' cv' hsz hx
            cases h
            have ha : args = #[] := by
              have := Nat.eq_of_beq_eq_true hsz
              exact Array.eq_empty_of_size_eq_zero this
            subst ha
            rintro a w ⟨E, rfl, g2, g3, g4, g5, g6⟩
            have rx := Rel.ev (w := E.w) g6 x
            rw [hx] at rx
            obtain ⟨p, q, hv, hp, hq⟩ := fn_inv rx
            have hp0 : p = #[] := by have := hp.1; simpa using this
            subst hp0
            have hi0 : ops[n]? = some ⟨none, .defer ⟨.value x, #[], tys⟩, ty, po, af, none⟩ := by simpa using hi
            simp only [wpOps, hi0, Region.wanted, if_true]
            refine .inl ?_
            unfold Oper.wp
            have hrun : (execOp a.eval ⟨none, .defer ⟨.value x, #[], tys⟩, ty, po, af, none⟩).run P E.w = .ok (.defer ⟨.fn (.func g) q, #[]⟩) E.w := by
              simp [execOp, resolve, hv, Deferred.ofValue]
            rw [hrun, Oper.upon_defer]
            refine hR' _ _ (hk ⟨E, s1.objs, [⟨.fn (.func g) q, #[]⟩]⟩ ⟨rfl, g2.len.symm, ⟨q, rfl, hq⟩, g3⟩ _ _ ⟨E, rfl, g2, .refl _ _, ?_, ?_, fun t => ?_⟩)
            · exact g4
            · simp only [Act.put, g5, hd]
            · exact g6 t
          · cases h
        · cases h
      intro a w r
      refine wp_seq (wp_region ?_)
      rw [hl]
      exact runC_okG hτ h1 trivial (key _ fun a w h => h) a w r
  | _ => cases hc

/-- At the end the deferred function runs; behind it stand the results. -/
def EndG (cx : Cx) (τ : TyTab) (fn : Func) (Q : V → List Obj → Prop) (nt : Nat) (tmps : List (Nat × V)) (e : Exit) (sg : St) : Prop :=
  (e = .normal ∨ e = .ret) ∧ ∃ s3, Wk cx ⟨nt, tmps, sg.objs⟩ s3 ∧ Ret τ fn (fun r o => cx.imp.length ≤ o.length ∧ Q r o) s3

theorem retD (hτ : TabOk P τ) (hE : cx.E.len = cx.imp.length) (hd : cx.dfs = []) {cx2 : Cx} {g : FuncId} {cv : List V} {objs0 : List Obj} (hD : Dfr cx cx2 g cv objs0) {fn gfn : Func} {cg : Code} {Q : V → List Obj → Prop} {s s' : St} {e : Exit} (he : e = .normal ∨ e = .ret)
    (hg : P.funcs[g]? = some gfn) (hb : gfn.body = some cg) (hc : CallOk P g) (hn : Nat.ble cv.length gfn.ntmps = true) (hr : gfn.results = #[]) (hw : Wk cx2 s s')
    (h : ∀ cxg : Cx, cxg.dfs = [] → cxg.imp = s'.objs → cxg.E.len = s'.objs.length → AWp P cxg cg (EndG cx τ fn Q s'.nt s'.tmps) ⟨gfn.ntmps, argTmps 0 cv, s'.objs⟩) :
    RetG cx2 (bodyPostD P fn (EndR cx.E cx.imp Q)) e s := by
  refine ⟨s', hw, ?_⟩
  rintro a w ⟨E, rfl, g2, g3, g4, g5, g6⟩
  obtain ⟨q, hq1, hq2⟩ := hD.dfs
  rw [hq1] at g5
  have hst : Step cx.E cx.imp E s'.objs := by have := hD.st; rw [← hD.imp] at this; exact this.trans g3
  have fin : Leaves P fn a.tmps (EndR cx.E cx.imp Q) a.defers .returning E.w := by
    rw [g5]
    refine leaves_cons (f := g) (args := q) (by simp) ?_ ?_
    · simp [invoke, callFunc_run hc]
    · have hsz : q.size = cv.length := by simpa using hq2.1
      have hn' : cv.length ≤ gfn.ntmps := Nat.le_of_ble_eq_true hn
      refine (callsD_of_wp (R := fun e w' => ∃ v, e = .returned v ∧ Leaves P fn a.tmps (EndR cx.E cx.imp Q) [] .returning w') hg hb (wp_mono (h ⟨E, s'.objs, []⟩ rfl rfl g2.len.symm _ E.w ⟨E, rfl, g2, .refl _ _, ?_, rfl, fun t => ?_⟩) ?_)).mono ?_
      · simp [hsz]; omega
      · show Rep E (look t (argTmps 0 cv)) _
        rw [look_args, if_pos (Nat.zero_le _), Nat.sub_zero]
        by_cases ht : t < cv.length
        · have := (hq2.2 t ht).mono g3.ext
          simp only [Array.getD_eq_getD_getElem?]
          rw [Array.getElem?_append_left (by omega)]
          simpa [List.getD_eq_getElem?_getD] using this
        · rw [List.getD_eq_getElem?_getD, List.getElem?_eq_none (by omega)]
          exact .any _
      · rintro e ag w ⟨sg, ⟨heg, s3, hw3, hret⟩, E3, rfl, k2, k3, k4, k5, k6⟩
        have hrel : Rel cx ⟨s'.nt, s'.tmps, sg.objs⟩ { a with defers := [] } E3.w := ⟨E3, rfl, k2, hst.trans k3, g4, hd.symm, fun t => (g6 t).mono k3.ext⟩
        have hdone := hret.done hτ hE (hw3 _ _ hrel)
        have hres : (results gfn ag.tmps).run P E3.w = .ok (.tuple #[]) E3.w := by
          rw [results_eq, hr]; simp
        rcases heg with rfl | rfl
        · exact ⟨k5, _, hres, _, rfl, hdone⟩
        · exact ⟨k5, _, hres, _, rfl, hdone⟩
      · rintro e u' w' ⟨rfl, v, rfl, hl⟩
        exact hl
  rcases he with rfl | rfl
  · exact fin
  · exact fin

theorem endG {fn : Func} {Q : V → List Obj → Prop} {nt m k : Nat} {tmps : List (Nat × V)} {e : Exit} {sg : St} {r : V} {objs : List Obj} (he : e = .normal ∨ e = .ret) (hE : cx.E.len = k) (hk0 : cx.imp.length = k) (l : List Gh) (s3 : St) (hg : ghosts k l ⟨nt, tmps, sg.objs⟩ = some s3)
    (h : finish τ fn m s3 = some (r, objs)) (hk : k ≤ objs.length) (hq : Q r objs) : EndG cx τ fn Q nt tmps e sg := by
  subst hk0
  exact ⟨he, s3, wk_ghosts hE hg, ret_ok h hk hq⟩

end Go.Proofs.Ytlncingakpelbaa
