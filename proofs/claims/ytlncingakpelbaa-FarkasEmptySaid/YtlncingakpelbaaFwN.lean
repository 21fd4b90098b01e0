/- Part of a proof that a law of the program holds for every input: how abstract states follow the program (part N). No conditions. -/
import Derived.Test.YtlncingakpelbaaFwM
namespace Go.Proofs.Ytlncingakpelbaa
open Go
set_option linter.unusedVariables false

/-! ## Calls -/
def CallOk (P : Program) (f : FuncId) : Prop := ∃ fn, P.funcs[f]? = some fn ∧ fn.body.isSome = true ∧ (fn.name == "runtime.NumGoroutine") = false

variable {P : Program} {τ : TyTab} {cx : Cx} {Q : Exit → St → Prop} {s : St}

theorem callFunc_run {f : FuncId} (h : CallOk P f) (args : Array Value) (w : World) : (callFunc f args).run P w = .ok (.enter f args) w := by
  obtain ⟨fn, h1, h2, h3⟩ := h
  have h4 : fn.body.isNone = false := by cases hb : fn.body <;> simp_all
  simp only [callFunc, Sem.run_bind, run_program, Result.andThen_ok, h1, h3, h4, Bool.false_eq_true, if_false, Sem.run_pure]

theorem call_run {o : Oper} {x : Operand} {args : Array Operand} {tys : Array TypeId} (hop : o.op = .call { callee := .value x, args, argTypes := tys }) {f : FuncId} (hc : CallOk P f) {ρ : Operand → Value} {a b : Array Value}
    (hx : ρ x = .func (.func f) a b) (w : World) : (execOp ρ o).run P w = .ok (.enter f (a ++ args.map ρ ++ b)) w := by
  simp [execOp, hop, resolve, hx, Deferred.ofValue, invoke, callFunc_run hc]

theorem fn_inv {E : Env} {f : Fn} {fs cs : List V} {c : Value} (r : Rep E (.fn f fs cs) c) : ∃ a b : Array Value, c = .func f a b ∧ Reps E fs a.toList ∧ Reps E cs b.toList := by
  cases r with
  | fn h1 h2 h3 h4 =>
    rename_i a b
    exact ⟨a, b, rfl, ⟨by simpa using h1, fun j hj => by simpa [Array.getD_eq_getD_getElem?, List.getD_eq_getElem?_getD] using h3 j hj⟩,
      ⟨by simpa using h2, fun j hj => by simpa [Array.getD_eq_getD_getElem?, List.getD_eq_getElem?_getD] using h4 j hj⟩⟩

theorem aops_call {ops : Array Oper} {i : Nat} {l : List Nat} {o : Oper} (hi : ops[i]? = some o) (hg : o.guard = none) {x : Operand} {args : Array Operand} {tys : Array TypeId}
    (hop : o.op = .call { callee := .value x, args, argTypes := tys }) {f : FuncId} {fs cs : List V} (hx : s.ev x = .fn (.func f) fs cs) (hc : CallOk P f)
    {Q' : V → List Obj → Prop} (hq : VCalls P f (fs ++ args.toList.map s.ev ++ cs) s.objs Q') (hd : ∀ d, o.dst = some d → d < s.nt)
    (hk : ∀ r objs, Q' r objs → AOps P cx ops Q l (s.after o.dst r objs)) : AOps P cx ops Q (i :: l) s := by
  rintro a w ⟨E, rfl, h2, h3, h4, h5, h6⟩
  have hw : Region.wanted o (yielded ops a.tmps) = true := by simp [Region.wanted, hg]
  have rx := Rel.ev (w := E.w) h6 x
  rw [hx] at rx
  obtain ⟨p, q, hv, hp, hq'⟩ := fn_inv rx
  have hargs : Reps E (args.toList.map s.ev) (args.toList.map a.eval) := Reps.of_map fun y _ => Rel.ev (w := E.w) h6 y
  simp only [wpOps, hi, hw, if_true]
  refine .inl ?_
  unfold Oper.wp
  rw [call_run hop hc hv]
  rw [Oper.upon_enter]
  refine (hq E (p ++ args.map a.eval ++ q) h2 (by simpa using (hp.append hargs).append hq')).mono ?_
  rintro e w ⟨v, E', r, objs, rfl, rfl, g', st, hr, hQ⟩
  exact hk r objs hQ _ _ (Rel.after rfl h3 h4 h5 h6 g' st hr hd)

/-! ### A contract beside other own objects -/
/-- The own objects' numbers are moved: k becomes I[k], and what is new comes behind n. -/
def renId (I : List Nat) (n : Nat) (l : Nat) : Nat := match I[l]? with | some j => j | none => n + (l - I.length)

def ren (I : List Nat) (n : Nat) : V → Option V
  | .ref l v o => some (.ref (renId I n l) v o)
  | .rref l v i o => some (.rref (renId I n l) v i o)
  | .osl l v => some (.osl (renId I n l) v)
  | .osp l v k => some (.osp (renId I n l) v k)
  | .map l => some (.map (renId I n l))
  | _ => none

/-- The caller's objects behind the call: those that were handed in, in their places; the new ones at the end. -/
def setAll : List Obj → List Nat → List Obj → List Obj
  | os, [], new => os ++ new
  | os, i :: I, o :: new => setAll (os.set i o) I new
  | os, _ :: _, [] => os

theorem ren_rep {E E' : Env} {I : List Nat} {n : Nat} (hS : ∀ b, E.S b → E'.S b ∧ E'.w.heap[b]? = E.w.heap[b]?) (hl : ∀ l, l < E.len → renId I n l < E'.len ∧ E'.ver (renId I n l) = E.ver l ∧ E'.loc (renId I n l) = E.loc l)
    {v : V} {c : Value} (r : Rep E v c) : Rep E' (V.subst (ren I n) v) c := by
  refine subst_rep' hS (fun v v' c h r => ?_) (fun v c h1 h2 _ => ?_) r
  · cases v <;> simp only [ren, Option.some.injEq, reduceCtorEq] at h <;> subst h
    · cases r with | ref h1 h2 h3 => obtain ⟨k1, k2, k3⟩ := hl _ h2; exact .ref h1 k1 (by rw [k2, k3]; exact h3)
    · cases r with | rref h1 h2 h3 => obtain ⟨k1, k2, k3⟩ := hl _ h2; exact .rref h1 k1 (by rw [k2, k3]; exact h3)
    · cases r with | osl h1 h2 h3 => obtain ⟨k1, k2, k3⟩ := hl _ h2; exact .osl h1 k1 (by rw [k2, k3]; exact h3)
    · cases r with | osp h1 h2 h3 => obtain ⟨k1, k2, k3⟩ := hl _ h2; exact .osp h1 k1 (by rw [k2, k3]; exact h3)
    · cases r with | map h1 h2 h3 => obtain ⟨k1, k2, k3⟩ := hl _ h2; exact .map h1 k1 (by rw [k2, k3]; exact h3)
  · cases v <;> simp [V.isRef] at h1 <;> simp [ren] at h2

/-- A contract that names no own object holds beside whatever objects; what it hands back as its own comes behind them. -/
theorem VCalls.beside {f : FuncId} {args : List V} {Q : V → List Obj → Prop} (h : VCalls P f args [] Q) (hu : V.underL 0 args = true) (objs : List Obj) :
    VCalls P f args objs (fun r o => ∃ r' o', Q r' o' ∧ r = V.subst (ren [] objs.length) r' ∧ o = objs ++ o'.map (Obj.subst (ren [] objs.length))) := by
  intro E cargs g r
  have g0 := g.cut (m := 0) (Nat.zero_le _) rfl
  rw [List.take_zero] at g0
  have r0 : Reps (E.cut 0) args cargs.toList := ⟨r.1, fun j hj => below_rep (r.2 j hj) (belowL_getD hu j hj)⟩
  refine (h (E.cut 0) cargs g0 r0).mono ?_
  rintro e w' ⟨v, E', r, o, rfl, rfl, g', st, hr, hQ⟩
  have hno : ∀ b, ¬ ownB (E.cut 0) [] b := by rintro b ⟨l, o, h, _⟩; simp at h
  have hfr : ∀ b, b < E.w.heap.size → E'.w.heap[b]? = E.w.heap[b]? := fun b hb => st.frame b hb (hno b)
  have hlen : E'.len = o.length := g'.len.symm
  have hn := g.len
  -- the joint environment
  let E1 : Env := ⟨E'.w, E'.S, E.len + E'.len, fun l => if l < E.len then E.loc l else E'.loc (l - E.len), fun l => if l < E.len then E.ver l else E'.ver (l - E.len)⟩
  have hx : Ext E E1 := ⟨fun b hb => ⟨(st.ext.S b hb).1, hfr b (g.sl b hb)⟩, Nat.le_add_right _ _, fun l hl u hu => by
    simp only [E1, if_pos hl] at hu ⊢
    exact ⟨u, hu, Nat.le_refl _, fun _ => trivial⟩⟩
  have hid : ∀ l, renId [] objs.length l = E.len + l := fun l => by simp [renId, hn]
  have hren : ∀ {v : V} {c : Value}, Rep E' v c → Rep E1 (V.subst (ren [] objs.length) v) c := fun r => ren_rep (E := E') (E' := E1) (fun b hb => ⟨hb, rfl⟩) (fun l hl => by
    rw [hid]
    have h1 : ¬ (E.len + l < E.len) := by omega
    have h2 : E.len + l - E.len = l := by omega
    simp only [E1, if_neg h1, h2]
    exact ⟨by omega, trivial, trivial⟩) r
  have hget : ∀ (l : Nat) p, (objs ++ o.map (Obj.subst (ren [] objs.length)))[l]? = some p → (l < E.len ∧ objs[l]? = some p) ∨ (¬ l < E.len ∧ ∃ q, o[l - E.len]? = some q ∧ p = q.subst (ren [] objs.length)) := by
    intro l p h
    by_cases hl : l < E.len
    · rw [List.getElem?_append_left (by omega)] at h; exact .inl ⟨hl, h⟩
    · rw [List.getElem?_append_right (by omega), List.getElem?_map, Option.map_eq_some_iff] at h
      obtain ⟨q, h1, h2⟩ := h
      exact .inr ⟨hl, q, by rw [← hn]; exact h1, h2.symm⟩
  have hown : ∀ b, ownB E1 (objs ++ o.map (Obj.subst (ren [] objs.length))) b → ownB E objs b ∨ ownB E' o b := by
    rintro b ⟨l, p, h1, h2, h3⟩
    rcases hget l p h1 with ⟨hl, h⟩ | ⟨hl, q, h, rfl⟩
    · simp only [E1, if_pos hl] at h2 h3; exact .inl ⟨l, p, h, h2, h3⟩
    · simp only [E1, if_neg hl] at h2 h3; exact .inr ⟨_, q, h, Obj.has_subst.1 h2, h3⟩
  have hnew : ∀ b, ownB E' o b → E.w.heap.size ≤ b := fun b hb => (st.own b hb).elim id (fun h => absurd h (hno b))
  have hSn : ∀ b, E'.S b → E.S b ∨ E.w.heap.size ≤ b := fun b hb => (st.st b hb).elim .inl (fun h => h.elim .inr (fun h => absurd h (hno b)))
  refine ⟨v, E1, _, _, rfl, rfl, ⟨?_, ?_, ?_, g'.sl, ?_⟩, ⟨hx, st.os, st.tape, st.output, st.size, fun b hb _ => hfr b hb, fun b hb => ?_, fun b hb => ?_⟩, hren hr, r, o, hQ, rfl, rfl⟩
  · simp [E1, hn, hlen]
  · intro l p hp
    rcases hget l p hp with ⟨hl, h⟩ | ⟨hl, q, h, rfl⟩
    · have hk := g.at_ l p h
      exact hk.keep hx (by simp only [E1, if_pos hl]) (by simp only [E1, if_pos hl]) (fun hh => hfr _ (hk.block_lt hh))
    · have hk := g'.at_ _ q h
      have e1 : E1.ver l = E'.ver (l - E.len) := by simp only [E1, if_neg hl]
      have e2 : E1.loc l = E'.loc (l - E.len) := by simp only [E1, if_neg hl]
      cases q with
      | dead => exact e1.trans hk
      | box cs =>
        obtain ⟨h1, vals, t, h2, h3, h4⟩ := hk
        exact ⟨e1.trans h1, vals, t, by rw [e2]; exact h2, by rw [substL_eq, List.length_map]; exact h3, fun j hj => by
          rw [substL_eq, List.length_map] at hj; rw [substL_getD hj]; exact hren (h4 j hj)⟩
      | row t xs ver => obtain ⟨h1, h2⟩ := hk; exact ⟨e1.trans h1, by rw [e2]; exact h2⟩
      | smap t m => obtain ⟨h1, h2⟩ := hk; exact ⟨e1.trans h1, by rw [e2]; exact h2⟩
      | imap t m => obtain ⟨h1, h2⟩ := hk; exact ⟨e1.trans h1, by rw [e2]; exact h2⟩
  · intro b hb hs
    rcases hown b hb with h | h
    · rcases hSn b hs with h' | h'
      · exact g.ns b h h'
      · have := g.own_lt h; omega
    · exact g'.ns b h hs
  · intro l l' p p' h1 h2 h3 h4 h5
    rcases hget l p h1 with ⟨hl, h⟩ | ⟨hl, q, h, rfl⟩ <;> rcases hget l' p' h2 with ⟨hl', h'⟩ | ⟨hl', q', h', rfl⟩
    · simp only [E1, if_pos hl, if_pos hl'] at h3 h4 h5
      exact g.inj l l' p p' h h' h3 h4 h5
    · simp only [E1, if_pos hl, if_neg hl'] at h3 h4 h5
      have := g.own_lt ⟨l, p, h, h3, rfl⟩
      have := hnew _ ⟨_, q', h', Obj.has_subst.1 h4, rfl⟩
      omega
    · simp only [E1, if_neg hl, if_pos hl'] at h3 h4 h5
      have := g.own_lt ⟨l', p', h', h4, rfl⟩
      have := hnew _ ⟨_, q, h, Obj.has_subst.1 h3, rfl⟩
      omega
    · simp only [E1, if_neg hl, if_neg hl'] at h3 h4 h5
      have := g'.inj _ _ q q' h h' (Obj.has_subst.1 h3) (Obj.has_subst.1 h4) h5
      omega
  · exact (hown b hb).elim .inr (fun h => .inl (hnew b h))
  · exact (hSn b hb).elim .inl (fun h => .inr (.inl h))

end Go.Proofs.Ytlncingakpelbaa
