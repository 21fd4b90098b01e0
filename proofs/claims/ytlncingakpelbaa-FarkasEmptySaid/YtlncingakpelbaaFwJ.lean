/- Part of a proof that a law of the program holds for every input: how abstract states follow the program (part J). No conditions. -/
import Derived.Test.YtlncingakpelbaaFwI
namespace Go.Proofs.Ytlncingakpelbaa
open Go
set_option linter.unusedVariables false

variable {P : Program} {τ : TyTab} {E : Env}

/-! ## One operation -/
def Ran (P : Program) (o : Oper) (ρ : Operand → Value) (E : Env) (objs : List Obj) (out : Out) : Prop :=
  ∃ E' n v, (execOp ρ o).run P E.w = .ok n E'.w ∧ (n = .value v ∨ (n = .skip ∧ v = undef)) ∧ Good E' out.objs ∧ Step E objs E' out.objs ∧ Rep E' out.v v

theorem RanV.ran {o : Oper} {ρ : Operand → Value} {objs : List Obj} {out : Out} {s : Sem Value} (h : RanV P s E objs out) (he : execOp ρ o = (do let v ← s; pure (Next.value v))) : Ran P o ρ E objs out := by
  obtain ⟨E', v, h1, h2, h3, h4⟩ := h
  exact ⟨E', .value v, v, by rw [he]; simp [h1], .inl rfl, h2, h3, h4⟩

theorem Reps.of_map {s : St} {ρ : Operand → Value} : ∀ {xs : List Operand}, (∀ x ∈ xs, Rep E (s.ev x) (ρ x)) → Reps E (xs.map s.ev) (xs.map ρ)
  | [], _ => .nil
  | x :: xs, h => .cons (h x (by simp)) (Reps.of_map fun y hy => h y (by simp [hy]))

set_option maxHeartbeats 1000000 in
theorem eff_ok (hτ : TabOk P τ) {hx : Bool} {o : Oper} {s : St} {out : Out} (h : eff τ hx o.op s = some out) (ho : okP out.ob) (g : Good E s.objs) {ρ : Operand → Value}
    (hρ : ∀ x ∈ o.op.operands, Rep E (s.ev x) (ρ x)) (hc : ∀ v, ρ (.const v) = v) : Ran P o ρ E s.objs out := by
  obtain ⟨dst, op, type, pos, after, guard⟩ := o
  cases op <;> simp only [eff] at h <;> try (cases h; done)
  case move x =>
    cases h
    exact (RanV.same g (s := pure (ρ x)) (by simp) (hρ x (by simp [Op.operands]))).ran rfl
  case assign x =>
    cases h
    exact (RanV.same g (s := pure (ρ x)) (by simp) (hρ x (by simp [Op.operands]))).ran rfl
  case pick c a b =>
    have := effPick_ok (P := P) h ho g (hρ c (by simp [Op.operands])) (hρ a (by simp [Op.operands])) (hρ b (by simp [Op.operands])) (fun v e => by subst e; exact hc _) (fun v e => by subst e; exact hc _)
    exact this.ran (by simp [execOp])
  case alloc t => exact (effAlloc_ok hτ h g).ran rfl
  case box t x => exact (effBox_ok h g (hρ x (by simp [Op.operands]))).ran rfl
  case build t parts =>
    refine (effBuild_ok (vals := parts.map fun (i, x) => (i, ρ x)) hτ h g (by simp) (fun j p q hp hq => ?_)).ran rfl
    simp only [Array.toList_map, List.getElem?_map, Option.map_eq_some_iff] at hp hq
    obtain ⟨x, hx1, rfl⟩ := hp
    obtain ⟨y, hy1, rfl⟩ := hq
    rw [hx1] at hy1
    cases hy1
    exact hρ _ (by simp only [Op.operands]; exact List.mem_toArray.2 (List.mem_map.2 ⟨x, List.mem_of_getElem? hx1, rfl⟩))
  case buildSlice t n parts =>
    refine (effBuildSlice_ok (vals := parts.map fun (i, x) => (i, ρ x)) hτ h ho g (by simp) (fun j p q hp hq => ?_)).ran rfl
    simp only [Array.toList_map, List.getElem?_map, Option.map_eq_some_iff] at hp hq
    obtain ⟨x, hx1, rfl⟩ := hp
    obtain ⟨y, hy1, rfl⟩ := hq
    rw [hx1] at hy1
    cases hy1
    exact hρ _ (by simp only [Op.operands]; exact List.mem_toArray.2 (List.mem_map.2 ⟨x, List.mem_of_getElem? hx1, rfl⟩))
  case load t a => exact (effLoad_ok hτ h ho g (hρ a (by simp [Op.operands]))).ran rfl
  case store t a x =>
    obtain ⟨E', h1, h2, h3⟩ := effStore_ok hτ h ho g (hρ a (by simp [Op.operands])) (hρ x (by simp [Op.operands]))
    have hv : out.v = .tup [] := by
      unfold effStore at h
      repeat' split at h
      all_goals first | (cases h; done) | (simp only [Option.map_eq_some_iff, Option.bind_eq_some_iff] at h; obtain ⟨_, _, rfl⟩ := h; rfl)
    exact ⟨E', .skip, undef, by simp [execOp, h1], .inr ⟨rfl, rfl⟩, h2, h3, by rw [hv]; exact .tup rfl (fun j hj => by simp at hj)⟩
  case nilCheck x =>
    have r := hρ x (by simp [Op.operands])
    split at h
    · rename_i l v o e
      split at h
      · rename_i cs hcs
        split at h
        · rename_i hv
          cases h
          subst hv
          rw [e] at r
          have hq := ref_inv r (g.at_ _ _ hcs).1 rfl
          exact (RanV.same g (s := pure (ρ x)) (by simp) r).ran (by simp [execOp, hq])
        · cases h
      · cases h
    · rename_i cs e
      cases h
      rw [e] at r
      obtain ⟨b, off, vals, hq, _⟩ := er_inv r
      exact (RanV.same g (s := pure (ρ x)) (by simp) r).ran (by simp [execOp, hq])
    · rename_i b cs e
      cases h
      rw [e] at r
      cases r with
      | opt h1 h2 =>
        have r' := h1 ho
        obtain ⟨b, off, vals, hq, _⟩ := er_inv r'
        exact (RanV.same g (s := pure (ρ x)) (by simp) r').ran (by simp [execOp, hq])
    · rename_i f a b e
      cases h
      rw [e] at r
      cases hq : ρ x with
      | func fn fs cs =>
        rw [hq] at r
        have r2 := r
        cases r2
        exact (RanV.same g (s := pure (.func (.func f) fs cs)) (by simp) r).ran (by simp [execOp, hq])
      | _ => rw [hq] at r; cases r
    · cases h
  case binOp op xt x y yt => exact (effBin_ok (ox := x) (oy := y) hτ h ho g (hρ x (by simp [Op.operands])) (hρ y (by simp [Op.operands]))).ran rfl
  case unOp op xt x => exact (effUn_ok h ho g (hρ x (by simp [Op.operands]))).ran rfl
  case convert a b x => exact (effConvert_ok hτ h ho g (hρ x (by simp [Op.operands]))).ran rfl
  case makeFunc f a b =>
    cases h
    have h1 : Reps E (a.toList.map s.ev) (a.toList.map ρ) := Reps.of_map fun x hx => hρ x (by simp [Op.operands, Array.mem_toList_iff.1 hx])
    have h2 : Reps E (b.toList.map s.ev) (b.toList.map ρ) := Reps.of_map fun x hx => hρ x (by simp [Op.operands, Array.mem_toList_iff.1 hx])
    refine (RanV.same g (s := Instr.makeFunc f (a.map ρ) (b.map ρ)) (v := .func f (a.map ρ) (b.map ρ)) (by simp [Instr.makeFunc]) (.fn (by simp) (by simp) (fun j hj => ?_) (fun j hj => ?_))).ran rfl
    · have := h1.2 j hj
      simpa [Array.getD_eq_getD_getElem?, List.getD_eq_getElem?_getD] using this
    · have := h2.2 j hj
      simpa [Array.getD_eq_getD_getElem?, List.getD_eq_getElem?_getD] using this
  case makeSlice t l c => exact (effMakeSlice_ok hτ h ho g (hρ l (by simp [Op.operands])) (hρ c (by simp [Op.operands]))).ran rfl
  case slice t x lo hi mx =>
    cases mx with
    | some _ => cases h
    | none =>
      refine (effSlice_ok (lo' := lo.map ρ) (hi' := hi.map ρ) hτ h ho g (hρ x (by simp [Op.operands])) (fun v hv => ?_) (fun hv => ?_) (fun v hv => ?_) (fun hv => ?_)).ran rfl
      · cases lo with
        | none => cases hv
        | some y => cases hv; exact ⟨_, rfl, hρ y (by simp [Op.operands])⟩
      · cases lo with
        | none => rfl
        | some y => cases hv
      · cases hi with
        | none => cases hv
        | some y => cases hv; exact ⟨_, rfl, hρ y (by simp [Op.operands])⟩
      · cases hi with
        | none => rfl
        | some y => cases hv
  case fieldAddr t x f => exact (effFieldAddr_ok hτ h ho g (hρ x (by simp [Op.operands]))).ran rfl
  case indexAddr t x i => exact (effIndexAddr_ok hτ h ho g (hρ x (by simp [Op.operands])) (hρ i (by simp [Op.operands]))).ran rfl
  case extract x i =>
    have r := hρ x (by simp [Op.operands])
    split at h
    · rename_i vs e
      simp only [Option.map_eq_some_iff] at h
      obtain ⟨v, hv, rfl⟩ := h
      rw [e] at r
      cases hq : ρ x with
      | tuple us =>
        rw [hq] at r
        cases r with
        | tup h1 h2 =>
          have hi : i < vs.length := (List.getElem?_eq_some_iff.1 hv).1
          have := h2 i hi
          rw [List.getD_eq_getElem?_getD, hv] at this
          have hu : us[i]? = some (us.getD i undef) := by
            rw [Array.getD_eq_getD_getElem?, Array.getElem?_eq_getElem (by omega)]; rfl
          exact (RanV.same g (s := Instr.extract (ρ x) i) (v := us.getD i undef) (by rw [hq]; simp only [Instr.extract, hu]; rfl) this).ran rfl
      | _ => rw [hq] at r; cases r
    · cases h
  case call c =>
    obtain ⟨callee, args, argTypes⟩ := c
    cases callee <;> simp only at h <;> try (cases h; done)
    rename_i b
    have hargs : ∀ x ∈ args.toList, Rep E (s.ev x) (ρ x) := fun x hx => hρ x (by simp [Op.operands, Call.operands, Array.mem_toList_iff.1 hx])
    obtain ⟨al⟩ := args
    obtain ⟨tl⟩ := argTypes
    simp only [effBuiltin] at h
    split at h
    · rename_i t x e2
      obtain ⟨y, rfl, rfl⟩ := List.map_eq_singleton_iff.1 e2
      exact (effLen_ok (ty := type) hτ h ho g (hargs y (by simp))).ran (by simp [execOp, resolve, invoke, builtin])
    · rename_i t u x y e2
      match al, e2 with
      | [a, b], e2 =>
        simp only [List.map_cons, List.map_nil, List.cons.injEq, and_true] at e2
        obtain ⟨rfl, rfl⟩ := e2
        exact (effAppend_ok (ty := type) hτ h ho g (hargs a (by simp)) (hargs b (by simp))).ran (by simp [execOp, resolve, invoke, builtin])
    · rename_i t u x y e2
      match al, e2 with
      | [a, b], e2 =>
        simp only [List.map_cons, List.map_nil, List.cons.injEq, and_true] at e2
        obtain ⟨rfl, rfl⟩ := e2
        exact (effCopy_ok (ty := type) hτ h ho g (hargs a (by simp)) (hargs b (by simp))).ran (by simp [execOp, resolve, invoke, builtin])
    · rename_i x y e2
      match al, e2 with
      | [a, b], e2 =>
        simp only [List.map_cons, List.map_nil, List.cons.injEq, and_true] at e2
        obtain ⟨rfl, rfl⟩ := e2
        exact (effMinMax_ok (mx := false) h g (hargs a (by simp)) (hargs b (by simp)) ⟨_⟩ type).ran (by simp [execOp, resolve, invoke, builtin]; rfl)
    · rename_i x y e2
      match al, e2 with
      | [a, b], e2 =>
        simp only [List.map_cons, List.map_nil, List.cons.injEq, and_true] at e2
        obtain ⟨rfl, rfl⟩ := e2
        exact (effMinMax_ok (mx := true) h g (hargs a (by simp)) (hargs b (by simp)) ⟨_⟩ type).ran (by simp [execOp, resolve, invoke, builtin]; rfl)
    · cases h

end Go.Proofs.Ytlncingakpelbaa
