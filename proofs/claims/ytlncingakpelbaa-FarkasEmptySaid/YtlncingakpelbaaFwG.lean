/- Part of a proof that a law of the program holds for every input: how abstract states follow the program (part G). No conditions. -/
import Derived.Test.YtlncingakpelbaaFwF
import Derived.Laws.MakeOwn
namespace Go.Proofs.Ytlncingakpelbaa
open Go
set_option linter.unusedVariables false

variable {P : Program} {τ : TyTab} {E : Env} {objs : List Obj}

/-! ## What makes memory -/
theorem push_box (g : Good E objs) {cs : List V} {vals : Array Value} {t : TypeId} (r : Reps E cs vals.toList) :
    ∃ E', E'.w = E.w.alloc (.cells vals t) ∧ Good E' (objs ++ [.box cs]) ∧ Step E objs E' (objs ++ [.box cs]) ∧ Rep E' (.ref objs.length 0 0) (.pointer (some ⟨E.w.heap.size, 0, none⟩)) := by
  have hw := World.grownBy_alloc E.w (.cells vals t) none
  let L : Loc := ⟨E.w.heap.size, .nilIface, 0⟩
  have hx := push_ext g L hw
  have hr := r.mono hx
  have h := Good.push g (L := L) (o := .box cs) hw ⟨by simp [Env.push, upd_same], vals, t, by simp only [Env.push, upd_same, L]; exact heap_alloc_new _ _, by simpa using hr.1,
    fun j hj => by simpa [Array.getD_eq_getD_getElem?, List.getD_eq_getElem?_getD] using hr.2 j hj⟩ (fun _ => Nat.le_refl _)
  refine ⟨_, rfl, h.1, h.2, .ref rfl (by rw [g.len]; exact Nat.lt_succ_self _) (fun u hu => ?_)⟩
  rw [g.len] at hu ⊢
  simp only [Env.push, upd_same, Option.some.injEq] at hu
  subst hu
  exact ⟨Nat.le_refl _, fun _ => by simp only [Env.push, upd_same, L]⟩

theorem effAlloc_ok (hτ : TabOk P τ) {t : TypeId} {out : Out} (h : effAlloc τ objs t = some out) (g : Good E objs) : RanV P (Instr.alloc t true (.tuple #[])) E objs out := by
  unfold effAlloc at h
  split at h
  · cases h
  · rename_i ti hn hti
    cases h
    obtain ⟨info, z, hi, hs, hb, hz, hzl, hzs⟩ := (hτ t _ hti).info
    obtain ⟨E', hw, h1, h2, h3⟩ := push_box g (t := t) (cs := zeroV ti.zero) (vals := z.cells) (by rw [hzl]; exact zeroV_reps _)
    exact ⟨E', _, by rw [hw]; simp [Instr.alloc, zero_run hi hz, newVar, newRow], h1, h2, h3⟩
  · cases h

theorem effBox_ok {t : TypeId} {x : V} {out : Out} (h : effBox objs x = some out) (g : Good E objs) {c : Value} (r : Rep E x c) : RanV P (Instr.box t c) E objs out := by
  unfold effBox at h
  simp only [Option.map_eq_some_iff] at h
  obtain ⟨cs, h1, rfl⟩ := h
  obtain ⟨E', hw, h1, h2, h3⟩ := push_box g (t := t) (scells_reps h1 r).1
  exact ⟨E', _, by rw [hw]; simp [Instr.box, newVar, newRow], h1, h2, h3⟩

theorem fold_splice (off : Nat) : ∀ (vs : List Value) (k : Nat) (cells : Array Value), off + k + vs.length ≤ cells.size →
    (vs.zipIdx k).foldl (fun cs (p : Value × Nat) => cs.setIfInBounds (off + p.2) p.1) cells = (cells.toList.take (off + k) ++ vs ++ cells.toList.drop (off + k + vs.length)).toArray
  | [], k, cells, h => by simp
  | v :: vs, k, cells, h => by
    simp only [List.zipIdx_cons, List.foldl_cons, List.length_cons] at h ⊢
    rw [fold_splice off vs (k + 1) _ (by simp; omega)]
    apply Array.ext'
    simp only [Array.toList_setIfInBounds]
    apply List.ext_getElem?
    intro j
    have e1 : off + (k + 1) = off + k + 1 := by omega
    rw [e1]
    have s1 := splice_get (A := cells.toList.set (off + k) v) (vs := vs) (o := off + k + 1) (by simp; omega) j
    have s2 := splice_get (A := cells.toList) (vs := v :: vs) (o := off + k) (by simp; omega) j
    have e2 : off + k + (vs.length + 1) = off + k + 1 + vs.length := by omega
    simp only [List.length_cons, e2] at s2 ⊢
    rw [s1, s2]
    by_cases c1 : j < off + k
    · rw [if_pos (by omega), if_pos c1, List.getElem?_set_ne (by omega)]
    · by_cases c2 : j = off + k
      · subst c2
        rw [if_pos (by omega), if_neg c1, if_pos (by omega)]
        rw [List.getElem?_set_self (by simp; omega)]
        simp
      · rw [if_neg (by omega), if_neg c1]
        by_cases c3 : j < off + k + 1 + vs.length
        · rw [if_pos c3, if_pos (by omega)]
          have : j - (off + k) = (j - (off + k + 1)) + 1 := by omega
          rw [this]; simp
        · rw [if_neg c3, if_neg (by omega), List.getElem?_set_ne (by omega)]

theorem fill_cons {place : Nat → Option (Nat × Nat)} {cells : Array Value} {i off size : Nat} {v : Value} {rest : List (Nat × Value)} (hp : place i = some (off, size)) (hs : v.cells.toList.length = size)
    (hf : off + size ≤ cells.size) : Instr.fill place cells ((i, v) :: rest) = Instr.fill place (cells.toList.take off ++ v.cells.toList ++ cells.toList.drop (off + v.cells.toList.length)).toArray rest := by
  have hsz : v.cells.size = size := by simpa using hs
  have h1 : ¬ (v.cells.size ≠ size ∨ off + v.cells.size > cells.size) := by omega
  have hfo := fold_splice off v.cells.toList 0 cells (by simp; omega)
  simp only [Instr.fill, hp]
  rw [if_neg (by simpa using h1)]
  congr 1
  rw [← Array.foldl_toList, Array.toList_zipIdx]
  simpa using hfo

theorem fillV_ok {offs : List (Nat × Nat)} : ∀ {parts : List (Nat × V)} {vals : List (Nat × Value)} {cs cs' : List V} {cells : Array Value}, fillV offs cs parts = some cs' → Reps E cs cells.toList →
    parts.map (·.1) = vals.map (·.1) → (∀ (j : Nat) (p : Nat × V) (q : Nat × Value), parts[j]? = some p → vals[j]? = some q → Rep E p.2 q.2) →
    ∃ cells', Instr.fill (offs[·]?) cells vals = some cells' ∧ Reps E cs' cells'.toList
  | [], vals, cs, cs', cells, h, r, hm, _ => by
    have : vals = [] := by simpa using hm.symm
    subst this
    simp only [fillV] at h
    cases h
    exact ⟨cells, rfl, r⟩
  | (i, v) :: parts, [], cs, cs', cells, h, r, hm, _ => by simp at hm
  | (i, v) :: parts, (i', c) :: vals, cs, cs', cells, h, r, hm, hr => by
    simp only [List.map_cons, List.cons.injEq] at hm
    obtain ⟨rfl, hm⟩ := hm
    simp only [fillV] at h
    split at h
    · rename_i o n new ho hn
      split at h
      · rename_i hlen
        simp only [Option.bind_eq_some_iff] at h
        obtain ⟨cs1, h1, h2⟩ := h
        have hc := (scells_reps hn (hr 0 _ _ rfl rfl)).1
        obtain ⟨h3, h4⟩ := r.put h1 hc
        have hl : c.cells.toList.length = n := hc.1.trans hlen
        obtain ⟨cells', h5, h6⟩ := fillV_ok (vals := vals) (cells := (cells.toList.take o ++ c.cells.toList ++ cells.toList.drop (o + c.cells.toList.length)).toArray) h2 (by simpa using h3) hm
          (fun j p q hp hq => hr (j + 1) p q (by simpa using hp) (by simpa using hq))
        exact ⟨cells', by rw [fill_cons (place := (offs[·]?)) ho hl (by simp at h4 hl ⊢; omega)]; exact h5, h6⟩
      · cases h
    · cases h

theorem mapM_run {α β : Type} {f : α → Sem β} {g : α → β} : ∀ {l : List α}, (∀ x ∈ l, ∀ w, (f x).run P w = .ok (g x) w) → ∀ w, (l.mapM f).run P w = .ok (l.map g) w
  | [], _, w => by simp
  | x :: l, h, w => by
    have h1 := h x (by simp) w
    have h2 := mapM_run (l := l) (fun y hy => h y (by simp [hy])) w
    simp [h1, h2]

theorem effBuild_ok (hτ : TabOk P τ) {t : TypeId} {parts : List (Nat × V)} {vals : Array (Nat × Value)} {out : Out} (h : effBuild τ objs t parts = some out) (g : Good E objs)
    (hm : parts.map (·.1) = vals.toList.map (·.1)) (hr : ∀ (j : Nat) (p : Nat × V) (q : Nat × Value), parts[j]? = some p → vals.toList[j]? = some q → Rep E p.2 q.2) : RanV P (Instr.build t vals) E objs out := by
  unfold effBuild at h
  split at h
  · rename_i offs sz by_ zero co hti
    simp only [Option.map_eq_some_iff] at h
    obtain ⟨cs, h1, rfl⟩ := h
    have hok := hτ t _ hti
    obtain ⟨fs, h2, h3, h4⟩ := hok.kind
    obtain ⟨info, z, hi, hs, hb, hz, hzl, hzs⟩ := hok.info
    obtain ⟨cells', h5, h6⟩ := fillV_ok (vals := vals.toList) (cells := z.cells) h1 (by rw [hzl]; exact zeroV_reps _) hm hr
    have hplaces : ∀ w, (fs.mapM (fun f => Prod.mk f.offset <$> sizeOf f.type) : Sem (Array (Nat × Nat))).run P w = .ok offs.toArray w := by
      intro w
      rw [Array.mapM_eq_mapM_toList]
      simp only [Sem.run_map]
      rw [mapM_run (g := fun f => (f.offset, P.cellsOf f.type))]
      · simp [h3]
      · intro f hf w
        have hnz := h4 (f.offset, P.cellsOf f.type) (by rw [← h3]; exact List.mem_map.2 ⟨f, hf, rfl⟩)
        cases hq : P.info? f.type with
        | none => simp [Program.cellsOf, hq] at hnz
        | some i => simp [sizeOf_run hq, Program.cellsOf, hq]
    refine .same g (v := .agg cells') ?_ (.agg (by simpa using h6.1) (fun j hj => by simpa [Array.getD_eq_getD_getElem?, List.getD_eq_getElem?_getD] using h6.2 j hj))
    simp [Instr.build, zero_run hi hz, run_underlying h2, hplaces, h5]
  · cases h

end Go.Proofs.Ytlncingakpelbaa
