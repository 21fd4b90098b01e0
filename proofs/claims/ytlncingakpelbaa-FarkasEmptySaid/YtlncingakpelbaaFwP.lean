/- Part of a proof that a law of the program holds for every input: how abstract states follow the program (part P). No conditions. -/
import Derived.Test.YtlncingakpelbaaFwO
namespace Go.Proofs.Ytlncingakpelbaa
open Go
set_option linter.unusedVariables false

abbrev vi (n : Int) : V := .d (.int .i64) n
abbrev vb (b : Bool) : V := .d .bool b
abbrev gI (l : List Int) (i : Int) : Int := l.getD i.toNat 0

variable {P : Program} {τ : TyTab} {cx : Cx} {Q : Exit → St → Prop} {s : St}

/-! ## Steps that say less (ghosts), reckoned -/
inductive Gh where
  | keep (l : List Nat)
  | cut (m : Nat)
  | freeze (l : Nat)
  | adopt (t : Nat) (T : Ty)
  | data (t : Nat) (T : Ty)
  | reset (l : Nat)
  | nilAt (t : Nat) (p : List Nat) (T : Ty)
  | optN (t : Nat) (v : V)
  | optS (t : Nat)
  | nilBox (l : Nat) (p : List Nat) (T : Ty)
  | adoptBox (l j : Nat) (T : Ty)

/-- An empty slice inside a value is taken for a datum. -/
def V.nilAt : List Nat → Ty → V → V
  | [], T, .nils => .d (.sl T) []
  | i :: p, T, .agg cs => .agg (cs.modify i (V.nilAt p T))
  | i :: p, T, .tup cs => .tup (cs.modify i (V.nilAt p T))
  | i :: p, T, .er cs => .er (cs.modify i (V.nilAt p T))
  | _, _, v => v

theorem nilAt_rep {E : Env} {T : Ty} : ∀ {p : List Nat} {v : V} {c : Value}, Rep E v c → Rep E (v.nilAt p T) c
  | [], v, c, r => by
    cases r <;> first | exact .d ⟨_, _, rfl, ⟨Nat.le_refl _, Nat.zero_le _⟩, fun h => absurd rfl h⟩ | (simp only [V.nilAt]; first | exact .any _ | exact .nilp | exact .nilf | exact .nilm | (constructor <;> assumption))
  | i :: p, v, c, r => by
    have hm : ∀ {cs : List V} {f : Nat → Value}, (∀ j, j < cs.length → Rep E (cs.getD j .any) (f j)) → ∀ j, j < (cs.modify i (V.nilAt p T)).length → Rep E ((cs.modify i (V.nilAt p T)).getD j .any) (f j) := by
      intro cs f h j hj
      rw [List.length_modify] at hj
      have h1 := h j hj
      rw [List.getD_eq_getElem?_getD] at h1 ⊢
      rw [List.getElem?_modify]
      rw [List.getElem?_eq_getElem hj] at h1 ⊢
      simp only [Option.getD_some, Option.map_eq_map, Option.map_some] at h1 ⊢
      split
      · exact nilAt_rep h1
      · exact h1
    cases r <;> simp only [V.nilAt] <;> first
      | exact .any _ | exact .nilp | exact .nilf | exact .nilm | exact .nils _
      | (rename_i h1 h2; exact .agg (by rw [List.length_modify]; exact h1) (hm h2))
      | (rename_i h1 h2; exact .tup (by rw [List.length_modify]; exact h1) (hm h2))
      | (rename_i h1 h2 h3; exact .er _ h1 (fun j hj => h2 j (by rwa [List.length_modify] at hj)) (hm h3))
      | (constructor <;> assumption)

def setV (t : Nat) (v : V) (s : St) : St := { s with tmps := (t, v) :: s.tmps }

def St.reset (l : Nat) (s : St) : Option St :=
  match s.objs[l]? with
  | some (.row T xs ver) => some (({ s with objs := s.objs.set l (.row T xs 0) } : St).subst fun
      | .osl l' v => if l' = l then some (if v = ver then .osl l 0 else .any) else none
      | .osp l' v n => if l' = l then some (if v = ver then .osp l 0 n else .any) else none
      | .rref l' _ _ _ => if l' = l then some .any else none
      | .ref l' _ _ => if l' = l then some .any else none
      | .map l' => if l' = l then some .any else none
      | _ => none)
  | _ => none

/-- 'k': so many objects came in: they stay. -/
def ghost (k : Nat) : Gh → St → Option St
  | .keep l, s => some (s.keep l)
  | .cut m, s => if k ≤ m then if m ≤ s.objs.length then if tmpsBelow m s.tmps then if objsBelow m (s.objs.take m) then some (s.cut m) else none else none else none else none
  | .freeze l, s => some (s.freeze l)
  | .adopt t T, s => if 0 < T.size then match s.get t with
    | .nils => some { s with tmps := (t, .osl s.objs.length 0) :: s.tmps, objs := s.objs ++ [.row T [] 0] }
    | _ => none
    else none
  | .data t T, s => match s.get t with
    | .nils => some { s with tmps := (t, .d (.sl T) []) :: s.tmps }
    | _ => none
  | .reset l, s => if k ≤ l then s.reset l else none
  | .nilAt t p T, s => some (setV t ((s.get t).nilAt p T) s)
  | .optN t v, s => match s.get t with
    | .nilp => some (setV t (.opt false v) s)
    | _ => none
  | .optS t, s => match s.get t with
    | .er cs => some (setV t (.opt true (.er cs)) s)
    | _ => none
  | .nilBox l p T, s => match s.objs[l]? with
    | some (.box cs) => match (V.agg cs).nilAt p T with
      | .agg cs' => some { s with objs := s.objs.set l (.box cs') }
      | _ => none
    | _ => none
  | .adoptBox l j T, s => if 0 < T.size then match s.objs[l]? with
    | some (.box cs) => match cs[j]? with
      | some .nils => some { s with objs := s.objs.set l (.box (cs.set j (.osl s.objs.length 0))) ++ [.row T [] 0] }
      | _ => none
    | _ => none
    else none

def ghosts (k : Nat) : List Gh → St → Option St
  | [], s => some s
  | g :: l, s => match ghost k g s with
    | some s' => ghosts k l s'
    | none => none

theorem wk_reset {l : Nat} {s s' : St} (hk : cx.E.len ≤ l) (h : s.reset l = some s') : Wk cx s s' := by
  rintro a w ⟨E, rfl, g, st, h4, h5, h6⟩
  unfold St.reset at h
  split at h
  · rename_i T xs ver ho
    cases h
    have hat := g.at_ l _ ho
    have hlt : l < s.objs.length := (List.getElem?_eq_some_iff.1 ho).1
    let E' : Env := ⟨E.w, E.S, E.len, E.loc, upd E.ver l (some 0)⟩
    have hle : l < E.len := by rw [← g.len]; exact hlt
    have hS : ∀ b, E.S b → E'.S b ∧ E'.w.heap[b]? = E.w.heap[b]? := fun b hb => ⟨hb, rfl⟩
    have hv0 : E'.ver l = some 0 := upd_same _ _ _
    have hvn : ∀ j, j ≠ l → E'.ver j = E.ver j := fun j hj => upd_ne _ _ hj
    have hf : ∀ {v : V} {c : Value}, Rep E v c → Rep E' (V.subst (fun
      | .osl l' v => if l' = l then some (if v = ver then .osl l 0 else .any) else none
      | .osp l' v n => if l' = l then some (if v = ver then .osp l 0 n else .any) else none
      | .rref l' _ _ _ => if l' = l then some .any else none
      | .ref l' _ _ => if l' = l then some .any else none
      | .map l' => if l' = l then some .any else none
      | _ => none) v) c := by
      intro v c r
      refine subst_rep' hS (fun v v' c hfv r => ?_) (fun v c h1 h2 r => ?_) r
      · split at hfv
        · rename_i l' v
          split at hfv
          · rename_i e; subst e
            cases hfv
            split
            · rename_i e; subst e
              have hc := osl_inv r hat.1 rfl
              cases r with | osl k1 k2 k3 => exact .osl k1 hle (fun u hu => by rw [hv0] at hu; cases hu; exact ⟨Nat.le_refl _, fun _ => hc⟩)
            · exact .any _
          · cases hfv
        · rename_i l' v n
          split at hfv
          · rename_i e; subst e
            cases hfv
            split
            · rename_i e; subst e
              have hc := osp_inv r hat.1 rfl
              cases r with | osp k1 k2 k3 => exact .osp k1 hle (fun u hu => by rw [hv0] at hu; cases hu; exact ⟨Nat.le_refl _, fun _ => hc⟩)
            · exact .any _
          · cases hfv
        · split at hfv
          · cases hfv; exact .any _
          · cases hfv
        · split at hfv
          · cases hfv; exact .any _
          · cases hfv
        · split at hfv
          · cases hfv; exact .any _
          · cases hfv
        · cases hfv
      · cases v <;> simp [V.isRef] at h1
        · simp at h2
          cases r with | ref k1 k2 k3 => exact .ref k1 k2 (by rw [hvn _ h2]; exact k3)
        · simp at h2
          cases r with | rref k1 k2 k3 => exact .rref k1 k2 (by rw [hvn _ h2]; exact k3)
        · simp at h2
          cases r with | osl k1 k2 k3 => exact .osl k1 k2 (by rw [hvn _ h2]; exact k3)
        · simp at h2
          cases r with | osp k1 k2 k3 => exact .osp k1 k2 (by rw [hvn _ h2]; exact k3)
        · simp at h2
          cases r with | map k1 k2 k3 => exact .map k1 k2 (by rw [hvn _ h2]; exact k3)
    have hget : ∀ (j : Nat) p, (s.objs.set l (.row T xs 0))[j]? = some p → (j ≠ l ∧ s.objs[j]? = some p) ∨ (j = l ∧ p = .row T xs 0) := by
      intro j p h
      by_cases e : j = l
      · subst e; rw [List.getElem?_set_self hlt] at h; exact .inr ⟨rfl, by cases h; rfl⟩
      · rw [List.getElem?_set_ne (Ne.symm e)] at h; exact .inl ⟨e, h⟩
    have hown : ∀ b, ownB E' (s.objs.set l (.row T xs 0)) b → ownB E s.objs b := by
      rintro b ⟨j, p, h1, h2, h3⟩
      rcases hget j p h1 with ⟨_, h⟩ | ⟨rfl, rfl⟩
      · exact ⟨j, p, h, h2, h3⟩
      · exact ⟨j, _, ho, h2, h3⟩
    refine ⟨E', rfl, ⟨by simp [St.subst, E', g.len], fun j p h => ?_, fun b h => g.ns b (hown b (ownB_subst.1 h)), g.sl, fun i j p q h1 h2 h3 h4 h5 => ?_⟩,
      ⟨⟨st.ext.S, st.ext.len, fun j hj u hu => st.ext.ver j hj u (by rw [hvn j (by omega)] at hu; exact hu)⟩, st.os, st.tape, st.output, st.size, st.frame, fun b hb => st.own b (hown b (ownB_subst.1 hb)), st.st⟩, h4, h5, fun t => ?_⟩
    · simp only [St.subst, List.getElem?_map, Option.map_eq_some_iff] at h
      obtain ⟨p', h1, rfl⟩ := h
      rcases hget j p' h1 with ⟨hne, h⟩ | ⟨rfl, rfl⟩
      · have hk := g.at_ j _ h
        cases p' with
        | dead => exact (hvn j hne).trans hk
        | box cs =>
          obtain ⟨k2, vals, t, k3, k4, k5⟩ := hk
          exact ⟨(hvn j hne).trans k2, vals, t, k3, by rw [substL_eq, List.length_map]; exact k4, fun i hi => by
            rw [substL_eq, List.length_map] at hi; rw [substL_getD hi]; exact hf (k5 i hi)⟩
        | row t x v => obtain ⟨k1, k2⟩ := hk; exact ⟨(hvn j hne).trans k1, k2⟩
        | smap t m => obtain ⟨k1, k2⟩ := hk; exact ⟨(hvn j hne).trans k1, k2⟩
        | imap t m => obtain ⟨k1, k2⟩ := hk; exact ⟨(hvn j hne).trans k1, k2⟩
      · obtain ⟨k1, k2⟩ := hat; exact ⟨hv0, k2⟩
    · simp only [St.subst, List.getElem?_map, Option.map_eq_some_iff] at h1 h2
      obtain ⟨p', h6, rfl⟩ := h1
      obtain ⟨q', h7, rfl⟩ := h2
      have k3 := Obj.has_subst.1 h3
      have k4 := Obj.has_subst.1 h4
      rcases hget i p' h6 with ⟨_, h8⟩ | ⟨rfl, rfl⟩ <;> rcases hget j q' h7 with ⟨_, h9⟩ | ⟨rfl, rfl⟩
      · exact g.inj i j _ _ h8 h9 k3 k4 h5
      · exact g.inj i j _ _ h8 ho k3 k4 h5
      · exact g.inj i j _ _ ho h9 k3 k4 h5
      · rfl
    · show Rep E' (look t (s.tmps.map _)) _
      rw [look_subst rfl]
      exact hf (h6 t)
  · cases h

theorem wk_data {t : Nat} {T : Ty} (ht : s.get t = .nils) : Wk cx s { s with tmps := (t, .d (.sl T) []) :: s.tmps } := by
  rintro a w ⟨E, rfl, g, st, h4, h5, h6⟩
  refine ⟨E, rfl, g, st, h4, h5, fun u => ?_⟩
  show Rep E (look u ((t, _) :: s.tmps)) _
  rw [look_cons]
  split
  · rename_i e; subst e
    have r := h6 t
    rw [ht] at r
    generalize a.tmps.getD t undef = c at r ⊢
    cases r
    exact .d ⟨_, _, rfl, ⟨Nat.le_refl _, Nat.zero_le _⟩, fun h => absurd rfl h⟩
  · exact h6 u

theorem wk_setV {t : Nat} {v : V} (h : ∀ E c, Rep E (s.get t) c → Rep E v c) : Wk cx s (setV t v s) := by
  rintro a w ⟨E, rfl, g, st, h4, h5, h6⟩
  refine ⟨E, rfl, g, st, h4, h5, fun u => ?_⟩
  show Rep E (look u ((t, _) :: s.tmps)) _
  rw [look_cons]
  split
  · rename_i e; subst e; exact h E _ (h6 t)
  · exact h6 u

theorem ObjAt.boxW {E : Env} {l : Nat} {cs cs' : List V} (hl : cs'.length = cs.length) (hr : ∀ E j c, j < cs.length → Rep E (cs.getD j .any) c → Rep E (cs'.getD j .any) c) (h : ObjAt E l (.box cs)) : ObjAt E l (.box cs') := by
  obtain ⟨h1, vals, t, h2, h3, h4⟩ := h
  exact ⟨h1, vals, t, h2, by rw [hl]; exact h3, fun j hj => hr E j _ (by rwa [hl] at hj) (h4 j (by rwa [hl] at hj))⟩

theorem wk_boxW {l : Nat} {cs cs' : List V} (ho : s.objs[l]? = some (.box cs)) (hl : cs'.length = cs.length) (hr : ∀ E j c, j < cs.length → Rep E (cs.getD j .any) c → Rep E (cs'.getD j .any) c) : Wk cx s { s with objs := s.objs.set l (.box cs') } := by
  rintro a w ⟨E, rfl, g, st, h4, h5, h6⟩
  have hlt : l < s.objs.length := (List.getElem?_eq_some_iff.1 ho).1
  have hget : ∀ (j : Nat) p, (s.objs.set l (.box cs'))[j]? = some p → ∃ q, s.objs[j]? = some q ∧ (p = q ∨ (j = l ∧ q = .box cs ∧ p = .box cs')) := by
    intro j p h
    by_cases e : j = l
    · subst e; rw [List.getElem?_set_self hlt] at h; exact ⟨_, ho, .inr ⟨rfl, rfl, by cases h; rfl⟩⟩
    · rw [List.getElem?_set_ne (Ne.symm e)] at h; exact ⟨p, h, .inl rfl⟩
  have hown : ∀ b, ownB E (s.objs.set l (.box cs')) b → ownB E s.objs b := by
    rintro b ⟨j, p, h1, h2, h3⟩
    obtain ⟨q, hq, rfl | ⟨rfl, rfl, rfl⟩⟩ := hget j p h1
    · exact ⟨j, p, hq, h2, h3⟩
    · exact ⟨j, _, hq, trivial, h3⟩
  refine ⟨E, rfl, ⟨by rw [List.length_set]; exact g.len, fun j p h => ?_, fun b h => g.ns b (hown b h), g.sl, fun i j p q h1 h2 h3 h4 h5 => ?_⟩,
    ⟨st.ext, st.os, st.tape, st.output, st.size, st.frame, fun b hb => st.own b (hown b hb), st.st⟩, h4, h5, h6⟩
  · obtain ⟨q, hq, rfl | ⟨rfl, rfl, rfl⟩⟩ := hget j p h
    · exact g.at_ j _ hq
    · exact (g.at_ j _ hq).boxW hl hr
  · obtain ⟨p', hp, e1⟩ := hget i p h1
    obtain ⟨q', hq, e2⟩ := hget j q h2
    refine g.inj i j p' q' hp hq ?_ ?_ h5
    · rcases e1 with rfl | ⟨rfl, rfl, rfl⟩
      · exact h3
      · trivial
    · rcases e2 with rfl | ⟨rfl, rfl, rfl⟩
      · exact h4
      · trivial

theorem Good.setBox {E : Env} {objs : List Obj} {l : Nat} {cs cs' : List V} (g : Good E objs) (ho : objs[l]? = some (.box cs)) (h' : ObjAt E l (.box cs')) :
    Good E (objs.set l (.box cs')) ∧ ∀ E0 imp, Step E0 imp E objs → Step E0 imp E (objs.set l (.box cs')) := by
  have hlt : l < objs.length := (List.getElem?_eq_some_iff.1 ho).1
  have hget : ∀ (j : Nat) p, (objs.set l (.box cs'))[j]? = some p → ∃ q, objs[j]? = some q ∧ (p = q ∨ (j = l ∧ q = .box cs ∧ p = .box cs')) := by
    intro j p h
    by_cases e : j = l
    · subst e; rw [List.getElem?_set_self hlt] at h; exact ⟨_, ho, .inr ⟨rfl, rfl, by cases h; rfl⟩⟩
    · rw [List.getElem?_set_ne (Ne.symm e)] at h; exact ⟨p, h, .inl rfl⟩
  have hown : ∀ b, ownB E (objs.set l (.box cs')) b → ownB E objs b := by
    rintro b ⟨j, p, h1, h2, h3⟩
    obtain ⟨q, hq, rfl | ⟨rfl, rfl, rfl⟩⟩ := hget j p h1
    · exact ⟨j, p, hq, h2, h3⟩
    · exact ⟨j, _, hq, trivial, h3⟩
  refine ⟨⟨by rw [List.length_set]; exact g.len, fun j p h => ?_, fun b h => g.ns b (hown b h), g.sl, fun i j p q h1 h2 h3 h4 h5 => ?_⟩,
    fun E0 imp st => ⟨st.ext, st.os, st.tape, st.output, st.size, st.frame, fun b hb => st.own b (hown b hb), st.st⟩⟩
  · obtain ⟨q, hq, rfl | ⟨rfl, rfl, rfl⟩⟩ := hget j p h
    · exact g.at_ j _ hq
    · exact h'
  · obtain ⟨p', hp, e1⟩ := hget i p h1
    obtain ⟨q', hq, e2⟩ := hget j q h2
    refine g.inj i j p' q' hp hq ?_ ?_ h5
    · rcases e1 with rfl | ⟨rfl, rfl, rfl⟩
      · exact h3
      · trivial
    · rcases e2 with rfl | ⟨rfl, rfl, rfl⟩
      · exact h4
      · trivial

theorem wk_adoptBox {l j : Nat} {cs : List V} (T : Ty) (hT : 0 < T.size) (ho : s.objs[l]? = some (.box cs)) (hj : cs[j]? = some .nils) :
    Wk cx s { s with objs := s.objs.set l (.box (cs.set j (.osl s.objs.length 0))) ++ [.row T [] 0] } := by
  rintro a w ⟨E, rfl, g, st, h4, h5, h6⟩
  have hlt : l < s.objs.length := (List.getElem?_eq_some_iff.1 ho).1
  have hjl : j < cs.length := (List.getElem?_eq_some_iff.1 hj).1
  obtain ⟨k1, vals, t, k2, k3, k4⟩ := g.at_ l _ ho
  have r := k4 j hjl
  rw [List.getD_eq_getElem?_getD, hj, Option.getD_some] at r
  generalize hc : vals.getD j undef = c at r
  cases r with
  | nils ad =>
    let L : Loc := ⟨0, .slice ad 0 0, T.size⟩
    have hp := Good.push g (w := E.w) (L := L) (o := .row T [] 0) ⟨rfl, rfl, rfl, Nat.le_refl _, fun _ _ _ => rfl⟩
      ⟨by simp [Env.push, upd_same], by simp only [Env.push, upd_same, L], hT, 0, [], rfl, .inl ⟨ad, by simp only [Env.push, upd_same, L], rfl⟩⟩ (fun hh => absurd ⟨ad, rfl⟩ hh)
    have ho' : (s.objs ++ [.row T [] 0])[l]? = some (.box cs) := by rw [List.getElem?_append_left hlt]; exact ho
    obtain ⟨m1, vals', t', m2, m3, m4⟩ := hp.1.at_ l _ ho'
    have hvv : vals' = vals := by
      have hL : (E.push E.w L).loc l = E.loc l := by simp only [Env.push]; exact upd_ne _ _ (by rw [← g.len]; omega)
      rw [hL] at m2
      have := m2.symm.trans k2
      cases this; rfl
    have hb : ObjAt (E.push E.w L) l (.box (cs.set j (.osl s.objs.length 0))) := by
      refine ⟨m1, vals', t', m2, by rw [List.length_set]; exact m3, fun i hi => ?_⟩
      rw [List.length_set] at hi
      by_cases e : i = j
      · subst e
        rw [List.getD_eq_getElem?_getD, List.getElem?_set_self hi, Option.getD_some, hvv, hc]
        refine .osl rfl (by rw [g.len]; exact Nat.lt_succ_self _) (fun u hu => ?_)
        rw [g.len] at hu ⊢
        simp only [Env.push, upd_same, Option.some.injEq] at hu
        subst hu
        exact ⟨Nat.le_refl _, fun _ => by simp only [Env.push, upd_same, L]⟩
      · have := m4 i hi
        rw [List.getD_eq_getElem?_getD] at this ⊢
        rw [List.getElem?_set_ne (Ne.symm e)]
        exact this
    obtain ⟨n1, n2⟩ := hp.1.setBox ho' hb
    rw [List.set_append_left _ _ hlt] at n1 n2
    exact ⟨E.push E.w L, rfl, n1, n2 _ _ (st.trans hp.2), h4, h5, fun u => (h6 u).mono hp.2.ext⟩

theorem nilAt_cells {E : Env} {T : Ty} {i : Nat} {p : List Nat} {cs cs' : List V} (h : (V.agg cs).nilAt (i :: p) T = .agg cs') : cs'.length = cs.length ∧ ∀ E j c, j < cs.length → Rep E (cs.getD j .any) c → Rep E (cs'.getD j .any) c := by
  simp only [V.nilAt, V.agg.injEq] at h
  subst h
  refine ⟨List.length_modify .., fun E j c hj r => ?_⟩
  rw [List.getD_eq_getElem?_getD] at r ⊢
  rw [List.getElem?_modify]
  rw [List.getElem?_eq_getElem hj] at r ⊢
  simp only [Option.getD_some, Option.map_eq_map, Option.map_some] at r ⊢
  split
  · exact nilAt_rep r
  · exact r

theorem wk_ghost {g : Gh} {s s' : St} {k : Nat} (hk : cx.E.len = k) (h : ghost k g s = some s') : Wk cx s s' := by
  subst hk
  cases g with
  | keep l => simp only [ghost] at h; cases h; exact wk_keep l s
  | cut m =>
    simp only [ghost] at h
    repeat' split at h
    all_goals first | (cases h; done) | skip
    cases h
    exact wk_cut m (by assumption) (by assumption) (by assumption) (by assumption)
  | freeze l => simp only [ghost] at h; cases h; exact wk_freeze cx l s
  | adopt t T =>
    simp only [ghost] at h
    split at h
    · rename_i hT
      split at h
      · rename_i ht; cases h; exact wk_adopt t T hT ht
      · cases h
    · cases h
  | data t T =>
    simp only [ghost] at h
    split at h
    · rename_i ht; cases h; exact wk_data ht
    · cases h
  | reset l =>
    simp only [ghost] at h
    split at h
    · exact wk_reset (by assumption) h
    · cases h
  | nilAt t p T => simp only [ghost] at h; cases h; exact wk_setV fun E c r => nilAt_rep r
  | optN t v =>
    simp only [ghost] at h
    split at h
    · rename_i ht
      cases h
      exact wk_setV fun E c r => by rw [ht] at r; cases r; exact .opt (fun e => by cases e) (fun _ => rfl)
    · cases h
  | optS t =>
    simp only [ghost] at h
    split at h
    · rename_i ht
      cases h
      exact wk_setV fun E c r => by rw [ht] at r; exact .opt (fun _ => r) (fun e => by cases e)
    · cases h
  | nilBox l p T =>
    simp only [ghost] at h
    split at h
    · rename_i cs ho
      split at h
      · rename_i cs' hc
        cases h
        cases p with
        | nil => simp only [V.nilAt, V.agg.injEq] at hc; subst hc; exact wk_boxW ho rfl fun E j c hj r => r
        | cons i p => exact wk_boxW ho (nilAt_cells (E := cx.E) hc).1 (nilAt_cells (E := cx.E) hc).2
      · cases h
    · cases h
  | adoptBox l j T =>
    simp only [ghost] at h
    split at h
    · rename_i hT
      split at h
      · rename_i cs ho
        split at h
        · rename_i hj; cases h; exact wk_adoptBox T hT ho hj
        · cases h
      · cases h
    · cases h

theorem wk_ghosts {k : Nat} (hk : cx.E.len = k) : ∀ {l : List Gh} {s s' : St}, ghosts k l s = some s' → Wk cx s s'
  | [], s, s', h => by simp only [ghosts] at h; cases h; exact .refl s
  | g :: l, s, s', h => by
    simp only [ghosts] at h
    split at h
    · rename_i s1 h1
      exact (wk_ghost hk h1).trans (wk_ghosts hk h)
    · cases h

theorem awp_gh {c : Code} {k : Nat} (hk : cx.E.len = k) (l : List Gh) (s' : St) (h : ghosts k l s = some s') (hn : AWp P cx c Q s') : AWp P cx c Q s := awp_wk (wk_ghosts hk h) hn
theorem aops_gh {ops : Array Oper} {il : List Nat} {k : Nat} (hk : cx.E.len = k) (l : List Gh) (s' : St) (h : ghosts k l s = some s') (hn : AOps P cx ops Q il s') : AOps P cx ops Q il s := aops_wk (wk_ghosts hk h) hn

/-! ## Regions, calls, loops: the forms that the printed walks use -/
theorem awp_eq {c c' : Code} (h : c = c') (k : AWp P cx c' Q s) : AWp P cx c Q s := h ▸ k

def elemN (n : Nat) : List Nat → Bool
  | [] => false
  | m :: l => Nat.beq m n || elemN n l

def runR (τ : TyTab) (wraps : List Nat) (c : Code) (live : List Nat) (s : St) : Option (List Prop × St) :=
  match c with
  | .region _ ops false => match runOps τ (fun i => !elemN i wraps) ops.toList (List.range ops.size) s with
    | some (obs, s') => some (obs, s'.keep live)
    | none => none
  | _ => none

theorem awp_rg (hτ : TabOk P τ) {c : Code} (live wraps : List Nat) (obs : List Prop) (s' : St) (h : runR τ wraps c live s = some (obs, s')) (ho : AllP obs) (hk : Q .normal s') : AWp P cx c Q s := by
  unfold runR at h
  split at h
  · split at h
    · rename_i obs' s1 h1
      cases h
      exact awp_run hτ h1 ho (wk_keep _ _) hk
    · cases h
  · cases h

def isRg : Code → Bool
  | .region _ _ false => true
  | _ => false

theorem awp_rgo {c : Code} (hc : isRg c = true) (h : AOps P cx (regOps c) Q (List.range (regOps c).size) s) : AWp P cx c Q s := by
  cases c with
  | region id ops d => cases d with
    | false => exact awp_region h
    | true => cases hc
  | _ => cases hc

theorem aops_eq {ops : Array Oper} {l l' : List Nat} (h : l = l') (k : AOps P cx ops Q l' s) : AOps P cx ops Q l s := h ▸ k

def runI (τ : TyTab) (wraps : List Nat) (ops : List Oper) (l : List Nat) (live : List Nat) (s : St) : Option (List Prop × St) :=
  match runOps τ (fun i => !elemN i wraps) ops l s with
  | some (obs, s') => some (obs, s'.keep live)
  | none => none

theorem aops_seg (hτ : TabOk P τ) {ops : Array Oper} {l : List Nat} (l1 l2 : List Nat) (hl : l = l1 ++ l2) (live wraps : List Nat) (obs : List Prop) (s' : St) (h : runI τ wraps ops.toList l1 live s = some (obs, s'))
    (ho : AllP obs) (hk : AOps P cx ops Q l2 s') : AOps P cx ops Q l s := by
  subst hl
  unfold runI at h
  split at h
  · rename_i obs' s1 h1
    cases h
    exact runOps_ok hτ h1 ho (aops_wk (wk_keep _ _) hk)
  · cases h

/-- A call by a function value that is known. -/
def callAt (ops : List Oper) (i : Nat) (s : St) : Option (FuncId × List V × Nat) :=
  match ops[i]? with
  | some ⟨some d, .call ⟨.value x, args, _⟩, _, _, _, none⟩ => match s.ev x with
    | .fn (.func f) fs cs => if d < s.nt then some (f, fs ++ (args.toList.map s.ev ++ cs), d) else none
    | _ => none
  | _ => none

theorem aops_callN {ops : Array Oper} {i : Nat} {l : List Nat} {f : FuncId} {vs : List V} {d : Nat} (h : callAt ops.toList i s = some (f, vs, d)) (hc : CallOk P f) {Q' : V → List Obj → Prop} (hq : VCalls P f vs s.objs Q')
    (hk : ∀ r objs, Q' r objs → AOps P cx ops Q l ⟨s.nt, (d, r) :: s.tmps, objs⟩) : AOps P cx ops Q (i :: l) s := by
  unfold callAt at h
  split at h
  · rename_i d' x args _ _ _ _ hi
    split at h
    · rename_i f' fs cs hx
      split at h
      · rename_i hd
        cases h
        exact aops_call (by simpa using hi) rfl rfl hx hc (by rw [List.append_assoc]; exact hq) (fun d e => by cases e; exact hd) hk
      · cases h
    · cases h
  · cases h

/-- A contract whose result is a datum (no own object in it), beside whatever objects. -/
theorem VCalls.plain {f : FuncId} {args : List V} {r : V} (h : VCalls P f args [] fun r' o => r' = r ∧ o = []) (hu : V.underL 0 args = true) (hr : V.subst (ren [] 0) r = r) (hr' : ∀ n, V.subst (ren [] n) r = r) (objs : List Obj) :
    VCalls P f args objs fun r' o => r' = r ∧ o = objs :=
  (h.beside hu objs).mono fun r' o ⟨r1, o1, ⟨e1, e2⟩, h1, h2⟩ => by subst e1 e2; exact ⟨by rw [h1, hr'], by simpa using h2⟩

theorem loop_back {I : Nat → St → Prop} {n m : Nat} {s s' : St} (hm : m < n) (hw : Wk cx s s') (hI : I m s') : ∃ m, m < n ∧ ∃ s'', Wk cx s s'' ∧ I m s'' := ⟨m, hm, s', hw, hI⟩

/-- At the end: the result and the own objects that are handed back, reckoned. -/
def finish (τ : TyTab) (fn : Func) (m : Nat) (s : St) : Option (V × List Obj) :=
  match resV τ s fn.results.toList with
  | none => none
  | some vs => if m ≤ s.objs.length then if V.underL m vs then if objsBelow m (s.objs.take m) then some (mkRes vs, s.objs.take m) else none else none else none

theorem ret_ok {fn : Func} {k m : Nat} {Q : V → List Obj → Prop} {r : V} {objs : List Obj} (h : finish τ fn m s = some (r, objs)) (hk : k ≤ objs.length) (hq : Q r objs) : Ret τ fn (fun r o => k ≤ o.length ∧ Q r o) s := by
  unfold finish at h
  split at h
  · cases h
  · rename_i vs hv
    repeat' split at h
    all_goals first | (cases h; done) | skip
    cases h
    exact ⟨vs, m, hv, by assumption, by assumption, by assumption, hk, hq⟩

end Go.Proofs.Ytlncingakpelbaa
