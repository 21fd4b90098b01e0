/- Part of a proof that a law of the program holds for every input: how abstract states follow the program (part L). No conditions. -/
import Derived.Test.YtlncingakpelbaaFwK
namespace Go.Proofs.Ytlncingakpelbaa
open Go
set_option linter.unusedVariables false

/-! ## Replacing parts of an abstract value -/
mutual
def V.subst (f : V → Option V) : V → V
  | .fn g a b => match f (.fn g a b) with
    | some v => v
    | none => .fn g (V.substL f a) (V.substL f b)
  | .agg cs => match f (.agg cs) with
    | some v => v
    | none => .agg (V.substL f cs)
  | .tup cs => match f (.tup cs) with
    | some v => v
    | none => .tup (V.substL f cs)
  | .er cs => match f (.er cs) with
    | some v => v
    | none => .er (V.substL f cs)
  | .when b v => match f (.when b v) with
    | some v => v
    | none => .when b (V.subst f v)
  | .opt b v => match f (.opt b v) with
    | some v => v
    | none => .opt b (V.subst f v)
  | v => match f v with
    | some v => v
    | none => v
def V.substL (f : V → Option V) : List V → List V
  | [] => []
  | v :: l => V.subst f v :: V.substL f l
end

theorem substL_eq (f : V → Option V) : ∀ l : List V, V.substL f l = l.map (V.subst f)
  | [] => rfl
  | v :: l => by simp only [V.substL, substL_eq f l, List.map_cons]

theorem substL_getD {f : V → Option V} {l : List V} {j : Nat} (hj : j < l.length) : (V.substL f l).getD j .any = V.subst f (l.getD j .any) := by
  rw [substL_eq]
  simp [List.getD_eq_getElem?_getD, List.getElem?_map, List.getElem?_eq_getElem hj]

def V.isRef : V → Bool
  | .ref .. | .rref .. | .osl .. | .osp .. | .map _ => true
  | _ => false

/-- What holds of the replaced parts holds of the whole. -/
theorem subst_rep' {f : V → Option V} {E E' : Env} (hS : ∀ b, E.S b → E'.S b ∧ E'.w.heap[b]? = E.w.heap[b]?) (hf : ∀ v v' c, f v = some v' → Rep E v c → Rep E' v' c)
    (hr : ∀ v c, v.isRef = true → f v = none → Rep E v c → Rep E' v c) {v : V} {c : Value} (r : Rep E v c) : Rep E' (V.subst f v) c := by
  have len : ∀ l : List V, (V.substL f l).length = l.length := fun l => by rw [substL_eq, List.length_map]
  induction r with
  | any v =>
    simp only [V.subst]; split
    · rename_i h; exact hf _ _ _ h (.any v)
    · exact .any v
  | d hc =>
    simp only [V.subst]; split
    · rename_i h; exact hf _ _ _ h (.d hc)
    · exact .d (hc.mono hS)
  | nilp =>
    simp only [V.subst]; split
    · rename_i h; exact hf _ _ _ h .nilp
    · exact .nilp
  | nilf =>
    simp only [V.subst]; split
    · rename_i h; exact hf _ _ _ h .nilf
    · exact .nilf
  | nils a =>
    simp only [V.subst]; split
    · rename_i h; exact hf _ _ _ h (.nils a)
    · exact .nils a
  | nilm =>
    simp only [V.subst]; split
    · rename_i h; exact hf _ _ _ h .nilm
    · exact .nilm
  | fn h1 h2 h3 h4 i1 i2 =>
    simp only [V.subst]; split
    · rename_i h; exact hf _ _ _ h (.fn h1 h2 h3 h4)
    · exact .fn (by rw [len]; exact h1) (by rw [len]; exact h2) (fun j hj => by rw [len] at hj; rw [substL_getD hj]; exact i1 j hj) (fun j hj => by rw [len] at hj; rw [substL_getD hj]; exact i2 j hj)
  | agg h1 h2 i1 =>
    simp only [V.subst]; split
    · rename_i h; exact hf _ _ _ h (.agg h1 h2)
    · exact .agg (by rw [len]; exact h1) (fun j hj => by rw [len] at hj; rw [substL_getD hj]; exact i1 j hj)
  | tup h1 h2 i1 =>
    simp only [V.subst]; split
    · rename_i h; exact hf _ _ _ h (.tup h1 h2)
    · exact .tup (by rw [len]; exact h1) (fun j hj => by rw [len] at hj; rw [substL_getD hj]; exact i1 j hj)
  | er c hb hc h3 i =>
    simp only [V.subst]; split
    · rename_i h; exact hf _ _ _ h (.er c hb hc h3)
    · exact .er c (hS _ hb).1 (fun j hj => by rw [len] at hj; exact (cell_of_heap (hS _ hb).2 _).trans (hc j hj)) (fun j hj => by rw [len] at hj; rw [substL_getD hj]; exact i j hj)
  | ref h1 h2 h3 =>
    simp only [V.subst]; split
    · rename_i h; exact hf _ _ _ h (.ref h1 h2 h3)
    · rename_i h; exact hr _ _ rfl h (.ref h1 h2 h3)
  | rref h1 h2 h3 =>
    simp only [V.subst]; split
    · rename_i h; exact hf _ _ _ h (.rref h1 h2 h3)
    · rename_i h; exact hr _ _ rfl h (.rref h1 h2 h3)
  | osl h1 h2 h3 =>
    simp only [V.subst]; split
    · rename_i h; exact hf _ _ _ h (.osl h1 h2 h3)
    · rename_i h; exact hr _ _ rfl h (.osl h1 h2 h3)
  | osp h1 h2 h3 =>
    simp only [V.subst]; split
    · rename_i h; exact hf _ _ _ h (.osp h1 h2 h3)
    · rename_i h; exact hr _ _ rfl h (.osp h1 h2 h3)
  | map h2 h3 h4 =>
    simp only [V.subst]; split
    · rename_i h; exact hf _ _ _ h (.map h2 h3 h4)
    · rename_i h; exact hr _ _ rfl h (.map h2 h3 h4)
  | when h1 h2 i1 =>
    simp only [V.subst]; split
    · rename_i h; exact hf _ _ _ h (.when h1 h2)
    · exact .when i1 h2
  | opt h1 h2 i1 =>
    simp only [V.subst]; split
    · rename_i h; exact hf _ _ _ h (.opt h1 h2)
    · exact .opt i1 h2

theorem subst_rep {f : V → Option V} {E E' : Env} (hx : Ext E E') (hf : ∀ v v' c, f v = some v' → Rep E v c → Rep E' v' c) {v : V} {c : Value} (r : Rep E v c) : Rep E' (V.subst f v) c :=
  subst_rep' hx.S hf (fun _ _ _ _ r => r.mono hx) r

def Obj.subst (f : V → Option V) : Obj → Obj
  | .box cs => .box (V.substL f cs)
  | o => o

def St.subst (f : V → Option V) (s : St) : St := { s with tmps := s.tmps.map fun p => (p.1, p.2.subst f), objs := s.objs.map (Obj.subst f) }

theorem look_subst {f : V → Option V} (hf : f .any = none) (t : Nat) : ∀ l : List (Nat × V), look t (l.map fun p => (p.1, p.2.subst f)) = (look t l).subst f
  | [] => by simp [look, V.subst, hf]
  | (u, v) :: l => by
    rw [List.map_cons, look_cons, look_cons]
    split
    · rfl
    · exact look_subst hf t l

theorem Obj.has_subst {f : V → Option V} {o : Obj} {L : Loc} : (o.subst f).has L ↔ o.has L := by cases o <;> exact Iff.rfl

theorem ownB_subst {f : V → Option V} {E : Env} {objs : List Obj} {b : Nat} : ownB E (objs.map (Obj.subst f)) b ↔ ownB E objs b := by
  constructor
  · rintro ⟨l, o, h1, h2, h3⟩
    simp only [List.getElem?_map, Option.map_eq_some_iff] at h1
    obtain ⟨o', h4, rfl⟩ := h1
    exact ⟨l, o', h4, Obj.has_subst.1 h2, h3⟩
  · rintro ⟨l, o, h1, h2, h3⟩
    exact ⟨l, o.subst f, by simp [h1], Obj.has_subst.2 h2, h3⟩

/-- Replacing in all objects, in one world. -/
theorem Good.subst {f : V → Option V} {E : Env} {objs : List Obj} (g : Good E objs) (hf : ∀ v v' c, f v = some v' → Rep E v c → Rep E v' c) : Good E (objs.map (Obj.subst f)) := by
  refine ⟨by simpa using g.len, fun l o h => ?_, fun b h => g.ns b (ownB_subst.1 h), g.sl, fun l l' o o' h1 h2 h3 h4 h5 => ?_⟩
  · simp only [List.getElem?_map, Option.map_eq_some_iff] at h
    obtain ⟨o', h1, rfl⟩ := h
    have := g.at_ l o' h1
    cases o' with
    | box cs =>
      obtain ⟨h2, vals, t, h3, h4, h5⟩ := this
      exact ⟨h2, vals, t, h3, by rw [substL_eq, List.length_map]; exact h4, fun j hj => by
        rw [substL_eq, List.length_map] at hj; rw [substL_getD hj]; exact subst_rep (.refl E) hf (h5 j hj)⟩
    | _ => exact this
  · simp only [List.getElem?_map, Option.map_eq_some_iff] at h1 h2
    obtain ⟨p, h6, rfl⟩ := h1
    obtain ⟨q, h7, rfl⟩ := h2
    exact g.inj l l' p q h6 h7 (Obj.has_subst.1 h3) (Obj.has_subst.1 h4) h5

theorem Step.subst {f : V → Option V} {E0 E : Env} {imp objs : List Obj} (h : Step E0 imp E objs) : Step E0 imp E (objs.map (Obj.subst f)) :=
  ⟨h.ext, h.os, h.tape, h.output, h.size, h.frame, fun b hb => h.own b (ownB_subst.1 hb), h.st⟩

/-! ### An own object becomes stable -/
def frz (l : Nat) : Obj → V → Option V
  | .row T xs ver, .osl l' v => if l' = l then some (if v = ver then .d (.sl T) xs else .any) else none
  | .row T xs ver, .osp l' v n => if l' = l then some (if v = ver then (if n ≤ xs.length then .d (.sl T) (xs.take n) else .any) else .any) else none
  | .row .., .rref l' _ _ _ => if l' = l then some .any else none
  | .box cs, .ref l' v off => if l' = l then some (if v = 0 then .er (cs.drop off) else .any) else none
  | _, _ => none

theorem frz_any (l : Nat) (o : Obj) : frz l o .any = none := by cases o <;> rfl

/-- The object l is given up: what points at it points at stable memory. -/
def St.freeze (l : Nat) (s : St) : St :=
  match s.objs[l]? with
  | some o => ({ s with objs := s.objs.set l .dead } : St).subst (frz l o)
  | none => s

theorem row_stable {E : Env} {l : Nat} {T : Ty} {xs : List T.den} {ver : Nat} (h : ObjAt E l (.row T xs ver)) {S : Nat → Prop} (hS : ∀ b, E.S b → S b) (hb : (Obj.row T xs ver).has (E.loc l) → S (E.loc l).b) :
    Cells E.w S (.sl T) xs [(E.loc l).v] := by
  obtain ⟨hver, hesz, hpos, e, cs, h9, h10⟩ := h
  rcases h10 with ⟨a, hv, rfl⟩ | ⟨cap, cur, hv1, hv2, hv3, hv4, hv5, hv6, hv7⟩
  · exact ⟨a, 0, by rw [hv]; rfl, ⟨Nat.le_refl _, Nat.zero_le _⟩, fun h => absurd rfl h⟩
  · have hhas : (Obj.row T xs ver).has (E.loc l) := by
      rintro ⟨a, ha⟩; rw [hv1] at ha; injection ha with _ e1; omega
    refine ⟨_, cap, by rw [hv1], ⟨hv3, hv5⟩, fun _ => ⟨(E.loc l).b, 0, rfl, hb hhas, fun i x hx => ?_⟩⟩
    obtain ⟨c, hc, hj⟩ := h9.get i x hx
    refine ⟨c, hc.mono (fun b hb => ⟨hS b hb, rfl⟩), fun j u hu => ?_⟩
    have := hj j u hu
    rw [← hv7, List.getElem?_take] at this
    split at this
    · rw [cell_row hv2, Nat.zero_add]; simpa using this
    · cases this

theorem wk_freeze (cx : Cx) (l : Nat) (s : St) : Wk cx s (s.freeze l) := by
  rintro a w ⟨E, rfl, h2, h3, h4, h5, h6⟩
  unfold St.freeze
  split
  · rename_i o ho
    obtain ⟨g, st⟩ := h2.still ho
    have hat := h2.at_ l o ho
    have hf : ∀ v v' c, frz l o v = some v' → Rep E v c → Rep (E.still l (o.has (E.loc l))) v' c := by
      intro v v' c hfv r
      cases o with
      | dead => cases v <;> simp [frz] at hfv
      | smap t m => cases v <;> simp [frz] at hfv
      | imap t m => cases v <;> simp [frz] at hfv
      | box cs =>
        cases v <;> simp only [frz] at hfv <;> try (cases hfv; done)
        rename_i l' v off
        split at hfv
        · rename_i e
          subst e
          cases hfv
          split
          · rename_i e; subst e
            obtain ⟨hver, vals, t, h7, h8⟩ := id hat
            obtain ⟨vals, t, h7, h8⟩ := box_reps hat
            rw [ref_inv r hver rfl]
            have h9 := h8.drop off
            refine .er (fun j => (vals.toList.drop off).getD j undef) (.inr ⟨trivial, rfl⟩) (fun j hj => ?_) (fun j hj => (h9.2 j hj).mono st.ext)
            have hj' : j < (vals.toList.drop off).length := by rw [h9.1]; exact hj
            rw [show (E.still l' _).w = E.w from rfl, cell_row h7]
            rw [List.getD_eq_getElem?_getD, List.getElem?_eq_getElem hj', Option.getD_some, List.getElem_drop]
            have : off + j < vals.size := by simp at hj'; omega
            simp [this]
          · exact .any _
        · cases hfv
      | row T xs ver =>
        have hst := row_stable hat (S := (E.still l ((Obj.row T xs ver).has (E.loc l))).S) (fun b hb => .inl hb) (fun hh => .inr ⟨hh, rfl⟩)
        cases v <;> simp only [frz] at hfv <;> try (cases hfv; done)
        · split at hfv
          · cases hfv; exact .any _
          · cases hfv
        · rename_i l' v
          split at hfv
          · rename_i e; subst e
            cases hfv
            split
            · rename_i e
              rw [osl_inv r hat.1 e]
              exact .d hst
            · exact .any _
          · cases hfv
        · rename_i l' v n
          split at hfv
          · rename_i e; subst e
            cases hfv
            split
            · rename_i e
              split
              · rename_i hn
                rw [osp_inv r hat.1 e]
                obtain ⟨a, cap, hv⟩ := row_len hat
                rw [hv] at hst ⊢
                have hp := cells_part hst (by obtain ⟨_, _, hp, _⟩ := hat; exact hp) 0 n (Nat.zero_le _) hn
                refine .d ?_
                have e1 : (if cap = 0 then a else a.map (·.add 0)) = a := by
                  split
                  · rfl
                  · cases a with
                    | none => rfl
                    | some ad => simp [Addr.add]
                simp only [Nat.zero_mul, Nat.sub_zero, List.drop_zero, e1] at hp
                exact hp
              · exact .any _
            · exact .any _
          · cases hfv
    refine ⟨E.still l (o.has (E.loc l)), rfl, ?_, (h3.trans st).subst, h4, h5, fun t => ?_⟩
    · -- the other objects
      refine ⟨by have := g.len; simp only [List.length_set] at this; simpa [St.subst] using this, fun j p h => ?_, fun b h => g.ns b (ownB_subst.1 h), g.sl, fun i j p q h1 h2 h3 h4 h5 => ?_⟩
      · simp only [St.subst, List.getElem?_map, Option.map_eq_some_iff] at h
        obtain ⟨p', h1, rfl⟩ := h
        have hj : j ≠ l ∨ p' = .dead := by
          by_cases e : j = l
          · subst e
            rw [List.getElem?_set_self (List.getElem?_eq_some_iff.1 ho).1] at h1
            exact .inr (by cases h1; rfl)
          · exact .inl e
        cases p' with
        | box cs =>
          have hne : j ≠ l := hj.resolve_right (by simp)
          rw [List.getElem?_set_ne (Ne.symm hne)] at h1
          obtain ⟨k2, vals, t, k3, k4, k5⟩ := h2.at_ j _ h1
          exact ⟨by simp only [Env.still, upd_ne _ _ hne]; exact k2, vals, t, k3, by rw [substL_eq, List.length_map]; exact k4, fun i hi => by
            rw [substL_eq, List.length_map] at hi; rw [substL_getD hi]; exact subst_rep st.ext hf (k5 i hi)⟩
        | _ => exact g.at_ j _ h1
      · simp only [St.subst, List.getElem?_map, Option.map_eq_some_iff] at h1 h2
        obtain ⟨p', h6, rfl⟩ := h1
        obtain ⟨q', h7, rfl⟩ := h2
        exact g.inj i j p' q' h6 h7 (Obj.has_subst.1 h3) (Obj.has_subst.1 h4) h5
    · show Rep _ (look t _) _
      rw [show (({ s with objs := s.objs.set l .dead } : St).subst (frz l o)).tmps = s.tmps.map fun p => (p.1, p.2.subst (frz l o)) from rfl, look_subst (frz_any l o)]
      exact subst_rep st.ext hf (h6 t)
  · exact ⟨E, rfl, h2, h3, h4, h5, h6⟩

/-! ### Own objects are forgotten -/
mutual
/-- It names only own objects below m. -/
def V.under (m : Nat) : V → Bool
  | .fn _ a b => V.underL m a && V.underL m b
  | .agg cs => V.underL m cs
  | .tup cs => V.underL m cs
  | .er cs => V.underL m cs
  | .when _ v => V.under m v
  | .opt _ v => V.under m v
  | .ref l _ _ => decide (l < m)
  | .rref l _ _ _ => decide (l < m)
  | .osl l _ => decide (l < m)
  | .osp l _ _ => decide (l < m)
  | .map l => decide (l < m)
  | _ => true
def V.underL (m : Nat) : List V → Bool
  | [] => true
  | v :: l => V.under m v && V.underL m l
end

theorem belowL_getD {m : Nat} : ∀ {l : List V}, V.underL m l = true → ∀ j, j < l.length → (l.getD j .any).under m = true
  | [], _, j, hj => by simp at hj
  | v :: l, h, 0, _ => by simp only [V.underL, Bool.and_eq_true] at h; exact h.1
  | v :: l, h, j + 1, hj => by simp only [V.underL, Bool.and_eq_true] at h; simpa using belowL_getD h.2 j (by simpa using hj)

/-- The environment with fewer objects. -/
def Env.cut (E : Env) (m : Nat) : Env := { E with len := m }

theorem below_rep {E : Env} {m : Nat} {v : V} {c : Value} (r : Rep E v c) : v.under m = true → Rep (E.cut m) v c := by
  induction r with
  | any v => exact fun _ => .any v
  | d hc => exact fun _ => .d hc
  | nilp => exact fun _ => .nilp
  | nilf => exact fun _ => .nilf
  | nils a => exact fun _ => .nils a
  | nilm => exact fun _ => .nilm
  | fn h1 h2 _ _ i1 i2 =>
    intro h
    simp only [V.under, Bool.and_eq_true] at h
    exact .fn h1 h2 (fun j hj => i1 j hj (belowL_getD h.1 j hj)) (fun j hj => i2 j hj (belowL_getD h.2 j hj))
  | agg h1 _ i1 => intro h; simp only [V.under] at h; exact .agg h1 (fun j hj => i1 j hj (belowL_getD h j hj))
  | tup h1 _ i1 => intro h; simp only [V.under] at h; exact .tup h1 (fun j hj => i1 j hj (belowL_getD h j hj))
  | er c hb hc _ i => intro h; simp only [V.under] at h; exact .er c hb hc (fun j hj => i j hj (belowL_getD h j hj))
  | ref h1 h2 h3 => intro h; exact .ref h1 (of_decide_eq_true h) h3
  | rref h1 h2 h3 => intro h; exact .rref h1 (of_decide_eq_true h) h3
  | osl h1 h2 h3 => intro h; exact .osl h1 (of_decide_eq_true h) h3
  | osp h1 h2 h3 => intro h; exact .osp h1 (of_decide_eq_true h) h3
  | map h2 h3 h4 => intro h; exact .map h2 (of_decide_eq_true h) h4
  | when h1 h2 i1 => intro h; simp only [V.under] at h; exact .when (fun e => i1 e h) h2
  | opt h1 h2 i1 => intro h; simp only [V.under] at h; exact .opt (fun e => i1 e h) h2

def Obj.under (m : Nat) : Obj → Bool
  | .box cs => V.underL m cs
  | _ => true

def tmpsBelow (m : Nat) : List (Nat × V) → Bool
  | [] => true
  | p :: l => p.2.under m && tmpsBelow m l
def objsBelow (m : Nat) : List Obj → Bool
  | [] => true
  | o :: l => o.under m && objsBelow m l

theorem tmpsBelow_look {m : Nat} : ∀ {l : List (Nat × V)}, tmpsBelow m l = true → ∀ t, (look t l).under m = true
  | [], _, t => rfl
  | (u, v) :: l, h, t => by
    simp only [tmpsBelow, Bool.and_eq_true] at h
    rw [look_cons]
    split
    · exact h.1
    · exact tmpsBelow_look h.2 t
theorem objsBelow_get {m : Nat} : ∀ {l : List Obj}, objsBelow m l = true → ∀ (j : Nat) o, l[j]? = some o → o.under m = true
  | [], _, j, o, h => by simp at h
  | p :: l, h, 0, o, hj => by simp only [objsBelow, Bool.and_eq_true] at h; simp at hj; subst hj; exact h.1
  | p :: l, h, j + 1, o, hj => by simp only [objsBelow, Bool.and_eq_true] at h; exact objsBelow_get h.2 j o (by simpa using hj)

theorem ObjAt.cut {E : Env} {m l : Nat} {o : Obj} (h : ObjAt E l o) (hb : o.under m = true) : ObjAt (E.cut m) l o := by
  cases o with
  | box cs =>
    obtain ⟨h1, vals, t, h2, h3, h4⟩ := h
    exact ⟨h1, vals, t, h2, h3, fun j hj => below_rep (h4 j hj) (belowL_getD hb j hj)⟩
  | _ => exact h

theorem Good.cut {E : Env} {objs : List Obj} (g : Good E objs) {m : Nat} (hm : m ≤ objs.length) (hb : objsBelow m (objs.take m) = true) : Good (E.cut m) (objs.take m) := by
  have hget : ∀ (l : Nat) o, (objs.take m)[l]? = some o → objs[l]? = some o := fun l o h => by
    rw [List.getElem?_take] at h; split at h
    · exact h
    · cases h
  have hown : ∀ b, ownB (E.cut m) (objs.take m) b → ownB E objs b := by
    rintro b ⟨l, o, h1, h2, h3⟩
    exact ⟨l, o, hget l o h1, h2, h3⟩
  exact ⟨by simp [Env.cut]; omega, fun l o h => (g.at_ l o (hget l o h)).cut (objsBelow_get hb l o h), fun b h => g.ns b (hown b h), g.sl, fun l l' o o' h1 h2 h3 h4 h5 => g.inj l l' o o' (hget _ _ h1) (hget _ _ h2) h3 h4 h5⟩

theorem Step.cut {E0 E : Env} {imp objs : List Obj} (h : Step E0 imp E objs) {m : Nat} (hm : E0.len ≤ m) (hmo : m ≤ objs.length) : Step E0 imp (E.cut m) (objs.take m) := by
  have hown : ∀ b, ownB (E.cut m) (objs.take m) b → ownB E objs b := by
    rintro b ⟨l, o, h1, h2, h3⟩
    refine ⟨l, o, ?_, h2, h3⟩
    rw [List.getElem?_take] at h1; split at h1
    · exact h1
    · cases h1
  exact ⟨⟨h.ext.S, hm, h.ext.ver⟩, h.os, h.tape, h.output, h.size, h.frame, fun b hb => h.own b (hown b hb), h.st⟩

def St.cut (m : Nat) (s : St) : St := { s with objs := s.objs.take m }

theorem wk_cut {cx : Cx} {s : St} (m : Nat) (hE : cx.E.len ≤ m) (hm : m ≤ s.objs.length) (h1 : tmpsBelow m s.tmps = true) (h2 : objsBelow m (s.objs.take m) = true) : Wk cx s (s.cut m) := by
  rintro a w ⟨E, rfl, g, st, h4, h5, h6⟩
  exact ⟨E.cut m, rfl, g.cut hm h2, st.cut hE hm, h4, h5, fun t => below_rep (h6 t) (tmpsBelow_look h1 t)⟩

/-! ### An empty slice is taken for an own row -/
theorem wk_adopt {cx : Cx} {s : St} (t : Nat) (T : Ty) (hT : 0 < T.size) (ht : s.get t = .nils) :
    Wk cx s { s with tmps := (t, .osl s.objs.length 0) :: s.tmps, objs := s.objs ++ [.row T [] 0] } := by
  rintro a w ⟨E, rfl, g, st, h4, h5, h6⟩
  have r := h6 t
  rw [ht] at r
  generalize hc : a.tmps.getD t undef = c at r
  cases r with
  | nils ad =>
    let L : Loc := ⟨0, .slice ad 0 0, T.size⟩
    have hp := Good.push g (w := E.w) (L := L) (o := .row T [] 0) ⟨rfl, rfl, rfl, Nat.le_refl _, fun _ _ _ => rfl⟩
      ⟨by simp [Env.push, upd_same], by simp only [Env.push, upd_same, L], hT, 0, [], rfl, .inl ⟨ad, by simp only [Env.push, upd_same, L], rfl⟩⟩ (fun hh => absurd ⟨ad, rfl⟩ hh)
    refine ⟨E.push E.w L, rfl, hp.1, st.trans hp.2, h4, h5, fun u => ?_⟩
    show Rep _ (look u ((t, _) :: s.tmps)) _
    rw [look_cons]
    split
    · rename_i e
      subst e
      rw [hc]
      refine .osl rfl (by rw [g.len]; exact Nat.lt_succ_self _) (fun u hu => ?_)
      rw [g.len] at hu ⊢
      simp only [Env.push, upd_same, Option.some.injEq] at hu
      subst hu
      exact ⟨Nat.le_refl _, fun _ => by simp only [Env.push, upd_same, L]⟩
    · exact (h6 u).mono hp.2.ext

end Go.Proofs.Ytlncingakpelbaa
