/- Part of a proof that the law FarkasProves of the program holds for every input: how abstract states follow the program. No conditions. -/
import Derived.Defers
import Derived.Test.YtlncingakpelbaaF00
namespace Go.Proofs.Ytlncingakpelbaa
open Go
set_option linter.unusedVariables false

/-! ## Replacing parts of an abstract value -/
mutual
def V.subst (f : V → Option V) : V → V
  | .fn g a b => match f (.fn g a b) with
    | some v => v
    | none => .fn g (V.substL f a) (V.substL f b)
  | .agg cs => match f (.agg cs) with
    | some v => v
    | none => .agg (V.substL f cs)
  | .tup cs => match f (.tup cs) with
    | some v => v
    | none => .tup (V.substL f cs)
  | .er cs => match f (.er cs) with
    | some v => v
    | none => .er (V.substL f cs)
  | .when b v => match f (.when b v) with
    | some v => v
    | none => .when b (V.subst f v)
  | .opt b v => match f (.opt b v) with
    | some v => v
    | none => .opt b (V.subst f v)
  | v => match f v with
    | some v => v
    | none => v
def V.substL (f : V → Option V) : List V → List V
  | [] => []
  | v :: l => V.subst f v :: V.substL f l
end

theorem substL_eq (f : V → Option V) : ∀ l : List V,V.substL f l = l.map (V.subst f)
  | [] => rfl
  | v :: l => by simp only [V.substL,substL_eq f l,List.map_cons]

theorem substL_getD {f : V → Option V} {l : List V} {j : Nat} (hj : j < l.length) : (V.substL f l).getD j .any = V.subst f (l.getD j .any) := by
  rw [substL_eq]
  simp [List.getD_eq_getElem?_getD,List.getElem?_map,List.getElem?_eq_getElem hj]

def V.isRef : V → Bool
  | .ref .. | .rref .. | .osl .. | .osp .. | .map _ => true
  | _ => false

/-- What holds of the replaced parts holds of the whole. -/
theorem subst_rep' {f : V → Option V} {E E' : Env} (hS : ∀ b, E.S b → E'.S b ∧ E'.w.heap[b]? = E.w.heap[b]?) (hf : ∀ v v' c, f v = some v' → Rep E v c → Rep E' v' c)
    (hr : ∀ v c,v.isRef = true → f v = none → Rep E v c → Rep E' v c) {v : V} {c : Value} (r : Rep E v c) : Rep E' (V.subst f v) c := by
  have len : ∀ l : List V,(V.substL f l).length = l.length := fun l => by rw [substL_eq,List.length_map]
  induction r with
  | any v =>
    simp only [V.subst];split
    · rename_i h;exact hf _ _ _ h (.any v)
    · exact .any v
  | d hc =>
    simp only [V.subst];split
    · rename_i h;exact hf _ _ _ h (.d hc)
    · exact .d (hc.mono hS)
  | nilp =>
    simp only [V.subst];split
    · rename_i h;exact hf _ _ _ h .nilp
    · exact .nilp
  | nilf =>
    simp only [V.subst];split
    · rename_i h;exact hf _ _ _ h .nilf
    · exact .nilf
  | nils a =>
    simp only [V.subst];split
    · rename_i h;exact hf _ _ _ h (.nils a)
    · exact .nils a
  | nilm =>
    simp only [V.subst];split
    · rename_i h;exact hf _ _ _ h .nilm
    · exact .nilm
  | fn h1 h2 h3 h4 i1 i2 =>
    simp only [V.subst];split
    · rename_i h;exact hf _ _ _ h (.fn h1 h2 h3 h4)
    · exact .fn (by rw [len];exact h1) (by rw [len];exact h2) (fun j hj => by rw [len] at hj;rw [substL_getD hj];exact i1 j hj) (fun j hj => by rw [len] at hj;rw [substL_getD hj];exact i2 j hj)
  | agg h1 h2 i1 =>
    simp only [V.subst];split
    · rename_i h;exact hf _ _ _ h (.agg h1 h2)
    · exact .agg (by rw [len];exact h1) (fun j hj => by rw [len] at hj;rw [substL_getD hj];exact i1 j hj)
  | tup h1 h2 i1 =>
    simp only [V.subst];split
    · rename_i h;exact hf _ _ _ h (.tup h1 h2)
    · exact .tup (by rw [len];exact h1) (fun j hj => by rw [len] at hj;rw [substL_getD hj];exact i1 j hj)
  | er c hb hc h3 i =>
    simp only [V.subst];split
    · rename_i h;exact hf _ _ _ h (.er c hb hc h3)
    · exact .er c (hS _ hb).1 (fun j hj => by rw [len] at hj;exact (cell_of_heap (hS _ hb).2 _).trans (hc j hj)) (fun j hj => by rw [len] at hj;rw [substL_getD hj];exact i j hj)
  | ref h1 h2 h3 =>
    simp only [V.subst];split
    · rename_i h;exact hf _ _ _ h (.ref h1 h2 h3)
    · rename_i h;exact hr _ _ rfl h (.ref h1 h2 h3)
  | rref h1 h2 h3 =>
    simp only [V.subst];split
    · rename_i h;exact hf _ _ _ h (.rref h1 h2 h3)
    · rename_i h;exact hr _ _ rfl h (.rref h1 h2 h3)
  | osl h1 h2 h3 =>
    simp only [V.subst];split
    · rename_i h;exact hf _ _ _ h (.osl h1 h2 h3)
    · rename_i h;exact hr _ _ rfl h (.osl h1 h2 h3)
  | osp h1 h2 h3 =>
    simp only [V.subst];split
    · rename_i h;exact hf _ _ _ h (.osp h1 h2 h3)
    · rename_i h;exact hr _ _ rfl h (.osp h1 h2 h3)
  | map h2 h3 h4 =>
    simp only [V.subst];split
    · rename_i h;exact hf _ _ _ h (.map h2 h3 h4)
    · rename_i h;exact hr _ _ rfl h (.map h2 h3 h4)
  | when h1 h2 i1 =>
    simp only [V.subst];split
    · rename_i h;exact hf _ _ _ h (.when h1 h2)
    · exact .when i1 h2
  | opt h1 h2 i1 =>
    simp only [V.subst];split
    · rename_i h;exact hf _ _ _ h (.opt h1 h2)
    · exact .opt i1 h2

theorem subst_rep {f : V → Option V} {E E' : Env} (hx : Ext E E') (hf : ∀ v v' c,f v = some v' → Rep E v c → Rep E' v' c) {v : V} {c : Value} (r : Rep E v c) : Rep E' (V.subst f v) c :=
  subst_rep' hx.S hf (fun _ _ _ _ r => r.mono hx) r

def Obj.subst (f : V → Option V) : Obj → Obj
  | .box cs => .box (V.substL f cs)
  | o => o

def St.subst (f : V → Option V) (s : St) : St := { s with tmps := s.tmps.map fun p => (p.1,p.2.subst f),objs := s.objs.map (Obj.subst f) }

theorem look_subst {f : V → Option V} (hf : f .any = none) (t : Nat) : ∀ l : List (Nat × V),look t (l.map fun p => (p.1,p.2.subst f)) = (look t l).subst f
  | [] => by simp [look,V.subst,hf]
  | (u,v) :: l => by
    rw [List.map_cons,look_cons,look_cons]
    split
    · rfl
    · exact look_subst hf t l

theorem Obj.has_subst {f : V → Option V} {o : Obj} {L : Loc} : (o.subst f).has L ↔ o.has L := by cases o <;> exact Iff.rfl

theorem ownB_subst {f : V → Option V} {E : Env} {objs : List Obj} {b : Nat} : ownB E (objs.map (Obj.subst f)) b ↔ ownB E objs b := by
  constructor
  · rintro ⟨l,o,h1,h2,h3⟩
    simp only [List.getElem?_map,Option.map_eq_some_iff] at h1
    obtain ⟨o',h4,rfl⟩ := h1
    exact ⟨l,o',h4,Obj.has_subst.1 h2,h3⟩
  · rintro ⟨l,o,h1,h2,h3⟩
    exact ⟨l,o.subst f,by simp [h1],Obj.has_subst.2 h2,h3⟩

/-- Replacing in all objects,in one world. -/
theorem Good.subst {f : V → Option V} {E : Env} {objs : List Obj} (g : Good E objs) (hf : ∀ v v' c,f v = some v' → Rep E v c → Rep E v' c) : Good E (objs.map (Obj.subst f)) := by
  refine ⟨by simpa using g.len,fun l o h => ?_,fun b h => g.ns b (ownB_subst.1 h),g.sl,fun l l' o o' h1 h2 h3 h4 h5 => ?_⟩
  · simp only [List.getElem?_map,Option.map_eq_some_iff] at h
    obtain ⟨o',h1,rfl⟩ := h
    have := g.at_ l o' h1
    cases o' with
    | box cs =>
      obtain ⟨h2,vals,t,h3,h4,h5⟩ := this
      exact ⟨h2,vals,t,h3,by rw [substL_eq,List.length_map];exact h4,fun j hj => by
        rw [substL_eq,List.length_map] at hj;rw [substL_getD hj];exact subst_rep (.refl E) hf (h5 j hj)⟩
    | _ => exact this
  · simp only [List.getElem?_map,Option.map_eq_some_iff] at h1 h2
    obtain ⟨p,h6,rfl⟩ := h1
    obtain ⟨q,h7,rfl⟩ := h2
    exact g.inj l l' p q h6 h7 (Obj.has_subst.1 h3) (Obj.has_subst.1 h4) h5

theorem Step.subst {f : V → Option V} {E0 E : Env} {imp objs : List Obj} (h : Step E0 imp E objs) : Step E0 imp E (objs.map (Obj.subst f)) :=
  ⟨h.ext,h.os,h.tape,h.output,h.size,h.frame,fun b hb => h.own b (ownB_subst.1 hb),h.st⟩

/-! ### An own object becomes stable -/
def frz (l : Nat) : Obj → V → Option V
  | .row T xs ver,.osl l' v => if l' = l then some (if v = ver then .d (.sl T) xs else .any) else none
  | .row T xs ver,.osp l' v n => if l' = l then some (if v = ver then (if n ≤ xs.length then .d (.sl T) (xs.take n) else .any) else .any) else none
  | .row ..,.rref l' _ _ _ => if l' = l then some .any else none
  | .box cs,.ref l' v off => if l' = l then some (if v = 0 then .er (cs.drop off) else .any) else none
  | _,_ => none

theorem frz_any (l : Nat) (o : Obj) : frz l o .any = none := by cases o <;> rfl

/-- The object l is given up: what points at it points at stable memory. -/
def St.freeze (l : Nat) (s : St) : St :=
  match s.objs[l]? with
  | some o => ({ s with objs := s.objs.set l .dead } : St).subst (frz l o)
  | none => s

theorem row_stable {E : Env} {l : Nat} {T : Ty} {xs : List T.den} {ver : Nat} (h : ObjAt E l (.row T xs ver)) {S : Nat → Prop} (hS : ∀ b, E.S b → S b) (hb : (Obj.row T xs ver).has (E.loc l) → S (E.loc l).b) :
    Cells E.w S (.sl T) xs [(E.loc l).v] := by
  obtain ⟨hver,hesz,hpos,e,cs,h9,h10⟩ := h
  rcases h10 with ⟨a,hv,rfl⟩ | ⟨cap,cur,hv1,hv2,hv3,hv4,hv5,hv6,hv7⟩
  · exact ⟨a,0,by rw [hv];rfl,⟨Nat.le_refl _,Nat.zero_le _⟩,fun h => absurd rfl h⟩
  · have hhas : (Obj.row T xs ver).has (E.loc l) := by
      rintro ⟨a,ha⟩;rw [hv1] at ha;injection ha with _ e1;omega
    refine ⟨_,cap,by rw [hv1],⟨hv3,hv5⟩,fun _ => ⟨(E.loc l).b,0,rfl,hb hhas,fun i x hx => ?_⟩⟩
    obtain ⟨c,hc,hj⟩ := h9.get i x hx
    refine ⟨c,hc.mono (fun b hb => ⟨hS b hb,rfl⟩),fun j u hu => ?_⟩
    have := hj j u hu
    rw [← hv7,List.getElem?_take] at this
    split at this
    · rw [cell_row hv2,Nat.zero_add];simpa using this
    · cases this

theorem wk_freeze (cx : Cx) (l : Nat) (s : St) : Wk cx s (s.freeze l) := by
  rintro a w ⟨E,rfl,h2,h3,h4,h5,h6⟩
  unfold St.freeze
  split
  · rename_i o ho
    obtain ⟨g,st⟩ := h2.still ho
    have hat := h2.at_ l o ho
    have hf : ∀ v v' c,frz l o v = some v' → Rep E v c → Rep (E.still l (o.has (E.loc l))) v' c := by
      intro v v' c hfv r
      cases o with
      | dead => cases v <;> simp [frz] at hfv
      | smap t m => cases v <;> simp [frz] at hfv
      | imap t m => cases v <;> simp [frz] at hfv
      | box cs =>
        cases v <;> simp only [frz] at hfv <;> try (cases hfv;done)
        rename_i l' v off
        split at hfv
        · rename_i e
          subst e
          cases hfv
          split
          · rename_i e;subst e
            obtain ⟨hver,vals,t,h7,h8⟩ := id hat
            obtain ⟨vals,t,h7,h8⟩ := box_reps hat
            rw [ref_inv r hver rfl]
            have h9 := h8.drop off
            refine .er (fun j => (vals.toList.drop off).getD j undef) (.inr ⟨trivial,rfl⟩) (fun j hj => ?_) (fun j hj => (h9.2 j hj).mono st.ext)
            have hj' : j < (vals.toList.drop off).length := by rw [h9.1];exact hj
            rw [show (E.still l' _).w = E.w from rfl,cell_row h7]
            rw [List.getD_eq_getElem?_getD,List.getElem?_eq_getElem hj',Option.getD_some,List.getElem_drop]
            have : off + j < vals.size := by simp at hj';omega
            simp [this]
          · exact .any _
        · cases hfv
      | row T xs ver =>
        have hst := row_stable hat (S := (E.still l ((Obj.row T xs ver).has (E.loc l))).S) (fun b hb => .inl hb) (fun hh => .inr ⟨hh,rfl⟩)
        cases v <;> simp only [frz] at hfv <;> try (cases hfv;done)
        · split at hfv
          · cases hfv;exact .any _
          · cases hfv
        · rename_i l' v
          split at hfv
          · rename_i e;subst e
            cases hfv
            split
            · rename_i e
              rw [osl_inv r hat.1 e]
              exact .d hst
            · exact .any _
          · cases hfv
        · rename_i l' v n
          split at hfv
          · rename_i e;subst e
            cases hfv
            split
            · rename_i e
              split
              · rename_i hn
                rw [osp_inv r hat.1 e]
                obtain ⟨a,cap,hv⟩ := row_len hat
                rw [hv] at hst ⊢
                have hp := cells_part hst (by obtain ⟨_,_,hp,_⟩ := hat;exact hp) 0 n (Nat.zero_le _) hn
                refine .d ?_
                have e1 : (if cap = 0 then a else a.map (·.add 0)) = a := by
                  split
                  · rfl
                  · cases a with
                    | none => rfl
                    | some ad => simp [Addr.add]
                simp only [Nat.zero_mul,Nat.sub_zero,List.drop_zero,e1] at hp
                exact hp
              · exact .any _
            · exact .any _
          · cases hfv
    refine ⟨E.still l (o.has (E.loc l)),rfl,?_,(h3.trans st).subst,h4,h5,fun t => ?_⟩
    · -- the other objects
      refine ⟨by have := g.len;simp only [List.length_set] at this;simpa [St.subst] using this,fun j p h => ?_,fun b h => g.ns b (ownB_subst.1 h),g.sl,fun i j p q h1 h2 h3 h4 h5 => ?_⟩
      · simp only [St.subst,List.getElem?_map,Option.map_eq_some_iff] at h
        obtain ⟨p',h1,rfl⟩ := h
        have hj : j ≠ l ∨ p' = .dead := by
          by_cases e : j = l
          · subst e
            rw [List.getElem?_set_self (List.getElem?_eq_some_iff.1 ho).1] at h1
            exact .inr (by cases h1;rfl)
          · exact .inl e
        cases p' with
        | box cs =>
          have hne : j ≠ l := hj.resolve_right (by simp)
          rw [List.getElem?_set_ne (Ne.symm hne)] at h1
          obtain ⟨k2,vals,t,k3,k4,k5⟩ := h2.at_ j _ h1
          exact ⟨by simp only [Env.still,upd_ne _ _ hne];exact k2,vals,t,k3,by rw [substL_eq,List.length_map];exact k4,fun i hi => by
            rw [substL_eq,List.length_map] at hi;rw [substL_getD hi];exact subst_rep st.ext hf (k5 i hi)⟩
        | _ => exact g.at_ j _ h1
      · simp only [St.subst,List.getElem?_map,Option.map_eq_some_iff] at h1 h2
        obtain ⟨p',h6,rfl⟩ := h1
        obtain ⟨q',h7,rfl⟩ := h2
        exact g.inj i j p' q' h6 h7 (Obj.has_subst.1 h3) (Obj.has_subst.1 h4) h5
    · show Rep _ (look t _) _
      rw [show (({ s with objs := s.objs.set l .dead } : St).subst (frz l o)).tmps = s.tmps.map fun p => (p.1,p.2.subst (frz l o)) from rfl,look_subst (frz_any l o)]
      exact subst_rep st.ext hf (h6 t)
  · exact ⟨E,rfl,h2,h3,h4,h5,h6⟩

/-! ### Own objects are forgotten -/
mutual
/-- It names only own objects below m. -/
def V.under (m : Nat) : V → Bool
  | .fn _ a b => V.underL m a && V.underL m b
  | .agg cs => V.underL m cs
  | .tup cs => V.underL m cs
  | .er cs => V.underL m cs
  | .when _ v => V.under m v
  | .opt _ v => V.under m v
  | .ref l _ _ => decide (l < m)
  | .rref l _ _ _ => decide (l < m)
  | .osl l _ => decide (l < m)
  | .osp l _ _ => decide (l < m)
  | .map l => decide (l < m)
  | _ => true
def V.underL (m : Nat) : List V → Bool
  | [] => true
  | v :: l => V.under m v && V.underL m l
end

theorem belowL_getD {m : Nat} : ∀ {l : List V},V.underL m l = true → ∀ j,j < l.length → (l.getD j .any).under m = true
  | [],_,j,hj => by simp at hj
  | v :: l,h,0,_ => by simp only [V.underL,Bool.and_eq_true] at h;exact h.1
  | v :: l,h,j + 1,hj => by simp only [V.underL,Bool.and_eq_true] at h;simpa using belowL_getD h.2 j (by simpa using hj)

/-- The environment with fewer objects. -/
def Env.cut (E : Env) (m : Nat) : Env := { E with len := m }

theorem below_rep {E : Env} {m : Nat} {v : V} {c : Value} (r : Rep E v c) : v.under m = true → Rep (E.cut m) v c := by
  induction r with
  | any v => exact fun _ => .any v
  | d hc => exact fun _ => .d hc
  | nilp => exact fun _ => .nilp
  | nilf => exact fun _ => .nilf
  | nils a => exact fun _ => .nils a
  | nilm => exact fun _ => .nilm
  | fn h1 h2 _ _ i1 i2 =>
    intro h
    simp only [V.under,Bool.and_eq_true] at h
    exact .fn h1 h2 (fun j hj => i1 j hj (belowL_getD h.1 j hj)) (fun j hj => i2 j hj (belowL_getD h.2 j hj))
  | agg h1 _ i1 => intro h;simp only [V.under] at h;exact .agg h1 (fun j hj => i1 j hj (belowL_getD h j hj))
  | tup h1 _ i1 => intro h;simp only [V.under] at h;exact .tup h1 (fun j hj => i1 j hj (belowL_getD h j hj))
  | er c hb hc _ i => intro h;simp only [V.under] at h;exact .er c hb hc (fun j hj => i j hj (belowL_getD h j hj))
  | ref h1 h2 h3 => intro h;exact .ref h1 (of_decide_eq_true h) h3
  | rref h1 h2 h3 => intro h;exact .rref h1 (of_decide_eq_true h) h3
  | osl h1 h2 h3 => intro h;exact .osl h1 (of_decide_eq_true h) h3
  | osp h1 h2 h3 => intro h;exact .osp h1 (of_decide_eq_true h) h3
  | map h2 h3 h4 => intro h;exact .map h2 (of_decide_eq_true h) h4
  | when h1 h2 i1 => intro h;simp only [V.under] at h;exact .when (fun e => i1 e h) h2
  | opt h1 h2 i1 => intro h;simp only [V.under] at h;exact .opt (fun e => i1 e h) h2

def Obj.under (m : Nat) : Obj → Bool
  | .box cs => V.underL m cs
  | _ => true

def tmpsBelow (m : Nat) : List (Nat × V) → Bool
  | [] => true
  | p :: l => p.2.under m && tmpsBelow m l
def objsBelow (m : Nat) : List Obj → Bool
  | [] => true
  | o :: l => o.under m && objsBelow m l

theorem tmpsBelow_look {m : Nat} : ∀ {l : List (Nat × V)},tmpsBelow m l = true → ∀ t,(look t l).under m = true
  | [],_,t => rfl
  | (u,v) :: l,h,t => by
    simp only [tmpsBelow,Bool.and_eq_true] at h
    rw [look_cons]
    split
    · exact h.1
    · exact tmpsBelow_look h.2 t
theorem objsBelow_get {m : Nat} : ∀ {l : List Obj},objsBelow m l = true → ∀ (j : Nat) o,l[j]? = some o → o.under m = true
  | [],_,j,o,h => by simp at h
  | p :: l,h,0,o,hj => by simp only [objsBelow,Bool.and_eq_true] at h;simp at hj;subst hj;exact h.1
  | p :: l,h,j + 1,o,hj => by simp only [objsBelow,Bool.and_eq_true] at h;exact objsBelow_get h.2 j o (by simpa using hj)

theorem ObjAt.cut {E : Env} {m l : Nat} {o : Obj} (h : ObjAt E l o) (hb : o.under m = true) : ObjAt (E.cut m) l o := by
  cases o with
  | box cs =>
    obtain ⟨h1,vals,t,h2,h3,h4⟩ := h
    exact ⟨h1,vals,t,h2,h3,fun j hj => below_rep (h4 j hj) (belowL_getD hb j hj)⟩
  | _ => exact h

theorem Good.cut {E : Env} {objs : List Obj} (g : Good E objs) {m : Nat} (hm : m ≤ objs.length) (hb : objsBelow m (objs.take m) = true) : Good (E.cut m) (objs.take m) := by
  have hget : ∀ (l : Nat) o,(objs.take m)[l]? = some o → objs[l]? = some o := fun l o h => by
    rw [List.getElem?_take] at h;split at h
    · exact h
    · cases h
  have hown : ∀ b,ownB (E.cut m) (objs.take m) b → ownB E objs b := by
    rintro b ⟨l,o,h1,h2,h3⟩
    exact ⟨l,o,hget l o h1,h2,h3⟩
  exact ⟨by simp [Env.cut];omega,fun l o h => (g.at_ l o (hget l o h)).cut (objsBelow_get hb l o h),fun b h => g.ns b (hown b h),g.sl,fun l l' o o' h1 h2 h3 h4 h5 => g.inj l l' o o' (hget _ _ h1) (hget _ _ h2) h3 h4 h5⟩

theorem Step.cut {E0 E : Env} {imp objs : List Obj} (h : Step E0 imp E objs) {m : Nat} (hm : E0.len ≤ m) (hmo : m ≤ objs.length) : Step E0 imp (E.cut m) (objs.take m) := by
  have hown : ∀ b,ownB (E.cut m) (objs.take m) b → ownB E objs b := by
    rintro b ⟨l,o,h1,h2,h3⟩
    refine ⟨l,o,?_,h2,h3⟩
    rw [List.getElem?_take] at h1;split at h1
    · exact h1
    · cases h1
  exact ⟨⟨h.ext.S,hm,h.ext.ver⟩,h.os,h.tape,h.output,h.size,h.frame,fun b hb => h.own b (hown b hb),h.st⟩

def St.cut (m : Nat) (s : St) : St := { s with objs := s.objs.take m }

theorem wk_cut {cx : Cx} {s : St} (m : Nat) (hE : cx.E.len ≤ m) (hm : m ≤ s.objs.length) (h1 : tmpsBelow m s.tmps = true) (h2 : objsBelow m (s.objs.take m) = true) : Wk cx s (s.cut m) := by
  rintro a w ⟨E,rfl,g,st,h4,h5,h6⟩
  exact ⟨E.cut m,rfl,g.cut hm h2,st.cut hE hm,h4,h5,fun t => below_rep (h6 t) (tmpsBelow_look h1 t)⟩

/-! ### An empty slice is taken for an own row -/
theorem wk_adopt {cx : Cx} {s : St} (t : Nat) (T : Ty) (hT : 0 < T.size) (ht : s.get t = .nils) :
    Wk cx s { s with tmps := (t,.osl s.objs.length 0) :: s.tmps,objs := s.objs ++ [.row T [] 0] } := by
  rintro a w ⟨E,rfl,g,st,h4,h5,h6⟩
  have r := h6 t
  rw [ht] at r
  generalize hc : a.tmps.getD t undef = c at r
  cases r with
  | nils ad =>
    let L : Loc := ⟨0,.slice ad 0 0,T.size⟩
    have hp := Good.push g (w := E.w) (L := L) (o := .row T [] 0) ⟨rfl,rfl,rfl,Nat.le_refl _,fun _ _ _ => rfl⟩
      ⟨by simp [Env.push,upd_same],by simp only [Env.push,upd_same,L],hT,0,[],rfl,.inl ⟨ad,by simp only [Env.push,upd_same,L],rfl⟩⟩ (fun hh => absurd ⟨ad,rfl⟩ hh)
    refine ⟨E.push E.w L,rfl,hp.1,st.trans hp.2,h4,h5,fun u => ?_⟩
    show Rep _ (look u ((t,_) :: s.tmps)) _
    rw [look_cons]
    split
    · rename_i e
      subst e
      rw [hc]
      refine .osl rfl (by rw [g.len];exact Nat.lt_succ_self _) (fun u hu => ?_)
      rw [g.len] at hu ⊢
      simp only [Env.push,upd_same,Option.some.injEq] at hu
      subst hu
      exact ⟨Nat.le_refl _,fun _ => by simp only [Env.push,upd_same,L]⟩
    · exact (h6 u).mono hp.2.ext

/-! ## Contracts of functions -/
def VCalls (P : Program) (f : FuncId) (args : List V) (imp : List Obj) (Q : V → List Obj → Prop) : Prop :=
  ∀ (E : Env) (cargs : Array Value),Good E imp → Reps E args cargs.toList →
    Calls P f cargs E.w fun e w' => ∃ v E' r objs,e = .returned v ∧ E'.w = w' ∧ Good E' objs ∧ Step E imp E' objs ∧ Rep E' r v ∧ Q r objs

theorem VCalls.mono {P : Program} {f : FuncId} {args : List V} {imp : List Obj} {Q Q' : V → List Obj → Prop} (h : VCalls P f args imp Q) (hq : ∀ r o,Q r o → Q' r o) : VCalls P f args imp Q' :=
  fun E c g r => (h E c g r).mono fun e w ⟨v,E',r,objs,h1,h2,h3,h4,h5,h6⟩ => ⟨v,E',r,objs,h1,h2,h3,h4,h5,hq _ _ h6⟩

/-- What the result variables hold. -/
def resV (τ : TyTab) (s : St) : List ResultVar → Option (List V)
  | [] => some []
  | .tmp t :: l => (resV τ s l).map fun r => s.get t :: r
  | .cell a t :: l => match s.get a,τ t with
    | .ref b 0 0,some ti => match s.objs[b]? with
      | some (.box cs) => if ti.k.known then match (takeN ti.size cs).bind (ofCells ti.isAgg),resV τ s l with
        | some v,some r => some (v :: r)
        | _,_ => none
        else none
      | _ => none
    | _,_ => none

def mkRes : List V → V
  | [v] => v
  | l => .tup l

/-- At the function's end: the result,and what of the own objects is handed back (the first m). -/
def Ret (τ : TyTab) (fn : Func) (Q : V → List Obj → Prop) (s : St) : Prop :=
  ∃ vs m,resV τ s fn.results.toList = some vs ∧ m ≤ s.objs.length ∧ V.underL m vs = true ∧ objsBelow m (s.objs.take m) = true ∧ Q (mkRes vs) (s.objs.take m)

def RetQ (τ : TyTab) (fn : Func) (imp : Nat) (Q : V → List Obj → Prop) : Exit → St → Prop
  | .normal,s | .ret,s => Ret τ fn (fun r o => imp ≤ o.length ∧ Q r o) s
  | _,_ => False

section
variable {P : Program} {τ : TyTab}

def resRun (tmps : Array Value) : ResultVar → Sem Value
  | .tmp t => pure (tmps.getD t undef)
  | .cell b t => do loadVar t (← asAddr (tmps.getD b undef))

theorem results_eq (fn : Func) (tmps : Array Value) : results fn tmps = (do let vs ← fn.results.mapM (resRun tmps);pure (if h : vs.size = 1 then vs[0] else .tuple vs)) := by
  rfl

theorem resV_run (hτ : TabOk P τ) {s : St} {E : Env} {a : Act} (g : Good E s.objs) (h6 : ∀ t, Rep E (s.get t) (a.tmps.getD t undef)) : ∀ {l : List ResultVar} {vs : List V}, resV τ s l = some vs →
    ∃ cs : List Value,(l.mapM (resRun a.tmps)).run P E.w = .ok cs E.w ∧ Reps E vs cs
  | [],vs,h => by simp only [resV] at h;cases h;exact ⟨[],by simp,.nil⟩
  | .tmp t :: l,vs,h => by
    simp only [resV,Option.map_eq_some_iff] at h
    obtain ⟨r,h1,rfl⟩ := h
    obtain ⟨cs,h2,h3⟩ := resV_run hτ g h6 h1
    exact ⟨a.tmps.getD t undef :: cs,by simp only [List.mapM_cons,resRun,Sem.run_bind,Sem.run_pure,Result.andThen_ok,h2],.cons (h6 t) h3⟩
  | .cell b t :: l,vs,h => by
    simp only [resV] at h
    split at h
    · rename_i bl ti hb hti
      split at h
      · rename_i cs hcs
        split at h
        · rename_i hk
          split at h
          · rename_i v r hv hr
            cases h
            simp only [Option.bind_eq_some_iff] at hv
            obtain ⟨ds,hd1,hd2⟩ := hv
            obtain ⟨rfl,hd3⟩ := takeN_inv hd1
            have hat := g.at_ _ _ hcs
            obtain ⟨vals,t',h4,h5⟩ := box_reps hat
            obtain ⟨h7,h8⟩ := h5.at_cells h4 0 ti.size
            rw [List.drop_zero] at h7
            have hb' := h6 b
            rw [hb] at hb'
            obtain ⟨E',v',hr1,_,_,hr4⟩ := load_ok (p := none) (hτ t ti hti) hk g h7 h8 hd3 hd2
            have hl := loadVar_run (hτ t ti hti) hk E.w (E.loc bl).b 0 _ (h7.1.trans hd3) h8 (ofCells_rep hd2 h7).2
            obtain ⟨cs',h2,h3⟩ := resV_run hτ g h6 hr
            refine ⟨_,by simp only [List.mapM_cons,resRun,ref_inv hb' hat.1 rfl,asAddr,Sem.run_bind,Sem.run_pure,Result.andThen_ok,hl,h2],.cons (ofCells_rep hd2 h7).1 h3⟩
          · cases h
        · cases h
      · cases h
    · cases h

theorem mkRes_rep {E : Env} {vs : List V} {cs : List Value} (r : Reps E vs cs) : Rep E (mkRes vs) (if h : cs.toArray.size = 1 then cs.toArray[0] else .tuple cs.toArray) := by
  match vs,cs,r with
  | [],[],r => exact .tup rfl (fun j hj => by simp at hj)
  | [v],[c],r => exact r.head
  | v :: v' :: vs,c :: c' :: cs,r =>
    rw [dif_neg (by simp)]
    exact .tup (by simpa using r.1) (fun j hj => by have := r.2 j hj;simpa [Array.getD_eq_getD_getElem?,List.getD_eq_getElem?_getD] using this)
  | [],_ :: _,r => have := r.1;simp at this
  | [_],[],r => have := r.1;simp at this
  | [_],_ :: _ :: _,r => have := r.1;simp at this
  | _ :: _ :: _,[],r => have := r.1;simp at this
  | _ :: _ :: _,[_],r => have := r.1;simp at this

/-- The arguments lie in the first slots. -/
def argTmps : Nat → List V → List (Nat × V)
  | _,[] => []
  | n,v :: l => (n,v) :: argTmps (n + 1) l

theorem look_args : ∀ (l : List V) (n t : Nat),look t (argTmps n l) = if n ≤ t then l.getD (t - n) .any else .any
  | [],n,t => by simp [argTmps,look]
  | v :: l,n,t => by
    rw [argTmps,look_cons]
    split
    · rename_i e;subst e;simp
    · rename_i e
      rw [look_args l (n + 1) t]
      by_cases h : n ≤ t
      · rw [if_pos h,if_pos (by omega),show t - n = (t - (n + 1)) + 1 from by omega];simp
      · rw [if_neg h,if_neg (by omega)]

theorem vcalls_of_body (hτ : TabOk P τ) {f : FuncId} {fn : Func} {c : Code} {args : List V} {imp : List Obj} {Q : V → List Obj → Prop} (hf : P.funcs[f]? = some fn) (hb : fn.body = some c)
    (hn : args.length ≤ fn.ntmps) (h : ∀ cx : Cx,cx.dfs = [] → cx.imp = imp → cx.E.len = imp.length → AWp P cx c (RetQ τ fn imp.length Q) ⟨fn.ntmps,argTmps 0 args,imp⟩) : VCalls P f args imp Q := by
  intro E cargs g r
  have hsz : cargs.size = args.length := by simpa using r.1
  refine calls_of_wp hf hb (wp_mono (h ⟨E,imp,[]⟩ rfl rfl g.len.symm _ E.w ⟨E,rfl,g,.refl _ _,?_,rfl,fun t => ?_⟩) ?_)
  · simp [hsz];omega
  · show Rep E (look t (argTmps 0 args)) _
    rw [look_args,if_pos (Nat.zero_le _),Nat.sub_zero]
    by_cases ht : t < args.length
    · have := r.2 t ht
      simp only [Array.getD_eq_getD_getElem?]
      rw [Array.getElem?_append_left (by omega)]
      simpa [List.getD_eq_getElem?_getD] using this
    · rw [List.getD_eq_getElem?_getD,List.getElem?_eq_none (by omega)]
      exact .any _
  · rintro e a w ⟨s,hq,E',rfl,g',st,h4,h5,h6⟩
    have fin : Ret τ fn (fun r o => imp.length ≤ o.length ∧ Q r o) s → a.defers = [] ∧ ∃ v, (results fn a.tmps).run P E'.w = .ok v E'.w ∧
        ∃ v' E'' r objs,(Ending.returned v) = .returned v' ∧ E''.w = E'.w ∧ Good E'' objs ∧ Step E imp E'' objs ∧ Rep E'' r v' ∧ Q r objs := by
      rintro ⟨vs,m,h7,h8,h9,h10,h11,h12⟩
      obtain ⟨cs,h13,h14⟩ := resV_run hτ g' h6 h7
      refine ⟨h5,_,?_,_,E'.cut m,mkRes vs,s.objs.take m,rfl,rfl,g'.cut h8 h10,st.cut ?_ h8,below_rep (mkRes_rep h14) ?_,h12⟩
      · rw [results_eq,Array.mapM_eq_mapM_toList]
        simp only [Sem.run_bind,Sem.run_map,h13,Result.andThen_ok,Sem.run_pure]
      · rw [← g.len];simp only [List.length_take] at h11;omega
      · match vs,h9 with
        | [],h9 => rfl
        | [v],h9 => simp only [V.underL,Bool.and_true] at h9;exact h9
        | v :: v' :: l,h9 => exact h9
    cases e with
    | normal => exact fin hq
    | ret => exact fin hq
    | _ => exact hq.elim
end
end Go.Proofs.Ytlncingakpelbaa

namespace Go.Proofs.Ytlncingakpelbaa
open Go
set_option linter.unusedVariables false

/-! ## Calls -/
def CallOk (P : Program) (f : FuncId) : Prop := ∃ fn,P.funcs[f]? = some fn ∧ fn.body.isSome = true ∧ (fn.name == "runtime.NumGoroutine") = false

variable {P : Program} {τ : TyTab} {cx : Cx} {Q : Exit → St → Prop} {s : St}

theorem callFunc_run {f : FuncId} (h : CallOk P f) (args : Array Value) (w : World) : (callFunc f args).run P w = .ok (.enter f args) w := by
  obtain ⟨fn,h1,h2,h3⟩ := h
  have h4 : fn.body.isNone = false := by cases hb : fn.body <;> simp_all
  simp only [callFunc,Sem.run_bind,run_program,Result.andThen_ok,h1,h3,h4,Bool.false_eq_true,if_false,Sem.run_pure]

theorem call_run {o : Oper} {x : Operand} {args : Array Operand} {tys : Array TypeId} (hop : o.op = .call { callee := .value x, args, argTypes := tys }) {f : FuncId} (hc : CallOk P f) {ρ : Operand → Value} {a b : Array Value}
    (hx : ρ x = .func (.func f) a b) (w : World) : (execOp ρ o).run P w = .ok (.enter f (a ++ args.map ρ ++ b)) w := by
  simp [execOp,hop,resolve,hx,Deferred.ofValue,invoke,callFunc_run hc]

theorem fn_inv {E : Env} {f : Fn} {fs cs : List V} {c : Value} (r : Rep E (.fn f fs cs) c) : ∃ a b : Array Value,c = .func f a b ∧ Reps E fs a.toList ∧ Reps E cs b.toList := by
  cases r with
  | fn h1 h2 h3 h4 =>
    rename_i a b
    exact ⟨a, b, rfl, ⟨by simpa using h1, fun j hj => by simpa [Array.getD_eq_getD_getElem?, List.getD_eq_getElem?_getD] using h3 j hj⟩,
      ⟨by simpa using h2,fun j hj => by simpa [Array.getD_eq_getD_getElem?,List.getD_eq_getElem?_getD] using h4 j hj⟩⟩

theorem aops_call {ops : Array Oper} {i : Nat} {l : List Nat} {o : Oper} (hi : ops[i]? = some o) (hg : o.guard = none) {x : Operand} {args : Array Operand} {tys : Array TypeId}
    (hop : o.op = .call { callee := .value x,args,argTypes := tys }) {f : FuncId} {fs cs : List V} (hx : s.ev x = .fn (.func f) fs cs) (hc : CallOk P f)
    {Q' : V → List Obj → Prop} (hq : VCalls P f (fs ++ args.toList.map s.ev ++ cs) s.objs Q') (hd : ∀ d,o.dst = some d → d < s.nt)
    (hk : ∀ r objs,Q' r objs → AOps P cx ops Q l (s.after o.dst r objs)) : AOps P cx ops Q (i :: l) s := by
  rintro a w ⟨E,rfl,h2,h3,h4,h5,h6⟩
  have hw : Region.wanted o (yielded ops a.tmps) = true := by simp [Region.wanted,hg]
  have rx := Rel.ev (w := E.w) h6 x
  rw [hx] at rx
  obtain ⟨p,q,hv,hp,hq'⟩ := fn_inv rx
  have hargs : Reps E (args.toList.map s.ev) (args.toList.map a.eval) := Reps.of_map fun y _ => Rel.ev (w := E.w) h6 y
  simp only [wpOps,hi,hw,if_true]
  refine .inl ?_
  unfold Oper.wp
  rw [call_run hop hc hv]
  rw [Oper.upon_enter]
  refine (hq E (p ++ args.map a.eval ++ q) h2 (by simpa using (hp.append hargs).append hq')).mono ?_
  rintro e w ⟨v,E',r,objs,rfl,rfl,g',st,hr,hQ⟩
  exact hk r objs hQ _ _ (Rel.after rfl h3 h4 h5 h6 g' st hr hd)

/-! ### A contract beside other own objects -/
/-- The own objects' numbers are moved: k becomes I[k],and what is new comes behind n. -/
def renId (I : List Nat) (n : Nat) (l : Nat) : Nat := match I[l]? with | some j => j | none => n + (l - I.length)

def ren (I : List Nat) (n : Nat) : V → Option V
  | .ref l v o => some (.ref (renId I n l) v o)
  | .rref l v i o => some (.rref (renId I n l) v i o)
  | .osl l v => some (.osl (renId I n l) v)
  | .osp l v k => some (.osp (renId I n l) v k)
  | .map l => some (.map (renId I n l))
  | _ => none

/-- The caller's objects behind the call: those that were handed in,in their places;the new ones at the end. -/
def setAll : List Obj → List Nat → List Obj → List Obj
  | os,[],new => os ++ new
  | os,i :: I,o :: new => setAll (os.set i o) I new
  | os,_ :: _,[] => os

theorem ren_rep {E E' : Env} {I : List Nat} {n : Nat} (hS : ∀ b, E.S b → E'.S b ∧ E'.w.heap[b]? = E.w.heap[b]?) (hl : ∀ l, l < E.len → renId I n l < E'.len ∧ E'.ver (renId I n l) = E.ver l ∧ E'.loc (renId I n l) = E.loc l)
    {v : V} {c : Value} (r : Rep E v c) : Rep E' (V.subst (ren I n) v) c := by
  refine subst_rep' hS (fun v v' c h r => ?_) (fun v c h1 h2 _ => ?_) r
  · cases v <;> simp only [ren,Option.some.injEq,reduceCtorEq] at h <;> subst h
    · cases r with | ref h1 h2 h3 => obtain ⟨k1,k2,k3⟩ := hl _ h2;exact .ref h1 k1 (by rw [k2,k3];exact h3)
    · cases r with | rref h1 h2 h3 => obtain ⟨k1,k2,k3⟩ := hl _ h2;exact .rref h1 k1 (by rw [k2,k3];exact h3)
    · cases r with | osl h1 h2 h3 => obtain ⟨k1,k2,k3⟩ := hl _ h2;exact .osl h1 k1 (by rw [k2,k3];exact h3)
    · cases r with | osp h1 h2 h3 => obtain ⟨k1,k2,k3⟩ := hl _ h2;exact .osp h1 k1 (by rw [k2,k3];exact h3)
    · cases r with | map h1 h2 h3 => obtain ⟨k1,k2,k3⟩ := hl _ h2;exact .map h1 k1 (by rw [k2,k3];exact h3)
  · cases v <;> simp [V.isRef] at h1 <;> simp [ren] at h2

/-- A contract that names no own object holds beside whatever objects;what it hands back as its own comes behind them. -/
theorem VCalls.beside {f : FuncId} {args : List V} {Q : V → List Obj → Prop} (h : VCalls P f args [] Q) (hu : V.underL 0 args = true) (objs : List Obj) :
    VCalls P f args objs (fun r o => ∃ r' o',Q r' o' ∧ r = V.subst (ren [] objs.length) r' ∧ o = objs ++ o'.map (Obj.subst (ren [] objs.length))) := by
  intro E cargs g r
  have g0 := g.cut (m := 0) (Nat.zero_le _) rfl
  rw [List.take_zero] at g0
  have r0 : Reps (E.cut 0) args cargs.toList := ⟨r.1,fun j hj => below_rep (r.2 j hj) (belowL_getD hu j hj)⟩
  refine (h (E.cut 0) cargs g0 r0).mono ?_
  rintro e w' ⟨v,E',r,o,rfl,rfl,g',st,hr,hQ⟩
  have hno : ∀ b,¬ ownB (E.cut 0) [] b := by rintro b ⟨l,o,h,_⟩;simp at h
  have hfr : ∀ b,b < E.w.heap.size → E'.w.heap[b]? = E.w.heap[b]? := fun b hb => st.frame b hb (hno b)
  have hlen : E'.len = o.length := g'.len.symm
  have hn := g.len
  -- the joint environment
  let E1 : Env := ⟨E'.w,E'.S,E.len + E'.len,fun l => if l < E.len then E.loc l else E'.loc (l - E.len),fun l => if l < E.len then E.ver l else E'.ver (l - E.len)⟩
  have hx : Ext E E1 := ⟨fun b hb => ⟨(st.ext.S b hb).1,hfr b (g.sl b hb)⟩,Nat.le_add_right _ _,fun l hl u hu => by
    simp only [E1,if_pos hl] at hu ⊢
    exact ⟨u,hu,Nat.le_refl _,fun _ => trivial⟩⟩
  have hid : ∀ l,renId [] objs.length l = E.len + l := fun l => by simp [renId,hn]
  have hren : ∀ {v : V} {c : Value},Rep E' v c → Rep E1 (V.subst (ren [] objs.length) v) c := fun r => ren_rep (E := E') (E' := E1) (fun b hb => ⟨hb,rfl⟩) (fun l hl => by
    rw [hid]
    have h1 : ¬ (E.len + l < E.len) := by omega
    have h2 : E.len + l - E.len = l := by omega
    simp only [E1,if_neg h1,h2]
    exact ⟨by omega,trivial,trivial⟩) r
  have hget : ∀ (l : Nat) p,(objs ++ o.map (Obj.subst (ren [] objs.length)))[l]? = some p → (l < E.len ∧ objs[l]? = some p) ∨ (¬ l < E.len ∧ ∃ q,o[l - E.len]? = some q ∧ p = q.subst (ren [] objs.length)) := by
    intro l p h
    by_cases hl : l < E.len
    · rw [List.getElem?_append_left (by omega)] at h;exact .inl ⟨hl,h⟩
    · rw [List.getElem?_append_right (by omega),List.getElem?_map,Option.map_eq_some_iff] at h
      obtain ⟨q,h1,h2⟩ := h
      exact .inr ⟨hl,q,by rw [← hn];exact h1,h2.symm⟩
  have hown : ∀ b,ownB E1 (objs ++ o.map (Obj.subst (ren [] objs.length))) b → ownB E objs b ∨ ownB E' o b := by
    rintro b ⟨l,p,h1,h2,h3⟩
    rcases hget l p h1 with ⟨hl,h⟩ | ⟨hl,q,h,rfl⟩
    · simp only [E1,if_pos hl] at h2 h3;exact .inl ⟨l,p,h,h2,h3⟩
    · simp only [E1,if_neg hl] at h2 h3;exact .inr ⟨_,q,h,Obj.has_subst.1 h2,h3⟩
  have hnew : ∀ b,ownB E' o b → E.w.heap.size ≤ b := fun b hb => (st.own b hb).elim id (fun h => absurd h (hno b))
  have hSn : ∀ b,E'.S b → E.S b ∨ E.w.heap.size ≤ b := fun b hb => (st.st b hb).elim .inl (fun h => h.elim .inr (fun h => absurd h (hno b)))
  refine ⟨v,E1,_,_,rfl,rfl,⟨?_,?_,?_,g'.sl,?_⟩,⟨hx,st.os,st.tape,st.output,st.size,fun b hb _ => hfr b hb,fun b hb => ?_,fun b hb => ?_⟩,hren hr,r,o,hQ,rfl,rfl⟩
  · simp [E1,hn,hlen]
  · intro l p hp
    rcases hget l p hp with ⟨hl,h⟩ | ⟨hl,q,h,rfl⟩
    · have hk := g.at_ l p h
      exact hk.keep hx (by simp only [E1,if_pos hl]) (by simp only [E1,if_pos hl]) (fun hh => hfr _ (hk.block_lt hh))
    · have hk := g'.at_ _ q h
      have e1 : E1.ver l = E'.ver (l - E.len) := by simp only [E1,if_neg hl]
      have e2 : E1.loc l = E'.loc (l - E.len) := by simp only [E1,if_neg hl]
      cases q with
      | dead => exact e1.trans hk
      | box cs =>
        obtain ⟨h1,vals,t,h2,h3,h4⟩ := hk
        exact ⟨e1.trans h1,vals,t,by rw [e2];exact h2,by rw [substL_eq,List.length_map];exact h3,fun j hj => by
          rw [substL_eq,List.length_map] at hj;rw [substL_getD hj];exact hren (h4 j hj)⟩
      | row t xs ver => obtain ⟨h1,h2⟩ := hk;exact ⟨e1.trans h1,by rw [e2];exact h2⟩
      | smap t m => obtain ⟨h1,h2⟩ := hk;exact ⟨e1.trans h1,by rw [e2];exact h2⟩
      | imap t m => obtain ⟨h1,h2⟩ := hk;exact ⟨e1.trans h1,by rw [e2];exact h2⟩
  · intro b hb hs
    rcases hown b hb with h | h
    · rcases hSn b hs with h' | h'
      · exact g.ns b h h'
      · have := g.own_lt h;omega
    · exact g'.ns b h hs
  · intro l l' p p' h1 h2 h3 h4 h5
    rcases hget l p h1 with ⟨hl,h⟩ | ⟨hl,q,h,rfl⟩ <;> rcases hget l' p' h2 with ⟨hl',h'⟩ | ⟨hl',q',h',rfl⟩
    · simp only [E1,if_pos hl,if_pos hl'] at h3 h4 h5
      exact g.inj l l' p p' h h' h3 h4 h5
    · simp only [E1,if_pos hl,if_neg hl'] at h3 h4 h5
      have := g.own_lt ⟨l,p,h,h3,rfl⟩
      have := hnew _ ⟨_,q',h',Obj.has_subst.1 h4,rfl⟩
      omega
    · simp only [E1,if_neg hl,if_pos hl'] at h3 h4 h5
      have := g.own_lt ⟨l',p',h',h4,rfl⟩
      have := hnew _ ⟨_,q,h,Obj.has_subst.1 h3,rfl⟩
      omega
    · simp only [E1,if_neg hl,if_neg hl'] at h3 h4 h5
      have := g'.inj _ _ q q' h h' (Obj.has_subst.1 h3) (Obj.has_subst.1 h4) h5
      omega
  · exact (hown b hb).elim .inr (fun h => .inl (hnew b h))
  · exact (hSn b hb).elim .inl (fun h => .inr (.inl h))

end Go.Proofs.Ytlncingakpelbaa

namespace Go.Proofs.Ytlncingakpelbaa
open Go
set_option linter.unusedVariables false

/-! ## The table of types -/
def zeroOf : Ty → List Value
  | .int k => [.int k 0]
  | .bool => [.bool false]
  | .str => [.string ByteArray.empty]
  | .sl _ => [.slice none 0 0]
  | .pair a b => zeroOf a ++ zeroOf b
  | .unit => []

theorem cells_dflt (w : World) (S : Nat → Prop) : ∀ T : Ty,Cells w S T T.dflt (zeroOf T)
  | .int _ => rfl
  | .bool => rfl
  | .str => rfl
  | .sl _ => ⟨none,0,rfl,⟨Nat.le_refl _,Nat.zero_le _⟩,fun h => absurd rfl h⟩
  | .pair a b => ⟨_,_,rfl,cells_dflt w S a,cells_dflt w S b⟩
  | .unit => rfl

def lookT (t : Nat) : List (Nat × TI) → Option TI
  | [] => none
  | (u,i) :: r => match Nat.beq u t with
    | true => some i
    | false => lookT t r

theorem tabOk_of {P : Program} {l : List (Nat × TI)} (h : ∀ p ∈ l,p.2.Ok P p.1) : TabOk P (fun t => lookT t l) := by
  intro t i ht
  induction l with
  | nil => simp [lookT] at ht
  | cons p l ih =>
    obtain ⟨u,j⟩ := p
    simp only [lookT] at ht
    split at ht
    · rename_i e
      cases ht
      have := Nat.eq_of_beq_eq_true e
      subst this
      exact h (u,i) (by simp)
    · exact ih (fun p hp => h p (by simp [hp])) ht

theorem TI.ok_mk {P : Program} {t : TypeId} {ti : TI} (h : (P.info? t).map (fun i => (i.size, i.bytes, i.zero.map fun z => (z.cells.toList, z.cells.size))) = some (ti.size, ti.bytes, some (ti.zero, ti.size)))
    (hk : match ti.k with
    | .int k => P.underlying t = some (.int k)
    | .bool => P.underlying t = some .bool
    | .str => P.underlying t = some .string
    | .sl e => P.underlying t = some (.slice e)
    | .arr n e => P.underlying t = some (.array n e)
    | .st offs => ∃ fs,P.underlying t = some (.struct fs) ∧ fs.toList.map (fun f => (f.offset,P.cellsOf f.type)) = offs ∧ ∀ p ∈ offs,p.2 ≠ 0
    | .ptr => ∃ e,P.underlying t = some (.pointer e)
    | .map k e => P.underlying t = some (.map k e)
    | .fn => ∃ ps rs v,P.underlying t = some (.func ps rs v)
    | .other => True) (hc : match ti.code with | some T => T.size = ti.size ∧ 0 < ti.size ∧ zeroOf T = ti.zero | none => True) : ti.Ok P t := by
  obtain ⟨k,size,bytes,zero,code⟩ := ti
  refine ⟨?_,hk,fun T hT => ?_⟩
  · simp only [Option.map_eq_some_iff,Prod.mk.injEq] at h
    obtain ⟨i,hi,h1,h2,h3⟩ := h
    obtain ⟨z,hz,h4,h5⟩ := h3
    exact ⟨i,z,hi,h1,h2,hz,h4,h5⟩
  · simp only at hT
    subst hT
    obtain ⟨h1,h2,h3⟩ := hc
    exact ⟨h1,h2,fun w S => by simp only at h3;rw [← h3];exact cells_dflt w S T⟩

/-! ## Parts of a function's code,by a path -/
def subC : List Nat → Code → Code
  | [],c => c
  | 0 :: p,.seq a _ => subC p a
  | 1 :: p,.seq _ b => subC p b
  | 0 :: p,.cond _ a _ => subC p a
  | 1 :: p,.cond _ _ b => subC p b
  | 0 :: p,.block _ c => subC p c
  | 0 :: p,.loop c => subC p c
  | 0 :: p,.scope c => subC p c
  | 0 :: p,.rangeFunc _ _ a _ => subC p a
  | 1 :: p,.rangeFunc _ _ _ b => subC p b
  | _,_ => .skip

def bodyOf (f : Func) : Code := f.body.getD .skip

def regOps : Code → Array Oper
  | .region _ ops _ => ops
  | _ => #[]
def regId : Code → Nat
  | .region id _ _ => id
  | _ => 0

abbrev vi (n : Int) : V := .d (.int .i64) n
abbrev vb (b : Bool) : V := .d .bool b
abbrev gI (l : List Int) (i : Int) : Int := l.getD i.toNat 0

variable {P : Program} {τ : TyTab} {cx : Cx} {Q : Exit → St → Prop} {s : St}

/-! ## Steps that say less (ghosts),reckoned -/
inductive Gh where
  | keep (l : List Nat)
  | cut (m : Nat)
  | freeze (l : Nat)
  | adopt (t : Nat) (T : Ty)
  | data (t : Nat) (T : Ty)
  | reset (l : Nat)
  | nilAt (t : Nat) (p : List Nat) (T : Ty)
  | optN (t : Nat) (v : V)
  | optS (t : Nat)
  | nilBox (l : Nat) (p : List Nat) (T : Ty)
  | adoptBox (l j : Nat) (T : Ty)

/-- An empty slice inside a value is taken for a datum. -/
def V.nilAt : List Nat → Ty → V → V
  | [],T,.nils => .d (.sl T) []
  | i :: p,T,.agg cs => .agg (cs.modify i (V.nilAt p T))
  | i :: p,T,.tup cs => .tup (cs.modify i (V.nilAt p T))
  | i :: p,T,.er cs => .er (cs.modify i (V.nilAt p T))
  | _,_,v => v

theorem nilAt_rep {E : Env} {T : Ty} : ∀ {p : List Nat} {v : V} {c : Value},Rep E v c → Rep E (v.nilAt p T) c
  | [],v,c,r => by
    cases r <;> first | exact .d ⟨_,_,rfl,⟨Nat.le_refl _,Nat.zero_le _⟩,fun h => absurd rfl h⟩ | (simp only [V.nilAt];first | exact .any _ | exact .nilp | exact .nilf | exact .nilm | (constructor <;> assumption))
  | i :: p,v,c,r => by
    have hm : ∀ {cs : List V} {f : Nat → Value},(∀ j,j < cs.length → Rep E (cs.getD j .any) (f j)) → ∀ j,j < (cs.modify i (V.nilAt p T)).length → Rep E ((cs.modify i (V.nilAt p T)).getD j .any) (f j) := by
      intro cs f h j hj
      rw [List.length_modify] at hj
      have h1 := h j hj
      rw [List.getD_eq_getElem?_getD] at h1 ⊢
      rw [List.getElem?_modify]
      rw [List.getElem?_eq_getElem hj] at h1 ⊢
      simp only [Option.getD_some,Option.map_eq_map,Option.map_some] at h1 ⊢
      split
      · exact nilAt_rep h1
      · exact h1
    cases r <;> simp only [V.nilAt] <;> first
      | exact .any _ | exact .nilp | exact .nilf | exact .nilm | exact .nils _
      | (rename_i h1 h2;exact .agg (by rw [List.length_modify];exact h1) (hm h2))
      | (rename_i h1 h2;exact .tup (by rw [List.length_modify];exact h1) (hm h2))
      | (rename_i h1 h2 h3;exact .er _ h1 (fun j hj => h2 j (by rwa [List.length_modify] at hj)) (hm h3))
      | (constructor <;> assumption)

def setV (t : Nat) (v : V) (s : St) : St := { s with tmps := (t,v) :: s.tmps }

def St.reset (l : Nat) (s : St) : Option St :=
  match s.objs[l]? with
  | some (.row T xs ver) => some (({ s with objs := s.objs.set l (.row T xs 0) } : St).subst fun
      | .osl l' v => if l' = l then some (if v = ver then .osl l 0 else .any) else none
      | .osp l' v n => if l' = l then some (if v = ver then .osp l 0 n else .any) else none
      | .rref l' _ _ _ => if l' = l then some .any else none
      | .ref l' _ _ => if l' = l then some .any else none
      | .map l' => if l' = l then some .any else none
      | _ => none)
  | _ => none

/-- 'k': so many objects came in: they stay. -/
def ghost (k : Nat) : Gh → St → Option St
  | .keep l,s => some (s.keep l)
  | .cut m,s => if k ≤ m then if m ≤ s.objs.length then if tmpsBelow m s.tmps then if objsBelow m (s.objs.take m) then some (s.cut m) else none else none else none else none
  | .freeze l,s => some (s.freeze l)
  | .adopt t T,s => if 0 < T.size then match s.get t with
    | .nils => some { s with tmps := (t,.osl s.objs.length 0) :: s.tmps,objs := s.objs ++ [.row T [] 0] }
    | _ => none
    else none
  | .data t T,s => match s.get t with
    | .nils => some { s with tmps := (t,.d (.sl T) []) :: s.tmps }
    | _ => none
  | .reset l,s => if k ≤ l then s.reset l else none
  | .nilAt t p T,s => some (setV t ((s.get t).nilAt p T) s)
  | .optN t v,s => match s.get t with
    | .nilp => some (setV t (.opt false v) s)
    | _ => none
  | .optS t,s => match s.get t with
    | .er cs => some (setV t (.opt true (.er cs)) s)
    | _ => none
  | .nilBox l p T,s => match s.objs[l]? with
    | some (.box cs) => match (V.agg cs).nilAt p T with
      | .agg cs' => some { s with objs := s.objs.set l (.box cs') }
      | _ => none
    | _ => none
  | .adoptBox l j T,s => if 0 < T.size then match s.objs[l]? with
    | some (.box cs) => match cs[j]? with
      | some .nils => some { s with objs := s.objs.set l (.box (cs.set j (.osl s.objs.length 0))) ++ [.row T [] 0] }
      | _ => none
    | _ => none
    else none

def ghosts (k : Nat) : List Gh → St → Option St
  | [],s => some s
  | g :: l,s => match ghost k g s with
    | some s' => ghosts k l s'
    | none => none

theorem wk_reset {l : Nat} {s s' : St} (hk : cx.E.len ≤ l) (h : s.reset l = some s') : Wk cx s s' := by
  rintro a w ⟨E,rfl,g,st,h4,h5,h6⟩
  unfold St.reset at h
  split at h
  · rename_i T xs ver ho
    cases h
    have hat := g.at_ l _ ho
    have hlt : l < s.objs.length := (List.getElem?_eq_some_iff.1 ho).1
    let E' : Env := ⟨E.w,E.S,E.len,E.loc,upd E.ver l (some 0)⟩
    have hle : l < E.len := by rw [← g.len];exact hlt
    have hS : ∀ b,E.S b → E'.S b ∧ E'.w.heap[b]? = E.w.heap[b]? := fun b hb => ⟨hb,rfl⟩
    have hv0 : E'.ver l = some 0 := upd_same _ _ _
    have hvn : ∀ j,j ≠ l → E'.ver j = E.ver j := fun j hj => upd_ne _ _ hj
    have hf : ∀ {v : V} {c : Value},Rep E v c → Rep E' (V.subst (fun
      | .osl l' v => if l' = l then some (if v = ver then .osl l 0 else .any) else none
      | .osp l' v n => if l' = l then some (if v = ver then .osp l 0 n else .any) else none
      | .rref l' _ _ _ => if l' = l then some .any else none
      | .ref l' _ _ => if l' = l then some .any else none
      | .map l' => if l' = l then some .any else none
      | _ => none) v) c := by
      intro v c r
      refine subst_rep' hS (fun v v' c hfv r => ?_) (fun v c h1 h2 r => ?_) r
      · split at hfv
        · rename_i l' v
          split at hfv
          · rename_i e;subst e
            cases hfv
            split
            · rename_i e;subst e
              have hc := osl_inv r hat.1 rfl
              cases r with | osl k1 k2 k3 => exact .osl k1 hle (fun u hu => by rw [hv0] at hu;cases hu;exact ⟨Nat.le_refl _,fun _ => hc⟩)
            · exact .any _
          · cases hfv
        · rename_i l' v n
          split at hfv
          · rename_i e;subst e
            cases hfv
            split
            · rename_i e;subst e
              have hc := osp_inv r hat.1 rfl
              cases r with | osp k1 k2 k3 => exact .osp k1 hle (fun u hu => by rw [hv0] at hu;cases hu;exact ⟨Nat.le_refl _,fun _ => hc⟩)
            · exact .any _
          · cases hfv
        · split at hfv
          · cases hfv;exact .any _
          · cases hfv
        · split at hfv
          · cases hfv;exact .any _
          · cases hfv
        · split at hfv
          · cases hfv;exact .any _
          · cases hfv
        · cases hfv
      · cases v <;> simp [V.isRef] at h1
        · simp at h2
          cases r with | ref k1 k2 k3 => exact .ref k1 k2 (by rw [hvn _ h2];exact k3)
        · simp at h2
          cases r with | rref k1 k2 k3 => exact .rref k1 k2 (by rw [hvn _ h2];exact k3)
        · simp at h2
          cases r with | osl k1 k2 k3 => exact .osl k1 k2 (by rw [hvn _ h2];exact k3)
        · simp at h2
          cases r with | osp k1 k2 k3 => exact .osp k1 k2 (by rw [hvn _ h2];exact k3)
        · simp at h2
          cases r with | map k1 k2 k3 => exact .map k1 k2 (by rw [hvn _ h2];exact k3)
    have hget : ∀ (j : Nat) p,(s.objs.set l (.row T xs 0))[j]? = some p → (j ≠ l ∧ s.objs[j]? = some p) ∨ (j = l ∧ p = .row T xs 0) := by
      intro j p h
      by_cases e : j = l
      · subst e;rw [List.getElem?_set_self hlt] at h;exact .inr ⟨rfl,by cases h;rfl⟩
      · rw [List.getElem?_set_ne (Ne.symm e)] at h;exact .inl ⟨e,h⟩
    have hown : ∀ b,ownB E' (s.objs.set l (.row T xs 0)) b → ownB E s.objs b := by
      rintro b ⟨j,p,h1,h2,h3⟩
      rcases hget j p h1 with ⟨_,h⟩ | ⟨rfl,rfl⟩
      · exact ⟨j,p,h,h2,h3⟩
      · exact ⟨j,_,ho,h2,h3⟩
    refine ⟨E',rfl,⟨by simp [St.subst,E',g.len],fun j p h => ?_,fun b h => g.ns b (hown b (ownB_subst.1 h)),g.sl,fun i j p q h1 h2 h3 h4 h5 => ?_⟩,
      ⟨⟨st.ext.S,st.ext.len,fun j hj u hu => st.ext.ver j hj u (by rw [hvn j (by omega)] at hu;exact hu)⟩,st.os,st.tape,st.output,st.size,st.frame,fun b hb => st.own b (hown b (ownB_subst.1 hb)),st.st⟩,h4,h5,fun t => ?_⟩
    · simp only [St.subst,List.getElem?_map,Option.map_eq_some_iff] at h
      obtain ⟨p',h1,rfl⟩ := h
      rcases hget j p' h1 with ⟨hne,h⟩ | ⟨rfl,rfl⟩
      · have hk := g.at_ j _ h
        cases p' with
        | dead => exact (hvn j hne).trans hk
        | box cs =>
          obtain ⟨k2,vals,t,k3,k4,k5⟩ := hk
          exact ⟨(hvn j hne).trans k2,vals,t,k3,by rw [substL_eq,List.length_map];exact k4,fun i hi => by
            rw [substL_eq,List.length_map] at hi;rw [substL_getD hi];exact hf (k5 i hi)⟩
        | row t x v => obtain ⟨k1,k2⟩ := hk;exact ⟨(hvn j hne).trans k1,k2⟩
        | smap t m => obtain ⟨k1,k2⟩ := hk;exact ⟨(hvn j hne).trans k1,k2⟩
        | imap t m => obtain ⟨k1,k2⟩ := hk;exact ⟨(hvn j hne).trans k1,k2⟩
      · obtain ⟨k1,k2⟩ := hat;exact ⟨hv0,k2⟩
    · simp only [St.subst,List.getElem?_map,Option.map_eq_some_iff] at h1 h2
      obtain ⟨p',h6,rfl⟩ := h1
      obtain ⟨q',h7,rfl⟩ := h2
      have k3 := Obj.has_subst.1 h3
      have k4 := Obj.has_subst.1 h4
      rcases hget i p' h6 with ⟨_,h8⟩ | ⟨rfl,rfl⟩ <;> rcases hget j q' h7 with ⟨_,h9⟩ | ⟨rfl,rfl⟩
      · exact g.inj i j _ _ h8 h9 k3 k4 h5
      · exact g.inj i j _ _ h8 ho k3 k4 h5
      · exact g.inj i j _ _ ho h9 k3 k4 h5
      · rfl
    · show Rep E' (look t (s.tmps.map _)) _
      rw [look_subst rfl]
      exact hf (h6 t)
  · cases h

theorem wk_data {t : Nat} {T : Ty} (ht : s.get t = .nils) : Wk cx s { s with tmps := (t,.d (.sl T) []) :: s.tmps } := by
  rintro a w ⟨E,rfl,g,st,h4,h5,h6⟩
  refine ⟨E,rfl,g,st,h4,h5,fun u => ?_⟩
  show Rep E (look u ((t,_) :: s.tmps)) _
  rw [look_cons]
  split
  · rename_i e;subst e
    have r := h6 t
    rw [ht] at r
    generalize a.tmps.getD t undef = c at r ⊢
    cases r
    exact .d ⟨_,_,rfl,⟨Nat.le_refl _,Nat.zero_le _⟩,fun h => absurd rfl h⟩
  · exact h6 u

theorem wk_setV {t : Nat} {v : V} (h : ∀ E c,Rep E (s.get t) c → Rep E v c) : Wk cx s (setV t v s) := by
  rintro a w ⟨E,rfl,g,st,h4,h5,h6⟩
  refine ⟨E,rfl,g,st,h4,h5,fun u => ?_⟩
  show Rep E (look u ((t,_) :: s.tmps)) _
  rw [look_cons]
  split
  · rename_i e;subst e;exact h E _ (h6 t)
  · exact h6 u

theorem ObjAt.boxW {E : Env} {l : Nat} {cs cs' : List V} (hl : cs'.length = cs.length) (hr : ∀ E j c,j < cs.length → Rep E (cs.getD j .any) c → Rep E (cs'.getD j .any) c) (h : ObjAt E l (.box cs)) : ObjAt E l (.box cs') := by
  obtain ⟨h1,vals,t,h2,h3,h4⟩ := h
  exact ⟨h1,vals,t,h2,by rw [hl];exact h3,fun j hj => hr E j _ (by rwa [hl] at hj) (h4 j (by rwa [hl] at hj))⟩

theorem wk_boxW {l : Nat} {cs cs' : List V} (ho : s.objs[l]? = some (.box cs)) (hl : cs'.length = cs.length) (hr : ∀ E j c,j < cs.length → Rep E (cs.getD j .any) c → Rep E (cs'.getD j .any) c) : Wk cx s { s with objs := s.objs.set l (.box cs') } := by
  rintro a w ⟨E,rfl,g,st,h4,h5,h6⟩
  have hlt : l < s.objs.length := (List.getElem?_eq_some_iff.1 ho).1
  have hget : ∀ (j : Nat) p,(s.objs.set l (.box cs'))[j]? = some p → ∃ q,s.objs[j]? = some q ∧ (p = q ∨ (j = l ∧ q = .box cs ∧ p = .box cs')) := by
    intro j p h
    by_cases e : j = l
    · subst e;rw [List.getElem?_set_self hlt] at h;exact ⟨_,ho,.inr ⟨rfl,rfl,by cases h;rfl⟩⟩
    · rw [List.getElem?_set_ne (Ne.symm e)] at h;exact ⟨p,h,.inl rfl⟩
  have hown : ∀ b,ownB E (s.objs.set l (.box cs')) b → ownB E s.objs b := by
    rintro b ⟨j,p,h1,h2,h3⟩
    obtain ⟨q,hq,rfl | ⟨rfl,rfl,rfl⟩⟩ := hget j p h1
    · exact ⟨j,p,hq,h2,h3⟩
    · exact ⟨j,_,hq,trivial,h3⟩
  refine ⟨E,rfl,⟨by rw [List.length_set];exact g.len,fun j p h => ?_,fun b h => g.ns b (hown b h),g.sl,fun i j p q h1 h2 h3 h4 h5 => ?_⟩,
    ⟨st.ext,st.os,st.tape,st.output,st.size,st.frame,fun b hb => st.own b (hown b hb),st.st⟩,h4,h5,h6⟩
  · obtain ⟨q,hq,rfl | ⟨rfl,rfl,rfl⟩⟩ := hget j p h
    · exact g.at_ j _ hq
    · exact (g.at_ j _ hq).boxW hl hr
  · obtain ⟨p',hp,e1⟩ := hget i p h1
    obtain ⟨q',hq,e2⟩ := hget j q h2
    refine g.inj i j p' q' hp hq ?_ ?_ h5
    · rcases e1 with rfl | ⟨rfl,rfl,rfl⟩
      · exact h3
      · trivial
    · rcases e2 with rfl | ⟨rfl,rfl,rfl⟩
      · exact h4
      · trivial

theorem Good.setBox {E : Env} {objs : List Obj} {l : Nat} {cs cs' : List V} (g : Good E objs) (ho : objs[l]? = some (.box cs)) (h' : ObjAt E l (.box cs')) :
    Good E (objs.set l (.box cs')) ∧ ∀ E0 imp,Step E0 imp E objs → Step E0 imp E (objs.set l (.box cs')) := by
  have hlt : l < objs.length := (List.getElem?_eq_some_iff.1 ho).1
  have hget : ∀ (j : Nat) p,(objs.set l (.box cs'))[j]? = some p → ∃ q,objs[j]? = some q ∧ (p = q ∨ (j = l ∧ q = .box cs ∧ p = .box cs')) := by
    intro j p h
    by_cases e : j = l
    · subst e;rw [List.getElem?_set_self hlt] at h;exact ⟨_,ho,.inr ⟨rfl,rfl,by cases h;rfl⟩⟩
    · rw [List.getElem?_set_ne (Ne.symm e)] at h;exact ⟨p,h,.inl rfl⟩
  have hown : ∀ b,ownB E (objs.set l (.box cs')) b → ownB E objs b := by
    rintro b ⟨j,p,h1,h2,h3⟩
    obtain ⟨q,hq,rfl | ⟨rfl,rfl,rfl⟩⟩ := hget j p h1
    · exact ⟨j,p,hq,h2,h3⟩
    · exact ⟨j,_,hq,trivial,h3⟩
  refine ⟨⟨by rw [List.length_set];exact g.len,fun j p h => ?_,fun b h => g.ns b (hown b h),g.sl,fun i j p q h1 h2 h3 h4 h5 => ?_⟩,
    fun E0 imp st => ⟨st.ext,st.os,st.tape,st.output,st.size,st.frame,fun b hb => st.own b (hown b hb),st.st⟩⟩
  · obtain ⟨q,hq,rfl | ⟨rfl,rfl,rfl⟩⟩ := hget j p h
    · exact g.at_ j _ hq
    · exact h'
  · obtain ⟨p',hp,e1⟩ := hget i p h1
    obtain ⟨q',hq,e2⟩ := hget j q h2
    refine g.inj i j p' q' hp hq ?_ ?_ h5
    · rcases e1 with rfl | ⟨rfl,rfl,rfl⟩
      · exact h3
      · trivial
    · rcases e2 with rfl | ⟨rfl,rfl,rfl⟩
      · exact h4
      · trivial

theorem wk_adoptBox {l j : Nat} {cs : List V} (T : Ty) (hT : 0 < T.size) (ho : s.objs[l]? = some (.box cs)) (hj : cs[j]? = some .nils) :
    Wk cx s { s with objs := s.objs.set l (.box (cs.set j (.osl s.objs.length 0))) ++ [.row T [] 0] } := by
  rintro a w ⟨E,rfl,g,st,h4,h5,h6⟩
  have hlt : l < s.objs.length := (List.getElem?_eq_some_iff.1 ho).1
  have hjl : j < cs.length := (List.getElem?_eq_some_iff.1 hj).1
  obtain ⟨k1,vals,t,k2,k3,k4⟩ := g.at_ l _ ho
  have r := k4 j hjl
  rw [List.getD_eq_getElem?_getD,hj,Option.getD_some] at r
  generalize hc : vals.getD j undef = c at r
  cases r with
  | nils ad =>
    let L : Loc := ⟨0,.slice ad 0 0,T.size⟩
    have hp := Good.push g (w := E.w) (L := L) (o := .row T [] 0) ⟨rfl,rfl,rfl,Nat.le_refl _,fun _ _ _ => rfl⟩
      ⟨by simp [Env.push,upd_same],by simp only [Env.push,upd_same,L],hT,0,[],rfl,.inl ⟨ad,by simp only [Env.push,upd_same,L],rfl⟩⟩ (fun hh => absurd ⟨ad,rfl⟩ hh)
    have ho' : (s.objs ++ [.row T [] 0])[l]? = some (.box cs) := by rw [List.getElem?_append_left hlt];exact ho
    obtain ⟨m1,vals',t',m2,m3,m4⟩ := hp.1.at_ l _ ho'
    have hvv : vals' = vals := by
      have hL : (E.push E.w L).loc l = E.loc l := by simp only [Env.push];exact upd_ne _ _ (by rw [← g.len];omega)
      rw [hL] at m2
      have := m2.symm.trans k2
      cases this;rfl
    have hb : ObjAt (E.push E.w L) l (.box (cs.set j (.osl s.objs.length 0))) := by
      refine ⟨m1,vals',t',m2,by rw [List.length_set];exact m3,fun i hi => ?_⟩
      rw [List.length_set] at hi
      by_cases e : i = j
      · subst e
        rw [List.getD_eq_getElem?_getD,List.getElem?_set_self hi,Option.getD_some,hvv,hc]
        refine .osl rfl (by rw [g.len];exact Nat.lt_succ_self _) (fun u hu => ?_)
        rw [g.len] at hu ⊢
        simp only [Env.push,upd_same,Option.some.injEq] at hu
        subst hu
        exact ⟨Nat.le_refl _,fun _ => by simp only [Env.push,upd_same,L]⟩
      · have := m4 i hi
        rw [List.getD_eq_getElem?_getD] at this ⊢
        rw [List.getElem?_set_ne (Ne.symm e)]
        exact this
    obtain ⟨n1,n2⟩ := hp.1.setBox ho' hb
    rw [List.set_append_left _ _ hlt] at n1 n2
    exact ⟨E.push E.w L,rfl,n1,n2 _ _ (st.trans hp.2),h4,h5,fun u => (h6 u).mono hp.2.ext⟩

theorem nilAt_cells {E : Env} {T : Ty} {i : Nat} {p : List Nat} {cs cs' : List V} (h : (V.agg cs).nilAt (i :: p) T = .agg cs') : cs'.length = cs.length ∧ ∀ E j c,j < cs.length → Rep E (cs.getD j .any) c → Rep E (cs'.getD j .any) c := by
  simp only [V.nilAt,V.agg.injEq] at h
  subst h
  refine ⟨List.length_modify ..,fun E j c hj r => ?_⟩
  rw [List.getD_eq_getElem?_getD] at r ⊢
  rw [List.getElem?_modify]
  rw [List.getElem?_eq_getElem hj] at r ⊢
  simp only [Option.getD_some,Option.map_eq_map,Option.map_some] at r ⊢
  split
  · exact nilAt_rep r
  · exact r

theorem wk_ghost {g : Gh} {s s' : St} {k : Nat} (hk : cx.E.len = k) (h : ghost k g s = some s') : Wk cx s s' := by
  subst hk
  cases g with
  | keep l => simp only [ghost] at h;cases h;exact wk_keep l s
  | cut m =>
    simp only [ghost] at h
    repeat' split at h
    all_goals first | (cases h;done) | skip
    cases h
    exact wk_cut m (by assumption) (by assumption) (by assumption) (by assumption)
  | freeze l => simp only [ghost] at h;cases h;exact wk_freeze cx l s
  | adopt t T =>
    simp only [ghost] at h
    split at h
    · rename_i hT
      split at h
      · rename_i ht;cases h;exact wk_adopt t T hT ht
      · cases h
    · cases h
  | data t T =>
    simp only [ghost] at h
    split at h
    · rename_i ht;cases h;exact wk_data ht
    · cases h
  | reset l =>
    simp only [ghost] at h
    split at h
    · exact wk_reset (by assumption) h
    · cases h
  | nilAt t p T => simp only [ghost] at h;cases h;exact wk_setV fun E c r => nilAt_rep r
  | optN t v =>
    simp only [ghost] at h
    split at h
    · rename_i ht
      cases h
      exact wk_setV fun E c r => by rw [ht] at r;cases r;exact .opt (fun e => by cases e) (fun _ => rfl)
    · cases h
  | optS t =>
    simp only [ghost] at h
    split at h
    · rename_i ht
      cases h
      exact wk_setV fun E c r => by rw [ht] at r;exact .opt (fun _ => r) (fun e => by cases e)
    · cases h
  | nilBox l p T =>
    simp only [ghost] at h
    split at h
    · rename_i cs ho
      split at h
      · rename_i cs' hc
        cases h
        cases p with
        | nil => simp only [V.nilAt,V.agg.injEq] at hc;subst hc;exact wk_boxW ho rfl fun E j c hj r => r
        | cons i p => exact wk_boxW ho (nilAt_cells (E := cx.E) hc).1 (nilAt_cells (E := cx.E) hc).2
      · cases h
    · cases h
  | adoptBox l j T =>
    simp only [ghost] at h
    split at h
    · rename_i hT
      split at h
      · rename_i cs ho
        split at h
        · rename_i hj;cases h;exact wk_adoptBox T hT ho hj
        · cases h
      · cases h
    · cases h

theorem wk_ghosts {k : Nat} (hk : cx.E.len = k) : ∀ {l : List Gh} {s s' : St},ghosts k l s = some s' → Wk cx s s'
  | [],s,s',h => by simp only [ghosts] at h;cases h;exact .refl s
  | g :: l,s,s',h => by
    simp only [ghosts] at h
    split at h
    · rename_i s1 h1
      exact (wk_ghost hk h1).trans (wk_ghosts hk h)
    · cases h

theorem awp_gh {c : Code} {k : Nat} (hk : cx.E.len = k) (l : List Gh) (s' : St) (h : ghosts k l s = some s') (hn : AWp P cx c Q s') : AWp P cx c Q s := awp_wk (wk_ghosts hk h) hn
theorem aops_gh {ops : Array Oper} {il : List Nat} {k : Nat} (hk : cx.E.len = k) (l : List Gh) (s' : St) (h : ghosts k l s = some s') (hn : AOps P cx ops Q il s') : AOps P cx ops Q il s := aops_wk (wk_ghosts hk h) hn

/-! ## Regions,calls,loops: the forms that the printed walks use -/
theorem awp_eq {c c' : Code} (h : c = c') (k : AWp P cx c' Q s) : AWp P cx c Q s := h ▸ k

def elemN (n : Nat) : List Nat → Bool
  | [] => false
  | m :: l => Nat.beq m n || elemN n l

def runR (τ : TyTab) (wraps : List Nat) (c : Code) (live : List Nat) (s : St) : Option (List Prop × St) :=
  match c with
  | .region _ ops false => match runOps τ (fun i => !elemN i wraps) ops.toList (List.range ops.size) s with
    | some (obs,s') => some (obs,s'.keep live)
    | none => none
  | _ => none

theorem awp_rg (hτ : TabOk P τ) {c : Code} (live wraps : List Nat) (obs : List Prop) (s' : St) (h : runR τ wraps c live s = some (obs,s')) (ho : AllP obs) (hk : Q .normal s') : AWp P cx c Q s := by
  unfold runR at h
  split at h
  · split at h
    · rename_i obs' s1 h1
      cases h
      exact awp_run hτ h1 ho (wk_keep _ _) hk
    · cases h
  · cases h

def isRg : Code → Bool
  | .region _ _ false => true
  | _ => false

theorem awp_rgo {c : Code} (hc : isRg c = true) (h : AOps P cx (regOps c) Q (List.range (regOps c).size) s) : AWp P cx c Q s := by
  cases c with
  | region id ops d => cases d with
    | false => exact awp_region h
    | true => cases hc
  | _ => cases hc

theorem aops_eq {ops : Array Oper} {l l' : List Nat} (h : l = l') (k : AOps P cx ops Q l' s) : AOps P cx ops Q l s := h ▸ k

def runI (τ : TyTab) (wraps : List Nat) (ops : List Oper) (l : List Nat) (live : List Nat) (s : St) : Option (List Prop × St) :=
  match runOps τ (fun i => !elemN i wraps) ops l s with
  | some (obs,s') => some (obs,s'.keep live)
  | none => none

theorem aops_seg (hτ : TabOk P τ) {ops : Array Oper} {l : List Nat} (l1 l2 : List Nat) (hl : l = l1 ++ l2) (live wraps : List Nat) (obs : List Prop) (s' : St) (h : runI τ wraps ops.toList l1 live s = some (obs, s'))
    (ho : AllP obs) (hk : AOps P cx ops Q l2 s') : AOps P cx ops Q l s := by
  subst hl
  unfold runI at h
  split at h
  · rename_i obs' s1 h1
    cases h
    exact runOps_ok hτ h1 ho (aops_wk (wk_keep _ _) hk)
  · cases h

/-- A call by a function value that is known. -/
def callAt (ops : List Oper) (i : Nat) (s : St) : Option (FuncId × List V × Nat) :=
  match ops[i]? with
  | some ⟨some d,.call ⟨.value x,args,_⟩,_,_,_,none⟩ => match s.ev x with
    | .fn (.func f) fs cs => if d < s.nt then some (f,fs ++ (args.toList.map s.ev ++ cs),d) else none
    | _ => none
  | _ => none

theorem aops_callN {ops : Array Oper} {i : Nat} {l : List Nat} {f : FuncId} {vs : List V} {d : Nat} (h : callAt ops.toList i s = some (f, vs, d)) (hc : CallOk P f) {Q' : V → List Obj → Prop} (hq : VCalls P f vs s.objs Q')
    (hk : ∀ r objs,Q' r objs → AOps P cx ops Q l ⟨s.nt,(d,r) :: s.tmps,objs⟩) : AOps P cx ops Q (i :: l) s := by
  unfold callAt at h
  split at h
  · rename_i d' x args _ _ _ _ hi
    split at h
    · rename_i f' fs cs hx
      split at h
      · rename_i hd
        cases h
        exact aops_call (by simpa using hi) rfl rfl hx hc (by rw [List.append_assoc];exact hq) (fun d e => by cases e;exact hd) hk
      · cases h
    · cases h
  · cases h

/-- A contract whose result is a datum (no own object in it),beside whatever objects. -/
theorem VCalls.plain {f : FuncId} {args : List V} {r : V} (h : VCalls P f args [] fun r' o => r' = r ∧ o = []) (hu : V.underL 0 args = true) (hr : V.subst (ren [] 0) r = r) (hr' : ∀ n, V.subst (ren [] n) r = r) (objs : List Obj) :
    VCalls P f args objs fun r' o => r' = r ∧ o = objs :=
  (h.beside hu objs).mono fun r' o ⟨r1,o1,⟨e1,e2⟩,h1,h2⟩ => by subst e1 e2;exact ⟨by rw [h1,hr'],by simpa using h2⟩

theorem loop_back {I : Nat → St → Prop} {n m : Nat} {s s' : St} (hm : m < n) (hw : Wk cx s s') (hI : I m s') : ∃ m,m < n ∧ ∃ s'',Wk cx s s'' ∧ I m s'' := ⟨m,hm,s',hw,hI⟩

/-- At the end: the result and the own objects that are handed back,reckoned. -/
def finish (τ : TyTab) (fn : Func) (m : Nat) (s : St) : Option (V × List Obj) :=
  match resV τ s fn.results.toList with
  | none => none
  | some vs => if m ≤ s.objs.length then if V.underL m vs then if objsBelow m (s.objs.take m) then some (mkRes vs,s.objs.take m) else none else none else none

theorem ret_ok {fn : Func} {k m : Nat} {Q : V → List Obj → Prop} {r : V} {objs : List Obj} (h : finish τ fn m s = some (r,objs)) (hk : k ≤ objs.length) (hq : Q r objs) : Ret τ fn (fun r o => k ≤ o.length ∧ Q r o) s := by
  unfold finish at h
  split at h
  · cases h
  · rename_i vs hv
    repeat' split at h
    all_goals first | (cases h;done) | skip
    cases h
    exact ⟨vs,m,hv,by assumption,by assumption,by assumption,hk,hq⟩

end Go.Proofs.Ytlncingakpelbaa

namespace Go.Proofs.Ytlncingakpelbaa
open Go
set_option linter.unusedVariables false

/-- The object that is handed in is the callee's first. -/
def bakAt (i l : Nat) (v : V) : V := match Nat.beq l i with | true => v | false => .any
def bak (i : Nat) : V → Option V
  | .ref l v o => some (bakAt i l (.ref 0 v o))
  | .rref l v k o => some (bakAt i l (.rref 0 v k o))
  | .osl l v => some (bakAt i l (.osl 0 v))
  | .osp l v k => some (bakAt i l (.osp 0 v k))
  | .map l => some (bakAt i l (.map 0))
  | _ => none
/-- An object that names no other. -/
def Obj.closed : Obj → Bool
  | .box _ => false
  | _ => true

theorem bak_rep {E E0 : Env} {i : Nat} (hS : ∀ b,E.S b → E0.S b ∧ E0.w.heap[b]? = E.w.heap[b]?) (h0 : 0 < E0.len) (hv : E0.ver 0 = E.ver i) (hl : E0.loc 0 = E.loc i) {v : V} {c : Value} (r : Rep E v c) : Rep E0 (V.subst (bak i) v) c := by
  refine subst_rep' hS (fun v v' c h r => ?_) (fun v c h1 h2 _ => ?_) r
  · cases v <;> simp only [bak,Option.some.injEq,reduceCtorEq] at h <;> subst h <;> unfold bakAt <;> split
    all_goals first | exact .any _ | skip
    all_goals rename_i hb;have hb := Nat.eq_of_beq_eq_true hb;subst hb
    · cases r with | ref h1 h2 h3 => exact .ref h1 h0 (by rw [hv,hl];exact h3)
    · cases r with | rref h1 h2 h3 => exact .rref h1 h0 (by rw [hv,hl];exact h3)
    · cases r with | osl h1 h2 h3 => exact .osl h1 h0 (by rw [hv,hl];exact h3)
    · cases r with | osp h1 h2 h3 => exact .osp h1 h0 (by rw [hv,hl];exact h3)
    · cases r with | map h1 h2 h3 => exact .map h1 h0 (by rw [hv,hl];exact h3)
  · cases v <;> simp [V.isRef] at h1 <;> simp [bak] at h2

theorem ObjAt.move {E E' : Env} {l l' : Nat} {o : Obj} (hc : o.closed = true) (h : ObjAt E l o) (hw : E'.w = E.w) (hS : E'.S = E.S) (hv : E'.ver l' = E.ver l) (hl : E'.loc l' = E.loc l) : ObjAt E' l' o := by
  cases o with
  | box cs => cases hc
  | dead => exact hv.trans h
  | row t xs ver => unfold ObjAt at h ⊢;rw [hv,hl,hw,hS];exact h
  | smap t m => unfold ObjAt at h ⊢;rw [hv,hl,hw,hS];exact h
  | imap t m => unfold ObjAt at h ⊢;rw [hv,hl,hw,hS];exact h

variable {P : Program}
/-- A function that is handed one own object (a row,a map),beside others: it leaves the others alone. -/
theorem VCalls.import1 {f : FuncId} {args args' : List V} {i : Nat} {o0 o1 : Obj} {objs : List Obj} {r : V} (ho : objs[i]? = some o0) (hc : o0.closed = true) (hc1 : o1.closed = true) (ha : V.substL (bak i) args = args')
    (hV : VCalls P f args' [o0] (fun r' o => r' = r ∧ o = [o1])) : VCalls P f args objs (fun r' o => r' = V.subst (ren [i] objs.length) r ∧ o = objs.set i o1) := by
  intro E cargs g hr
  have hn := g.len
  have hi : i < E.len := by rw [← hn];exact (List.getElem?_eq_some_iff.1 ho).1
  let E0 : Env := ⟨E.w,E.S,1,fun _ => E.loc i,fun _ => E.ver i⟩
  have hown0 : ∀ b,ownB E0 [o0] b → o0.has (E.loc i) ∧ (E.loc i).b = b := by
    rintro b ⟨l,o,h1,h2,h3⟩
    cases l with
    | zero => simp at h1;subst h1;exact ⟨h2,h3⟩
    | succ l => simp at h1
  have hownE : ∀ b,ownB E0 [o0] b → ownB E objs b := fun b hb => ⟨i,o0,ho,(hown0 b hb).1,(hown0 b hb).2⟩
  have g0 : Good E0 [o0] := ⟨rfl,fun l o h => by
      cases l with
      | zero => simp at h;subst h;exact (g.at_ i _ ho).move hc rfl rfl rfl rfl
      | succ l => simp at h,
    fun b hb => g.ns b (hownE b hb),g.sl,fun l l' o o' h1 h2 _ _ _ => by
      have := (List.getElem?_eq_some_iff.1 h1).1
      have := (List.getElem?_eq_some_iff.1 h2).1
      simp at *;omega⟩
  have r0 : Reps E0 args' cargs.toList := by
    rw [← ha,substL_eq]
    refine ⟨by rw [List.length_map];exact hr.1,fun j hj => ?_⟩
    rw [List.length_map] at hj
    have := bak_rep (E := E) (E0 := E0) (i := i) (fun b hb => ⟨hb,rfl⟩) (Nat.zero_lt_one) rfl rfl (hr.2 j hj)
    simpa [List.getD_eq_getElem?_getD,List.getElem?_map,List.getElem?_eq_getElem hj] using this
  refine (hV E0 cargs g0 r0).mono ?_
  rintro e w' ⟨v,E',r',o,rfl,rfl,g',st,hr',rfl,rfl⟩
  have hlen : E'.len = 1 := g'.len.symm
  have hfr : ∀ b,b < E.w.heap.size → ¬ ownB E0 [o0] b → E'.w.heap[b]? = E.w.heap[b]? := fun b hb hno => st.frame b hb hno
  let E1 : Env := ⟨E'.w,E'.S,E.len,fun l => if l = i then E'.loc 0 else E.loc l,fun l => if l = i then E'.ver 0 else E.ver l⟩
  have hS : ∀ b,E.S b → E'.S b ∧ E'.w.heap[b]? = E.w.heap[b]? := st.ext.S
  have hx : Ext E E1 := ⟨hS,Nat.le_refl _,fun l hl u hu => by
    by_cases e : l = i
    · subst e
      simp only [E1,if_true] at hu ⊢
      obtain ⟨u0,h1,h2,h3⟩ := st.ext.ver 0 Nat.zero_lt_one u hu
      exact ⟨u0,h1,h2,h3⟩
    · simp only [E1,if_neg e] at hu ⊢
      exact ⟨u,hu,Nat.le_refl _,fun _ => trivial⟩⟩
  have hnot : ∀ l p,objs[l]? = some p → l ≠ i → p.has (E.loc l) → ¬ ownB E0 [o0] (E.loc l).b := fun l p h1 h2 h3 h4 => by
    obtain ⟨h5,h6⟩ := hown0 _ h4
    exact h2 (g.inj l i p o0 h1 ho h3 h5 h6.symm)
  have hget : ∀ (l : Nat) p,(objs.set i o1)[l]? = some p → (l = i ∧ p = o1) ∨ (l ≠ i ∧ objs[l]? = some p) := by
    intro l p h
    rw [List.getElem?_set] at h
    by_cases e : l = i
    · subst e
      rw [if_pos rfl] at h
      split at h
      · simp at h;exact .inl ⟨rfl,h.symm⟩
      · cases h
    · rw [if_neg (fun h => e h.symm)] at h;exact .inr ⟨e,h⟩
  have hown1 : ∀ b,ownB E1 (objs.set i o1) b → (ownB E objs b ∧ ¬ ownB E0 [o0] b) ∨ ownB E' [o1] b := by
    rintro b ⟨l,p,h1,h2,h3⟩
    rcases hget l p h1 with ⟨e,rfl⟩ | ⟨e,h⟩
    · subst e
      simp only [E1,if_true] at h2 h3
      exact .inr ⟨0,p,rfl,h2,h3⟩
    · simp only [E1,if_neg e] at h2 h3
      exact .inl ⟨⟨l,p,h,h2,h3⟩,by rw [← h3];exact hnot l p h e h2⟩
  have hSn : ∀ b,E'.S b → E.S b ∨ E.w.heap.size ≤ b ∨ ownB E0 [o0] b := st.st
  have hnew : ∀ b,ownB E' [o1] b → E.w.heap.size ≤ b ∨ ownB E0 [o0] b := st.own
  refine ⟨v,E1,_,_,rfl,rfl,⟨by rw [List.length_set];exact hn,?_,?_,g'.sl,?_⟩,⟨hx,st.os,st.tape,st.output,st.size,fun b hb hno => hfr b hb fun h => hno (hownE b h),fun b hb => ?_,fun b hb => ?_⟩,?_,rfl,rfl⟩
  · intro l p hp
    rcases hget l p hp with ⟨e,rfl⟩ | ⟨e,h⟩
    · subst e
      exact (g'.at_ 0 _ rfl).move hc1 rfl rfl (by simp only [E1,if_true]) (by simp only [E1,if_true])
    · have hk := g.at_ l p h
      exact hk.keep hx (by simp only [E1,if_neg e]) (by simp only [E1,if_neg e]) (fun hh => hfr _ (g.own_lt ⟨l,p,h,hh,rfl⟩) (hnot l p h e hh))
  · intro b hb hs
    rcases hown1 b hb with ⟨h,hno⟩ | h
    · rcases hSn b hs with h' | h' | h'
      · exact g.ns b h h'
      · have := g.own_lt h;omega
      · exact hno h'
    · exact g'.ns b h hs
  · intro l l' p p' h1 h2 h3 h4 h5
    rcases hget l p h1 with ⟨e,rfl⟩ | ⟨e,h⟩ <;> rcases hget l' p' h2 with ⟨e',rfl⟩ | ⟨e',h'⟩
    · omega
    · subst e
      simp only [E1,if_true,if_neg e'] at h3 h4 h5
      rcases hnew _ ⟨0,p,rfl,h3,rfl⟩ with hh | hh
      · have := g.own_lt ⟨l',p',h',h4,rfl⟩;omega
      · rw [h5] at hh;exact absurd hh (hnot l' p' h' e' h4)
    · subst e'
      simp only [E1,if_true,if_neg e] at h3 h4 h5
      rcases hnew _ ⟨0,p',rfl,h4,rfl⟩ with hh | hh
      · have := g.own_lt ⟨l,p,h,h3,rfl⟩;omega
      · rw [← h5] at hh;exact absurd hh (hnot l p h e h3)
    · simp only [E1,if_neg e,if_neg e'] at h3 h4 h5
      exact g.inj l l' p p' h h' h3 h4 h5
  · rcases hown1 b hb with ⟨h,_⟩ | h
    · exact .inr h
    · exact (hnew b h).elim .inl (fun h => .inr (hownE b h))
  · exact (hSn b hb).elim .inl (fun h => .inr (h.elim .inl (fun h => .inr (hownE b h))))
  · refine ren_rep (E := E') (E' := E1) (fun b hb => ⟨hb,rfl⟩) (fun l hl => ?_) hr'
    have : l = 0 := by omega
    subst this
    simp only [renId,List.getElem?_cons_zero,E1,if_true]
    exact ⟨hi,trivial,trivial⟩
end Go.Proofs.Ytlncingakpelbaa

namespace Go.Proofs.Ytlncingakpelbaa
open Go
set_option linter.unusedVariables false

/-! ## Operations and calls with a known result,in one -/
/-- The function answers r to vs and leaves every own object as it was. -/
def OkC (P : Program) (f : FuncId) (vs : List V) (r : V) : Prop := CallOk P f ∧ ∀ O,VCalls P f vs O (fun r' o => r' = r ∧ o = O)

/-- The same,beside these own objects only (the arguments may point at them). -/
def OkA (P : Program) (f : FuncId) (vs : List V) (O : List Obj) (r : V) : Prop := CallOk P f ∧ VCalls P f vs O (fun r' o => r' = r ∧ o = O)

def okCA (P : Program) (f : FuncId) (vs : List V) (O : List Obj) (r : V) : Bool → Prop
  | true => OkC P f vs r
  | false => OkA P f vs O r

theorem okCA_get {P : Program} {f : FuncId} {vs : List V} {O : List Obj} {r : V} {b : Bool} (h : okCA P f vs O r b) : OkA P f vs O r := by
  cases b with
  | true => exact ⟨h.1,h.2 O⟩
  | false => exact h

/-- The function answers with an own row. -/
def OkO (P : Program) (f : FuncId) (vs : List V) (T : Ty) (xs : List T.den) : Prop := CallOk P f ∧ ∀ O,VCalls P f vs O (fun r o => r = .osl O.length 0 ∧ o = O ++ [.row T xs 0])

/-- The function leaves the own objects so. -/
def OkP (P : Program) (f : FuncId) (vs : List V) (O : List Obj) (r : V) (O' : List Obj) : Prop := CallOk P f ∧ VCalls P f vs O (fun r' o => r' = r ∧ o = O')

/-- What a call yields: a datum,or an own row;or what it leaves of the own objects. -/
inductive Orc where
  | dat (r : V)
  | own (T : Ty) (xs : List T.den)
  | put (r : V) (O : List Obj)

def isDat : Option Orc → Bool
  | some (.dat _) => true
  | _ => false

def lookV (t : Nat) : List (Nat × Orc) → Option Orc
  | [] => none
  | (u,v) :: r => match Nat.beq u t with
    | true => some v
    | false => lookV t r

/-- 'orc': what a call yields. -/
def opEff (P : Program) (τ : TyTab) (hx : Bool) (orc : Option Orc) (op : Op) (s : St) : Option Out :=
  match orc with
  | none => eff τ hx op s
  | some orc => match op with
    | .call ⟨.value x,args,_⟩ => match s.ev x with
      | .fn (.func f) fs cs => match orc with
        | .dat r => some ⟨some (okCA P f (fs ++ (args.toList.map s.ev ++ cs)) s.objs r (V.underL 0 (fs ++ (args.toList.map s.ev ++ cs)))),r,s.objs⟩
        | .own T xs => some ⟨some (OkO P f (fs ++ (args.toList.map s.ev ++ cs)) T xs),.osl s.objs.length 0,s.objs ++ [.row T xs 0]⟩
        | .put r O => some ⟨some (OkP P f (fs ++ (args.toList.map s.ev ++ cs)) s.objs r O),r,O⟩
      | _ => none
    | _ => none

def opPick (s : St) (op : Op) : Option (Out × List Bool) :=
  match op with
  | .pick c a b => (effPick s.objs a b (s.bare.ev c) (s.ev a) (s.ev b)).map fun out => (out,condsOf s [c])
  | _ => none

/-- A literal behind a guard: stable from the start. -/
def opLit (τ : TyTab) (s : St) (op : Op) : Option Out :=
  match op with
  | .buildSlice t n parts => match objsBelow s.objs.length s.objs,effBuildSlice τ s.objs t n (parts.toList.map fun p => (p.1,s.ev p.2)) with
    | true,some out => match out.objs[s.objs.length]? with
      | some (.row T xs 0) => some ⟨out.ob,.d (.sl T) xs,s.objs⟩
      | _ => none
    | _,_ => none
  | _ => none

/-- One operation with its guard. -/
def opG (P : Program) (τ : TyTab) (hx : Bool) (orc : Option Orc) (ops : List Oper) (o : Oper) (s : St) : Option Out :=
  match o.guard with
  | none => opEff P τ hx orc o.op s
  | some (j,want) => match (ops[j]?).bind (·.dst) with
    | none => none
    | some gd => match guardOf want (s.get gd) with
      | none => none
      | some g => match opPick s o.op with
        | some (out,qs) => some ⟨guardOb g qs out.ob,.when g out.v,s.objs⟩
        | none => match opLit τ s.bare o.op with
        | some out => some ⟨guardOb g (condsOf s o.op.operands.toList) out.ob,.when g out.v,s.objs⟩
        | none => match (quietOp o.op || isDat orc),opEff P τ hx orc o.op s.bare with
          | true,some out => some ⟨guardOb g (condsOf s o.op.operands.toList) out.ob,.when g out.v,s.objs⟩
          | _,_ => none

/-- What was made is given up at once: it is stable from the start. -/
def birth (n : Nat) (out : Out) : Option Out :=
  match ghosts n [.freeze n,.cut n] ⟨1,[(0,out.v)],out.objs⟩ with
  | some s' => some ⟨out.ob,s'.get 0,s'.objs⟩
  | none => none

def opStep (P : Program) (τ : TyTab) (hx : Bool) (orc : Option Orc) (born : Bool) (ops : List Oper) (o : Oper) (s : St) : Option Out :=
  match born with
  | false => opG P τ hx orc ops o s
  | true => match opG P τ hx orc ops o s with
    | some out => birth s.objs.length out
    | none => none

variable {P : Program} {τ : TyTab} {cx : Cx} {Q : Exit → St → Prop} {s : St}

theorem opEff_wp (hτ : TabOk P τ) {hx : Bool} {orc : Option Orc} {o : Oper} {out : Out} (h : opEff P τ hx orc o.op s = some out) (ho : okP out.ob) {E : Env} {a : Act} (g : Good E s.objs)
    (hr : ∀ x ∈ o.op.operands,Rep E (s.ev x) (a.eval x)) {K : Act → World → Prop} {R : Exit → Act → World → Prop}
    (hk : ∀ E' c,Good E' out.objs → Step E s.objs E' out.objs → Rep E' out.v c → K (a.put o.dst c) E'.w) : o.wp P a E.w K R := by
  cases orc with
  | none =>
    obtain ⟨E',n,v,k1,k2,k3,k4,k5⟩ := eff_ok hτ h ho g (ρ := a.eval) hr (fun v => rfl)
    exact upon_ran k1 k2 (hk _ _ k3 k4 k5)
  | some orc =>
    simp only [opEff] at h
    split at h
    · rename_i x args tys hop
      split at h
      · rename_i f fs cs hx
        have rx := hr x (by rw [hop];simp [Op.operands,Call.operands])
        rw [hx] at rx
        obtain ⟨p,q,hv,hp,hq'⟩ := fn_inv rx
        have hargs : Reps E (args.toList.map s.ev) (args.toList.map a.eval) := Reps.of_map fun y hy => hr y (by rw [hop];simp only [Op.operands,Call.operands];exact Array.mem_append.2 (.inr (Array.mem_toList_iff.1 hy)))
        cases orc with
        | dat r =>
          cases h
          obtain ⟨hc,hq⟩ := okCA_get ho
          unfold Oper.wp
          rw [call_run hop hc hv]
          rw [Oper.upon_enter]
          refine (hq E (p ++ args.map a.eval ++ q) g (by have := hp.append (hargs.append hq');simpa using this)).mono ?_
          rintro e w ⟨v,E',r',objs,rfl,rfl,g',st,hr,rfl,rfl⟩
          exact hk E' v g' st hr
        | own T xs =>
          cases h
          obtain ⟨hc,hq⟩ := ho
          unfold Oper.wp
          rw [call_run hop hc hv]
          rw [Oper.upon_enter]
          refine (hq s.objs E (p ++ args.map a.eval ++ q) g (by have := hp.append (hargs.append hq');simpa using this)).mono ?_
          rintro e w ⟨v,E',r',objs,rfl,rfl,g',st,hr,rfl,rfl⟩
          exact hk E' v g' st hr
        | put r O =>
          cases h
          obtain ⟨hc,hq⟩ := ho
          unfold Oper.wp
          rw [call_run hop hc hv]
          rw [Oper.upon_enter]
          refine (hq E (p ++ args.map a.eval ++ q) g (by have := hp.append (hargs.append hq');simpa using this)).mono ?_
          rintro e w ⟨v,E',r',objs,rfl,rfl,g',st,hr,rfl,rfl⟩
          exact hk E' v g' st hr
      · cases h
    · cases h

theorem opEff_objs {hx : Bool} {orc : Option Orc} {op : Op} {out : Out} (hq : (quietOp op || isDat orc) = true) (h : opEff P τ hx orc op s = some out) : out.objs = s.objs := by
  cases orc with
  | none => exact quiet_objs (by simpa [isDat] using hq) h
  | some r =>
    cases r with
    | dat r =>
      simp only [opEff] at h
      repeat' split at h
      all_goals first | (cases h;done) | (cases h;rfl)
    | own T xs =>
      simp only [opEff] at h
      split at h
      · simp [isDat,quietOp] at hq
      · cases h
    | put r O =>
      simp only [opEff] at h
      split at h
      · simp [isDat,quietOp] at hq
      · cases h

theorem wanted_guard {ops : Array Oper} {o : Oper} {j gd : Nat} {want g : Bool} {E : Env} {a : Act} (hg : o.guard = some (j, want)) (hgd : (ops[j]?).bind (·.dst) = some gd) (hgv : guardOf want (s.get gd) = some g)
    (h6 : ∀ t,Rep E (s.get t) (a.tmps.getD t undef)) : Region.wanted o (yielded ops a.tmps) = g := by
  have hy : yielded ops a.tmps j = match a.tmps[gd]? with | some (.bool b) => some b | _ => none := by
    unfold yielded;rw [hgd];rfl
  have rg := h6 gd
  simp only [Region.wanted,hg,hy]
  have hget : a.tmps.getD gd undef = (a.tmps[gd]?).getD undef := by rw [Array.getD_eq_getD_getElem?]
  rw [hget] at rg
  unfold guardOf at hgv
  split at hgv
  · rename_i b e
    cases hgv
    rw [e] at rg
    have := rg.bool_inv
    cases hq : a.tmps[gd]? with
    | none => rw [hq] at this;cases this
    | some c => rw [hq] at this;simp at this;subst this;cases b <;> cases want <;> rfl
  · rename_i q b e
    cases hgv
    rw [e] at rg
    cases rg with
    | when k1 k2 =>
      cases q with
      | true =>
        have := (k1 rfl).bool_inv
        cases hq : a.tmps[gd]? with
        | none => rw [hq] at this;cases this
        | some c => rw [hq] at this;simp at this;subst this;cases b <;> cases want <;> rfl
      | false =>
        have := k2 rfl
        cases hq : a.tmps[gd]? with
        | none => rfl
        | some c => rw [hq] at this;simp at this;subst this;rfl
  · cases hgv

theorem bs_form {objs : List Obj} {t : TypeId} {n : Nat} {parts : List (Nat × V)} {out : Out} (h : effBuildSlice τ objs t n parts = some out) : ∃ T xs,out.v = .osl objs.length 0 ∧ out.objs = objs ++ [.row T xs 0] := by
  unfold effBuildSlice at h
  repeat' split at h
  all_goals first | (cases h;done) | (simp only [Option.map_eq_some_iff] at h;obtain ⟨xs,_,rfl⟩ := h;exact ⟨_,_,rfl,rfl⟩)

theorem lit_ok {E0 E : Env} {O : List Obj} {T : Ty} {xs : List T.den} {c : Value} (g0 : Good E0 O) (g : Good E (O ++ [.row T xs 0])) (st : Step E0 O E (O ++ [.row T xs 0])) (r : Rep E (.osl O.length 0) c) (hb : objsBelow O.length O = true) :
    ∃ E',E'.w = E.w ∧ Good E' O ∧ Step E0 O E' O ∧ Rep E' (.d (.sl T) xs) c := by
  have hl : (O ++ [Obj.row T xs 0])[O.length]? = some (.row T xs 0) := by simp
  obtain ⟨g1,st1⟩ := g.still hl
  have hat := g.at_ _ _ hl
  have hO : (O ++ [Obj.row T xs 0]).set O.length .dead = O ++ [.dead] := by simp
  rw [hO] at g1 st1
  have ht : (O ++ [Obj.dead]).take O.length = O := by simp
  have g2 := g1.cut (m := O.length) (by simp) (by rw [ht];exact hb)
  have st2 := (st.trans st1).cut (m := O.length) (by rw [← g0.len];exact Nat.le_refl _) (by simp)
  rw [ht] at g2 st2
  refine ⟨(E.still O.length ((Obj.row T xs 0).has (E.loc O.length))).cut O.length,rfl,g2,st2,?_⟩
  have hc : c = (E.loc O.length).v := osl_inv r hat.1 rfl
  have : Rep (E.still O.length ((Obj.row T xs 0).has (E.loc O.length))) (.d (.sl T) xs) c := by
    rw [hc]
    exact .d (row_stable hat (fun b hb => .inl hb) (fun hh => .inr ⟨hh,rfl⟩))
  exact below_rep this rfl

theorem opLit_ok (hτ : TabOk P τ) {o : Oper} {out : Out} (h : opLit τ s o.op = some out) (ho : okP out.ob) {E : Env} {a : Act} (g : Good E s.objs)
    (hr : ∀ x ∈ o.op.operands,Rep E (s.ev x) (a.eval x)) {K : Act → World → Prop} {R : Exit → Act → World → Prop}
    (hk : ∀ E' c,Good E' s.objs → Step E s.objs E' s.objs → Rep E' out.v c → K (a.put o.dst c) E'.w) : o.wp P a E.w K R := by
  unfold opLit at h
  split at h
  · rename_i t n parts hop
    split at h
    · rename_i out' hb hout
      obtain ⟨T,xs,h1,h2⟩ := bs_form hout
      rw [h2] at h
      simp only [List.getElem?_append_right (Nat.le_refl _),Nat.sub_self,List.getElem?_cons_zero] at h
      cases h
      refine opEff_wp (s := s) (orc := none) hτ (out := out') (hx := true) (by rw [hop];exact hout) ho g hr fun E' c g' st r => ?_
      rw [h2] at g' st
      rw [h1] at r
      obtain ⟨E'',k1,k2,k3,k4⟩ := lit_ok g g' st r hb
      rw [← k1]
      exact hk E'' c k2 k3 k4
    · cases h
  · cases h

theorem opG_ok (hτ : TabOk P τ) {hx : Bool} {orc : Option Orc} {ops : Array Oper} {o : Oper} {out : Out} (h : opG P τ hx orc ops.toList o s = some out) (ho : okP out.ob) {i : Nat} (hi : ops[i]? = some o) {E : Env} {a : Act}
    (g : Good E s.objs) (h6 : ∀ t,Rep E (s.get t) (a.tmps.getD t undef)) {K : Act → World → Prop} {R : Exit → Act → World → Prop}
    (hk : ∀ E' c,Good E' out.objs → Step E s.objs E' out.objs → Rep E' out.v c → K (a.put o.dst c) E'.w) : wpOp P ops R i K a E.w := by
  unfold opG at h
  split at h
  · rename_i hg
    have hw : Region.wanted o (yielded ops a.tmps) = true := by simp [Region.wanted,hg]
    simp only [wpOp,hi,hw,if_true]
    exact .inl (opEff_wp hτ h ho g (fun x _ => Rel.ev (w := E.w) h6 x) hk)
  · rename_i j want hg
    split at h
    · cases h
    · rename_i gd hgd
      split at h
      · cases h
      · rename_i g' hgv
        have hwant : Region.wanted o (yielded ops a.tmps) = g' := wanted_guard hg (by simpa using hgd) hgv h6
        split at h
        · rename_i out' qs hp
          cases h
          unfold opPick at hp
          split at hp
          · rename_i c x y hop
            simp only [Option.map_eq_some_iff,Prod.mk.injEq] at hp
            obtain ⟨out'',hp,rfl,rfl⟩ := hp
            have hobj : out''.objs = s.objs := by
              unfold effPick at hp
              repeat' split at hp
              all_goals first | (cases hp;done) | (cases hp;rfl)
            cases g' with
            | true =>
              obtain ⟨k0,kc⟩ := guardOb_inv ho rfl
              simp only [wpOp,hi,hwant,if_true]
              refine .inl ?_
              have hran : Ran P o a.eval E s.objs out'' := by
                have := effPick_ok (P := P) (c' := a.eval c) (x' := a.eval x) (y' := a.eval y) hp k0 g (bare_rep (Rel.ev (w := E.w) h6 c) (fun q hq => kc q (condsOf_mem (by simp) q hq))) (Rel.ev (w := E.w) h6 x) (Rel.ev (w := E.w) h6 y) (fun v e => by subst e;rfl) (fun v e => by subst e;rfl)
                exact this.ran (by simp [execOp,hop])
              obtain ⟨E',n,v,k1,k2,k3,k4,k5⟩ := hran
              rw [hobj] at k3 k4
              exact upon_ran k1 k2 (hk E' v k3 k4 (.when (fun _ => k5) (fun e => by cases e)))
            | false =>
              simp only [wpOp,hi,hwant,Bool.false_eq_true,if_false]
              exact hk E undef g (.refl _ _) (.when (fun e => by cases e) (fun _ => rfl))
          · cases hp
        · split at h
          · rename_i out' hl
            cases h
            cases g' with
            | true =>
              obtain ⟨k0,kc⟩ := guardOb_inv ho rfl
              simp only [wpOp,hi,hwant,if_true]
              exact .inl (opLit_ok (s := s.bare) hτ hl k0 g (fun x hx => bare_rep (Rel.ev (w := E.w) h6 x) (fun q hq => kc q (condsOf_mem (Array.mem_toList_iff.2 hx) q hq))) fun E' c g' st r => hk E' c g' st (.when (fun _ => r) (fun e => by cases e)))
            | false =>
              simp only [wpOp,hi,hwant,Bool.false_eq_true,if_false]
              exact hk E undef g (.refl _ _) (.when (fun e => by cases e) (fun _ => rfl))
          · split at h
            · rename_i out' hqo hout
              cases h
              have hobj : out'.objs = s.objs := opEff_objs (s := s.bare) hqo hout
              cases g' with
              | true =>
                obtain ⟨k0,kc⟩ := guardOb_inv ho rfl
                simp only [wpOp,hi,hwant,if_true]
                refine .inl (opEff_wp (s := s.bare) hτ hout k0 g (fun x hx => bare_rep (Rel.ev (w := E.w) h6 x) (fun q hq => kc q (condsOf_mem (Array.mem_toList_iff.2 hx) q hq))) fun E' c g' st r => ?_)
                rw [hobj] at g' st
                exact hk E' c g' st (.when (fun _ => r) (fun e => by cases e))
              | false =>
                simp only [wpOp,hi,hwant,Bool.false_eq_true,if_false]
                exact hk E undef g (.refl _ _) (.when (fun e => by cases e) (fun _ => rfl))
            · cases h

theorem birth_ok {n : Nat} {out out' : Out} (h : birth n out = some out') : out'.ob = out.ob ∧ ∀ (E E' : Env) (objs : List Obj) (c : Value), objs.length = n → Good E objs → Good E' out.objs → Step E objs E' out.objs → Rep E' out.v c →
    ∃ E'',E''.w = E'.w ∧ Good E'' out'.objs ∧ Step E objs E'' out'.objs ∧ Rep E'' out'.v c := by
  unfold birth at h
  split at h
  · rename_i s' hs
    cases h
    refine ⟨rfl,fun E E' objs c hn g0 g st r => ?_⟩
    have hr : Rel ⟨E,objs,[]⟩ ⟨1,[(0,out.v)],out.objs⟩ ⟨#[c],[]⟩ E'.w := ⟨E',rfl,g,st,rfl,rfl,fun t => by
      show Rep E' (look t [(0,out.v)]) _
      rw [look_cons]
      split
      · rename_i e;subst e;exact r
      · exact .any _⟩
    obtain ⟨E'',h1,h2,h3,_,_,h6⟩ := wk_ghosts (cx := ⟨E,objs,[]⟩) (by rw [← hn];exact g0.len.symm) hs _ _ hr
    exact ⟨E'',h1,h2,h3,h6 0⟩
  · cases h

theorem op_ok (hτ : TabOk P τ) {hx born : Bool} {orc : Option Orc} {ops : Array Oper} {o : Oper} {out : Out} (h : opStep P τ hx orc born ops.toList o s = some out) (ho : okP out.ob) {i : Nat} (hi : ops[i]? = some o) {E : Env} {a : Act}
    (g : Good E s.objs) (h6 : ∀ t,Rep E (s.get t) (a.tmps.getD t undef)) {K : Act → World → Prop} {R : Exit → Act → World → Prop}
    (hk : ∀ E' c,Good E' out.objs → Step E s.objs E' out.objs → Rep E' out.v c → K (a.put o.dst c) E'.w) : wpOp P ops R i K a E.w := by
  cases born with
  | false => exact opG_ok hτ h ho hi g h6 hk
  | true =>
    simp only [opStep] at h
    split at h
    · rename_i out' h1
      obtain ⟨e,hb⟩ := birth_ok h
      rw [e] at ho
      refine opG_ok hτ h1 ho hi g h6 fun E' c k1 k2 k3 => ?_
      obtain ⟨E'',h2,h3,h4,h5⟩ := hb E E' s.objs c rfl g k1 k2 k3
      rw [← h2]
      exact hk E'' c h3 h4 h5
    · cases h

theorem and_t {a b : Bool} (h : a = true) (k : b = true) : (a && b) = true := by rw [h,k];rfl
theorem and_f {a b : Bool} (h : a = true) (k : b = false) : (a && !b) = true := by rw [h,k];rfl
theorem bne_f {α : Type} [BEq α] [LawfulBEq α] {a b : α} (h : (a != b) = false) : a = b := bne_eq_false_iff_eq.mp h
theorem nn {b : Bool} (h : (!(!b)) = true) : b = true := by simpa using h
theorem nt {b : Bool} (h : (!b) = true) : b = false := by simpa using h
theorem nf {b : Bool} (h : (!b) = false) : b = true := by simpa using h
theorem not_f {b : Bool} (k : b = false) : (!b) = true := by rw [k];rfl

/-- Operations one behind the other,calls with known results among them. -/
def runC (P : Program) (τ : TyTab) (hx : Nat → Bool) (orc : List (Nat × Orc)) (bn : List Nat) (ops : List Oper) : List Nat → St → Option (List Prop × St)
  | [],s => some ([],s)
  | i :: l,s => match ops[i]? with
    | none => none
    | some o => match opStep P τ (hx i) (lookV i orc) (elemN i bn) ops o s with
      | none => none
      | some out => match setTmp s o.dst out.v out.objs with
        | none => none
        | some s' => match runC P τ hx orc bn ops l s' with
          | none => none
          | some (obs,s'') => some (match out.ob with | none => obs | some p => p :: obs,s'')

theorem runC_ok (hτ : TabOk P τ) {hx : Nat → Bool} {orc : List (Nat × Orc)} {bn : List Nat} {ops : Array Oper} : ∀ {l l' : List Nat} {s s' : St} {obs : List Prop},runC P τ hx orc bn ops.toList l s = some (obs,s') → AllP obs → AOps P cx ops Q l' s' → AOps P cx ops Q (l ++ l') s
  | [],l',s,s',obs,h,_,hk => by simp only [runC] at h;cases h;exact hk
  | i :: l,l',s,s',obs,h,ho,hk => by
    simp only [runC] at h
    split at h
    · cases h
    · rename_i o hi
      split at h
      · cases h
      · rename_i out h1
        split at h
        · cases h
        · rename_i s1 hs
          split at h
          · cases h
          · rename_i obs2 s2 h2
            cases h
            obtain ⟨rfl,hd⟩ := setTmp_inv hs
            have hb : okP out.ob ∧ AllP obs2 := by
              cases hob : out.ob with
              | none => rw [hob] at ho;exact ⟨trivial,ho⟩
              | some p => rw [hob] at ho;exact ⟨AllP.head ho,AllP.tail ho⟩
            have hrest := runC_ok hτ h2 hb.2 hk
            intro a w r
            obtain ⟨E,rfl,g2,g3,g4,g5,g6⟩ := id r
            show wpOps P ops (Lift cx Q) (i :: (l ++ l')) a E.w
            rw [wpOps_cons]
            exact op_ok hτ h1 hb.1 (by simpa using hi) g2 g6 fun E' c k1 k2 k3 => hrest _ _ (Rel.after rfl g3 g4 g5 g6 k1 k2 k3 hd)

def runCR (P : Program) (τ : TyTab) (wraps : List Nat) (orc : List (Nat × Orc)) (bn : List Nat) (c : Code) (live : List Nat) (s : St) : Option (List Prop × St) :=
  match c with
  | .region _ ops false => match runC P τ (fun i => !elemN i wraps) orc bn ops.toList (List.range ops.size) s with
    | some (obs,s') => some (obs,s'.keep live)
    | none => none
  | _ => none

theorem awp_rc (hτ : TabOk P τ) {c : Code} (live wraps : List Nat) (orc : List (Nat × Orc)) (bn : List Nat) (obs : List Prop) (s' : St) (h : runCR P τ wraps orc bn c live s = some (obs,s')) (ho : AllP obs) (hk : Q .normal s') : AWp P cx c Q s := by
  unfold runCR at h
  split at h
  · split at h
    · rename_i id ops obs' s1 h1
      cases h
      refine awp_region ?_
      have := runC_ok (cx := cx) (Q := Q) (l' := []) hτ h1 ho (aops_wk (wk_keep _ _) (aops_nil hk))
      simpa using this
    · cases h
  · cases h

def runCI (P : Program) (τ : TyTab) (wraps : List Nat) (orc : List (Nat × Orc)) (bn : List Nat) (ops : List Oper) (l : List Nat) (live : List Nat) (s : St) : Option (List Prop × St) :=
  match runC P τ (fun i => !elemN i wraps) orc bn ops l s with
  | some (obs,s') => some (obs,s'.keep live)
  | none => none

theorem aops_segc (hτ : TabOk P τ) {ops : Array Oper} {l : List Nat} (l1 l2 : List Nat) (hl : l = l1 ++ l2) (live wraps : List Nat) (orc : List (Nat × Orc)) (bn : List Nat) (obs : List Prop) (s' : St) (h : runCI P τ wraps orc bn ops.toList l1 live s = some (obs, s'))
    (ho : AllP obs) (hk : AOps P cx ops Q l2 s') : AOps P cx ops Q l s := by
  subst hl
  unfold runCI at h
  split at h
  · rename_i obs' s1 h1
    cases h
    exact runC_ok hτ h1 ho (aops_wk (wk_keep _ _) hk)
  · cases h

/-- From a contract without own objects. -/
theorem OkC.of {f : FuncId} {args : List V} {r : V} (hc : CallOk P f) (h : VCalls P f args [] fun r' o => r' = r ∧ o = []) (hu : V.underL 0 args = true) (hr : V.subst (ren [] 0) r = r) (hr' : ∀ n,V.subst (ren [] n) r = r) : OkC P f args r :=
  ⟨hc,h.plain hu hr hr'⟩

def nilL : List (Nat × List Nat × Ty) → List V → List V
  | [],l => l
  | (i,p,T) :: r,l => nilL r (l.modify i (V.nilAt p T))

theorem nilL_reps {E : Env} : ∀ {ps : List (Nat × List Nat × Ty)} {l : List V} {cs : List Value},Reps E l cs → Reps E (nilL ps l) cs
  | [],_,_,h => h
  | (i,p,T) :: r,l,cs,h => by
    refine nilL_reps (ps := r) ⟨by rw [List.length_modify];exact h.1,fun j hj => ?_⟩
    rw [List.length_modify] at hj
    have h1 := h.2 j hj
    rw [List.getD_eq_getElem?_getD] at h1 ⊢
    rw [List.getElem?_modify]
    rw [List.getElem?_eq_getElem hj] at h1 ⊢
    simp only [Option.getD_some,Option.map_eq_map,Option.map_some] at h1 ⊢
    split
    · exact nilAt_rep h1
    · exact h1

/-! ### Own objects lent to a function that answers with numbers -/
def lend1 (objs : List Obj) : V → Option V
  | .osl l v => match objs[l]? with
    | some (.row T xs ver) => if v = ver then some (.d (.sl T) xs) else none
    | _ => none
  | .ref l 0 off => match objs[l]? with
    | some (.box cs) => some (.er (cs.drop off))
    | _ => none
  | _ => none

def lend (objs : List Obj) : Nat → List V → List V
  | 0,l => l
  | n + 1,l => lend objs n (l.map (V.subst (lend1 objs)))

mutual
def V.plain : V → Bool
  | .d (.int _) _ | .d .bool _ | .d .str _ => true
  | .agg cs => V.plainL cs
  | .tup cs => V.plainL cs
  | _ => false
def V.plainL : List V → Bool
  | [] => true
  | v :: l => v.plain && V.plainL l
end

theorem plainL_getD : ∀ {l : List V},V.plainL l = true → ∀ j,j < l.length → (l.getD j .any).plain = true
  | [],_,j,h => by simp at h
  | v :: l,h,j,hj => by
    simp only [V.plainL,Bool.and_eq_true] at h
    cases j with
    | zero => simpa using h.1
    | succ j => simpa using plainL_getD h.2 j (by simpa using hj)

theorem plain_rep {E E' : Env} {v : V} {c : Value} (r : Rep E v c) : v.plain = true → Rep E' v c := by
  induction r with
  | d hc =>
    rename_i t x v
    intro h
    cases t <;> simp only [V.plain] at h <;> first | (cases h;done) | exact .d hc
  | agg h1 h2 ih => intro h;exact .agg h1 fun j hj => ih j hj (plainL_getD h j hj)
  | tup h1 h2 ih => intro h;exact .tup h1 fun j hj => ih j hj (plainL_getD h j hj)
  | _ => intro h;simp [V.plain] at h

theorem lend1_rep {E : Env} {objs : List Obj} (hA : ∀ l o,objs[l]? = some o → ObjAt E l o) (hS : ∀ l o,objs[l]? = some o → o.has (E.loc l) → E.S (E.loc l).b) {v v' : V} {c : Value} (h : lend1 objs v = some v') (r : Rep E v c) : Rep E v' c := by
  unfold lend1 at h
  split at h
  · rename_i l v
    split at h
    · rename_i T xs ver ho
      split at h
      · rename_i hv
        cases h
        subst hv
        have hat := hA l _ ho
        rw [osl_inv r hat.1 rfl]
        exact .d (row_stable hat (fun b hb => hb) (fun hh => hS l _ ho hh))
      · cases h
    · cases h
  · rename_i l off
    split at h
    · rename_i cs ho
      cases h
      have hat := hA l _ ho
      have hp := ref_inv r hat.1 rfl
      obtain ⟨h1,vals,t,h2,h3,h4⟩ := hat
      subst hp
      refine .er (fun j => vals.getD (off + j) undef) (hS l _ ho trivial) (fun j hj => ?_) (fun j hj => ?_)
      · rw [List.length_drop] at hj
        simp only [World.cell?,h2]
        simp only [Array.getD_eq_getD_getElem?]
        rw [Array.getElem?_eq_getElem (by omega)]
        simp
      · rw [List.length_drop] at hj
        have := h4 (off + j) (by omega)
        simpa [List.getD_eq_getElem?_getD,List.getElem?_drop] using this
    · cases h
  · cases h

theorem lend_reps {E : Env} {objs : List Obj} (hA : ∀ l o,objs[l]? = some o → ObjAt E l o) (hS : ∀ l o,objs[l]? = some o → o.has (E.loc l) → E.S (E.loc l).b) {cs : List Value} : ∀ (n : Nat) {vs : List V},Reps E vs cs → Reps E (lend objs n vs) cs
  | 0,_,h => h
  | n + 1,vs,h => lend_reps hA hS n ⟨by simpa using h.1,fun j hj => by
      rw [List.length_map] at hj
      have := h.2 j hj
      rw [List.getD_eq_getElem?_getD] at this ⊢
      rw [List.getElem?_map,List.getElem?_eq_getElem hj] at *
      exact subst_rep (.refl E) (fun v v' c h1 h2 => lend1_rep hA hS h1 h2) this⟩

theorem underL_reps {E : Env} {m : Nat} {vs : List V} {cs : List Value} (h : Reps E vs cs) (hu : V.underL m vs = true) : Reps (E.cut m) vs cs :=
  ⟨h.1,fun j hj => below_rep (h.2 j hj) (belowL_getD hu j hj)⟩

/-- The arguments point at own objects;the function only looks at them,and answers with numbers. -/
theorem OkC.lent {f : FuncId} {vs vs' : List V} {O : List Obj} {r : V} (n : Nat) (h : lend O n vs = vs') (hp : r.plain = true) (hu : V.underL 0 vs' = true) (k : OkC P f vs' r) : OkA P f vs O r := by
  refine ⟨k.1,fun E cargs g hr => ?_⟩
  let E1 : Env := ⟨E.w,fun b => E.S b ∨ ownB E O b,E.len,E.loc,E.ver⟩
  have hx : Ext E E1 := ⟨fun b hb => ⟨.inl hb,rfl⟩,Nat.le_refl _,fun l hl u hu => ⟨u,hu,Nat.le_refl _,fun _ => rfl⟩⟩
  have hA : ∀ l o,O[l]? = some o → ObjAt E1 l o := fun l o ho => (g.at_ l o ho).keep hx rfl rfl (fun _ => rfl)
  have hS : ∀ l o,O[l]? = some o → o.has (E1.loc l) → E1.S (E1.loc l).b := fun l o ho hh => .inr ⟨l,o,ho,hh,rfl⟩
  have h1 : Reps E1 vs' cargs.toList := h ▸ lend_reps hA hS n ⟨hr.1,fun j hj => (hr.2 j hj).mono hx⟩
  have g1 : Good (E1.cut 0) [] := ⟨rfl,fun l o h => by simp at h,fun b ⟨l,o,h,_⟩ => by simp at h,fun b hb => hb.elim (g.sl b) (fun hb => g.own_lt hb),fun i j p q h => by simp at h⟩
  refine (k.2 [] (E1.cut 0) cargs g1 (underL_reps h1 hu)).mono ?_
  rintro e w ⟨v,E',r',objs,rfl,rfl,g',st,hr',rfl,rfl⟩
  have hfr : ∀ b,b < E.w.heap.size → E'.w.heap[b]? = E.w.heap[b]? := fun b hb => st.frame b hb (fun ⟨l,o,h,_⟩ => by simp at h)
  let E2 : Env := ⟨E'.w,E.S,E.len,E.loc,E.ver⟩
  have hx2 : Ext E E2 := ⟨fun b hb => ⟨hb,hfr b (g.sl b hb)⟩,Nat.le_refl _,fun l hl u hu => ⟨u,hu,Nat.le_refl _,fun _ => rfl⟩⟩
  refine ⟨v,E2,r',O,rfl,rfl,⟨g.len,fun l o ho => (g.at_ l o ho).keep hx2 rfl rfl (fun hh => hfr _ (g.own_lt ⟨l,o,ho,hh,rfl⟩)),g.ns,fun b hb => Nat.lt_of_lt_of_le (g.sl b hb) st.size,g.inj⟩,
    ⟨hx2,st.os,st.tape,st.output,st.size,fun b hb _ => hfr b hb,fun b hb => .inr hb,fun b hb => .inl hb⟩,plain_rep hr' hp,rfl,rfl⟩

/-- Empty slices among the arguments. -/
theorem OkC.nil {f : FuncId} {args args' : List V} {r : V} (ps : List (Nat × List Nat × Ty)) (h : nilL ps args = args') (k : OkC P f args' r) : OkC P f args r :=
  ⟨k.1,fun O E cargs g hr => k.2 O E cargs g (h ▸ nilL_reps hr)⟩

/-- A slice is compared with nil: all that is known is that a nil slice is empty. -/
def nilCmp (τ : TyTab) (ops : List Oper) (i : Nat) (s : St) : Option ((T : Ty) × List T.den × Nat × Bool) :=
  match ops[i]? with
  | some ⟨some d,.binOp op xt x (.const (.slice none 0 0)) _,_,_,_,none⟩ => match s.ev x,τ xt with
    | .d (.sl T) l,some ⟨.sl _,_,_,_,_⟩ => if d < s.nt then match op with
      | .eql => some ⟨T,l,d,true⟩
      | .neq => some ⟨T,l,d,false⟩
      | _ => none
      else none
    | _,_ => none
  | _ => none

theorem aops_nilcmp (hτ : TabOk P τ) {ops : Array Oper} {i d : Nat} {l : List Nat} {T : Ty} {xs : List T.den} {q : Bool} (h : nilCmp τ ops.toList i s = some ⟨T, xs, d, q⟩)
    (hk : ∀ b : Bool,(b = true → xs = []) → AOps P cx ops Q l ⟨s.nt,(d,vb (if q then b else !b)) :: s.tmps,s.objs⟩) : AOps P cx ops Q (i :: l) s := by
  unfold nilCmp at h
  split at h
  · rename_i d' op xt x yt ty po af hi
    split at h
    · rename_i T' l' e1 e2 e3 e4 e5 hx ht
      split at h
      · rename_i hd
        rintro a w ⟨E,rfl,g2,g3,g4,g5,g6⟩
        have ht' : P.underlying xt = some (.slice _) := (hτ xt _ ht).kind
        have rx := Rel.ev (w := E.w) g6 x
        rw [hx] at rx
        obtain ⟨c,hc⟩ : ∃ c,c = a.eval x := ⟨_,rfl⟩
        rw [← hc] at rx
        cases rx with
        | d hcells =>
          obtain ⟨p,cap,hv,_,hne⟩ := hcells
          simp only [List.cons.injEq,and_true] at hv
          have hempty : p.isNone = true → l' = [] := fun hp => by
            cases hl : l' with
            | nil => rfl
            | cons y ys =>
              obtain ⟨b,off,hb,_⟩ := hne (by rw [hl];simp)
              rw [hb] at hp;cases hp
          have heq : ∀ w,(Op.equal xt (.slice p (List.length (α := T'.den) l') cap) (.slice none 0 0)).run P w = .ok p.isNone w := fun w =>
            equal_of fun d => by cases p <;> simp only [Op.equalIn,Sem.run_bind,run_underlying ht',Result.andThen_ok,Sem.run_pure,Option.isNone]
          have hi' : ops[i]? = some ⟨some d',.binOp op xt x (.const (.slice none 0 0)) yt,ty,po,af,none⟩ := by simpa using hi
          have key : ∀ (q : Bool), (execOp a.eval ⟨some d', .binOp op xt x (.const (.slice none 0 0)) yt, ty, po, af, none⟩).run P E.w = .ok (.value (.bool (if q then p.isNone else !p.isNone))) E.w →
              AOps P cx ops Q l ⟨s.nt,(d',vb (if q then p.isNone else !p.isNone)) :: s.tmps,s.objs⟩ → wpOps P ops (Lift cx Q) (i :: l) a E.w := by
            intro q hrun hA
            simp only [wpOps,hi',Region.wanted,if_true]
            exact .inl (upon_ran hrun (.inl rfl) (hA _ _ (Rel.after (s := s) (dst := some d') rfl g3 g4 g5 g6 g2 (.refl _ _) (.mk_bool _) (fun d e => by cases e;exact hd))))
          split at h
          · cases h
            refine key true ?_ (hk p.isNone hempty)
            simp [execOp,← hc,hv,show a.eval (.const (.slice none 0 0)) = .slice none 0 0 from rfl,binOp,heq,eqGuard_run _ _ _ _ (show (Value.slice p (List.length (α := T.den) xs) cap).oneCell' = true from rfl) (by simp)]
          · cases h
            refine key false ?_ (hk p.isNone hempty)
            simp [execOp,← hc,hv,show a.eval (.const (.slice none 0 0)) = .slice none 0 0 from rfl,binOp,heq,eqGuard_run _ _ _ _ (show (Value.slice p (List.length (α := T.den) xs) cap).oneCell' = true from rfl) (by simp)]
          · cases h
      · cases h
    · cases h
  · cases h

theorem OkO.of {f : FuncId} {args : List V} {T : Ty} {xs : List T.den} (hc : CallOk P f) (h : VCalls P f args [] fun r o => r = .osl 0 0 ∧ o = [.row T xs 0]) (hu : V.underL 0 args = true) : OkO P f args T xs :=
  ⟨hc,fun O => (h.beside hu O).mono fun r o ⟨r1,o1,⟨e1,e2⟩,h1,h2⟩ => by subst e1 e2;exact ⟨by rw [h1];simp [V.subst,ren,renId],by rw [h2];rfl⟩⟩

/-- One own object handed in,beside others. -/
theorem OkP.import1 {f : FuncId} {args args' : List V} {i : Nat} {o0 o1 : Obj} {objs objs' : List Obj} {r r' : V} (ho : objs[i]? = some o0) (hc : o0.closed = true) (hc1 : o1.closed = true) (ha : V.substL (bak i) args = args')
    (hr : V.subst (ren [i] objs.length) r = r') (hO : objs.set i o1 = objs') (k : OkP P f args' [o0] r [o1]) : OkP P f args objs r' objs' :=
  ⟨k.1,(k.2.import1 ho hc hc1 ha).mono fun r o ⟨h1,h2⟩ => ⟨by rw [h1,hr],by rw [h2,hO]⟩⟩
theorem OkP.nil {f : FuncId} {args args' : List V} {O O' : List Obj} {r : V} (ps : List (Nat × List Nat × Ty)) (h : nilL ps args = args') (k : OkP P f args' O r O') : OkP P f args O r O' :=
  ⟨k.1,fun E cargs g hr => k.2 E cargs g (h ▸ nilL_reps hr)⟩

theorem OkO.nil {f : FuncId} {args args' : List V} {T : Ty} {xs : List T.den} (ps : List (Nat × List Nat × Ty)) (h : nilL ps args = args') (k : OkO P f args' T xs) : OkO P f args T xs :=
  ⟨k.1,fun O E cargs g hr => k.2 O E cargs g (h ▸ nilL_reps hr)⟩

/-! ## The ways through -/
theorem then_n {K : St → Prop} (h : K s) : Then Q K .normal s := h
theorem then_x {K : St → Prop} {i : Nat} (h : Q (.exit i) s) : Then Q K (.exit i) s := h
theorem then_r {K : St → Prop} (h : Q .ret s) : Then Q K .ret s := h
theorem blk_n {i : Nat} (h : Q .normal s) : InBlock i Q .normal s := h
theorem blk_r {i : Nat} (h : Q .ret s) : InBlock i Q .ret s := h
theorem blk_h {i : Nat} (h : Q .normal s) : InBlock i Q (.exit i) s := by simp only [InBlock,if_true];exact h
theorem blk_x {i j : Nat} (hj : j ≠ i) (h : Q (.exit j) s) : InBlock i Q (.exit j) s := by simp only [InBlock,if_neg hj];exact h

/-- Codes one behind the other. -/
def spine (c : Code) : List Code → Code
  | [] => c
  | d :: l => spine (.seq c d) l

def SpineK (P : Program) (cx : Cx) (Q : Exit → St → Prop) : List Code → St → Prop
  | [] => Q .normal
  | d :: l => fun s => AWp P cx d (Then Q (SpineK P cx Q l)) s

theorem awp_spine : ∀ {l : List Code} {c : Code} {s : St},AWp P cx c (Then Q (SpineK P cx Q l)) s → AWp P cx (spine c l) Q s
  | [],c,s,h => h.mono fun e s h => by cases e <;> exact h
  | d :: l,c,s,h => awp_spine (l := l) (awp_seq (h.mono fun e s h => by cases e <;> exact h))

theorem spine_c {d : Code} {l : List Code} (h : AWp P cx d (Then Q (SpineK P cx Q l)) s) : SpineK P cx Q (d :: l) s := h
theorem spine_e (h : Q .normal s) : SpineK P cx Q [] s := h

/-- Where several ways meet: what holds there is said once. -/
theorem awp_meet {c : Code} {K : St → Prop} (J : St → Prop) (h : AWp P cx c (Then Q J) s) (hk : ∀ s,J s → K s) : AWp P cx c (Then Q K) s :=
  h.mono fun e s h => by cases e <;> first | exact hk s h | exact h

theorem awp_abs {α : Type} {c : Code} (S : α → St) (e : α) (h : ∀ x,x = e → AWp P cx c Q (S x)) : AWp P cx c Q (S e) := h e rfl
theorem spine_abs {α : Type} {l : List Code} (S : α → St) (e : α) (h : ∀ x,x = e → SpineK P cx Q l (S x)) : SpineK P cx Q l (S e) := h e rfl

theorem awp_loopN {c : Code} (I : Nat → St → Prop) {n : Nat} {s0 : St} (hw : Wk cx s s0) (h0 : I n s0) (round : ∀ n s,I n s → AWp P cx c (Then Q fun s' => ∃ m,m < n ∧ ∃ s'',Wk cx s' s'' ∧ I m s'') s) : AWp P cx (.loop c) Q s :=
  awp_wk hw (awp_loop I h0 round)

theorem awp_condT {x : Operand} {c d : Code} (hb : s.ev x = .d .bool true) (ht : AWp P cx c Q s) : AWp P cx (.cond x c d) Q s := awp_cond hb (fun _ => ht) (fun h => by cases h)
theorem awp_condF {x : Operand} {c d : Code} (hb : s.ev x = .d .bool false) (hf : AWp P cx d Q s) : AWp P cx (.cond x c d) Q s := awp_cond hb (fun h => by cases h) (fun _ => hf)

/-- A part of a value. -/
def leafAt : List Nat → V → V
  | [],v => v
  | i :: p,.agg cs => leafAt p (cs.getD i .any)
  | i :: p,.tup cs => leafAt p (cs.getD i .any)
  | i :: p,.er cs => leafAt p (cs.getD i .any)
  | _ :: _,_ => .any

theorem leafAt_rep {E : Env} : ∀ {p : List Nat} {v : V} {c : Value},Rep E v c → ∃ c',Rep E (leafAt p v) c'
  | [],v,c,r => ⟨c,r⟩
  | i :: p,v,c,r => by
    have hm : ∀ {cs : List V} {f : Nat → Value},(∀ j,j < cs.length → Rep E (cs.getD j .any) (f j)) → ∃ c',Rep E (leafAt p (cs.getD i .any)) c' := by
      intro cs f h
      by_cases hi : i < cs.length
      · exact leafAt_rep (h i hi)
      · rw [List.getD_eq_getElem?_getD,List.getElem?_eq_none (by omega)]
        exact leafAt_rep (Rep.any undef)
    cases r <;> simp only [leafAt] <;> first
      | (rename_i h1 h2;exact hm h2)
      | (rename_i h1 h2 h3;exact hm h3)
      | exact ⟨undef,.any _⟩

/-- A list in memory is not longer than what may be. -/
theorem awp_len {c : Code} (t : Nat) (p : List Nat) {T : Ty} {l : List T.den} (h : leafAt p (s.get t) = .d (.sl T) l) (hk : l.length ≤ 9223372036854775807 → AWp P cx c Q s) : AWp P cx c Q s := by
  intro a w r
  refine hk ?_ a w r
  obtain ⟨E,_,_,_,_,_,g6⟩ := r
  obtain ⟨c',r⟩ := leafAt_rep (p := p) (g6 t)
  rw [h] at r
  cases r with
  | d hc =>
    obtain ⟨_,cap,_,⟨h1,h2⟩,_⟩ := hc
    exact Nat.le_trans h1 h2

/-- At the end,weakened. -/
def RetW (cx : Cx) (τ : TyTab) (fn : Func) (imp : Nat) (Q : V → List Obj → Prop) (e : Exit) (s : St) : Prop := ∃ s',Wk cx s s' ∧ RetQ τ fn imp Q e s'

theorem vcalls_body (hτ : TabOk P τ) {f : FuncId} {fn : Func} {c : Code} {args : List V} {imp : List Obj} {Q : V → List Obj → Prop} (hf : P.funcs[f]? = some fn) (hb : fn.body = some c)
    (hn : args.length ≤ fn.ntmps) (h : ∀ cx : Cx,cx.dfs = [] → cx.imp = imp → cx.E.len = imp.length → AWp P cx c (RetW cx τ fn imp.length Q) ⟨fn.ntmps,argTmps 0 args,imp⟩) : VCalls P f args imp Q :=
  vcalls_of_body hτ hf hb hn fun cx h0 h1 h2 a w r => wp_mono (h cx h0 h1 h2 a w r) fun e a w ⟨s,⟨s',hw,hq⟩,hr⟩ => ⟨s',hq,hw a w hr⟩

theorem ret_r {fn : Func} {k m : Nat} {Q : V → List Obj → Prop} {s : St} {r : V} {objs : List Obj} (hE : cx.E.len = k) (l : List Gh) (s' : St) (hg : ghosts k l s = some s') (h : finish τ fn m s' = some (r,objs)) (hk : k ≤ objs.length) (hq : Q r objs) : RetW cx τ fn k Q .ret s := ⟨s',wk_ghosts hE hg,ret_ok h hk hq⟩
theorem ret_n {fn : Func} {k m : Nat} {Q : V → List Obj → Prop} {s : St} {r : V} {objs : List Obj} (hE : cx.E.len = k) (l : List Gh) (s' : St) (hg : ghosts k l s = some s') (h : finish τ fn m s' = some (r,objs)) (hk : k ≤ objs.length) (hq : Q r objs) : RetW cx τ fn k Q .normal s := ⟨s',wk_ghosts hE hg,ret_ok h hk hq⟩
end Go.Proofs.Ytlncingakpelbaa

namespace Go.Proofs.Ytlncingakpelbaa
open Go
set_option linter.unusedVariables false

def swN (k l : Nat) : Nat := match Nat.beq l k with
  | true => k + 1
  | false => match Nat.beq l (k + 1) with
    | true => k
    | false => l
theorem swN_eq (k l : Nat) : swN k l = if l = k then k + 1 else if l = k + 1 then k else l := by
  unfold swN
  by_cases h : l = k
  · subst h;rw [Nat.beq_refl,if_pos rfl]
  · rw [show Nat.beq l k = false from by cases e : Nat.beq l k with | false => rfl | true => exact absurd (Nat.eq_of_beq_eq_true e) h,if_neg h]
    by_cases h2 : l = k + 1
    · subst h2;rw [Nat.beq_refl,if_pos rfl]
    · rw [show Nat.beq l (k + 1) = false from by cases e : Nat.beq l (k + 1) with | false => rfl | true => exact absurd (Nat.eq_of_beq_eq_true e) h2,if_neg h2]
theorem swN_swN (k l : Nat) : swN k (swN k l) = l := by
  simp only [swN_eq];split <;> (try split) <;> (try split) <;> omega
theorem swN_lt {k l : Nat} (h : l < k) : swN k l = l := by rw [swN_eq,if_neg (by omega),if_neg (by omega)]
theorem swN_bound {k l n : Nat} (hk : k + 1 < n) (h : l < n) : swN k l < n := by rw [swN_eq];split <;> (try split) <;> omega

def swV (k : Nat) : V → Option V
  | .ref l v o => some (.ref (swN k l) v o)
  | .rref l v i o => some (.rref (swN k l) v i o)
  | .osl l v => some (.osl (swN k l) v)
  | .osp l v n => some (.osp (swN k l) v n)
  | .map l => some (.map (swN k l))
  | _ => none
def swO (k : Nat) (O : List Obj) : List Obj := match O[k]?,O[k + 1]? with
  | some a,some b => ((O.set k b).set (k + 1) a).map (Obj.subst (swV k))
  | _,_ => O

theorem swO_len (k : Nat) (O : List Obj) : (swO k O).length = O.length := by
  unfold swO;split
  · simp
  · rfl
theorem swO_get {k : Nat} {O : List Obj} (hk : k + 1 < O.length) (l : Nat) : (swO k O)[l]? = (O[swN k l]?).map (Obj.subst (swV k)) := by
  unfold swO
  rw [List.getElem?_eq_getElem (by omega : k < O.length),List.getElem?_eq_getElem hk]
  simp only [List.getElem?_map,List.getElem?_set,List.length_set,swN_eq]
  by_cases h : l = k
  · subst h
    rw [if_neg (by omega),if_pos rfl,if_pos (by omega),if_pos rfl,List.getElem?_eq_getElem hk]
  · by_cases h2 : l = k + 1
    · subst h2
      rw [if_pos rfl,if_pos hk,if_neg (by omega),if_pos rfl,List.getElem?_eq_getElem (by omega)]
    · rw [if_neg (fun e => h2 e.symm),if_neg (fun e => h e.symm),if_neg h,if_neg h2]

/-- Two objects change their numbers. -/
theorem swap_env {E : Env} {O : List Obj} {k : Nat} (g : Good E O) (hk : k + 1 < O.length) :
    ∃ E',E'.w = E.w ∧ Good E' (swO k O) ∧ (∀ E0 imp,E0.len ≤ k → Step E0 imp E O → Step E0 imp E' (swO k O)) ∧ ∀ v c,Rep E v c → Rep E' (V.subst (swV k) v) c := by
  have hn := g.len
  have hkE : k + 1 < E.len := by omega
  let E' : Env := ⟨E.w,E.S,E.len,fun l => E.loc (swN k l),fun l => E.ver (swN k l)⟩
  have hrep : ∀ v c,Rep E v c → Rep E' (V.subst (swV k) v) c := fun v c r => by
    refine subst_rep' (E := E) (E' := E') (fun b hb => ⟨hb,rfl⟩) (fun v v' c h r => ?_) (fun v c h1 h2 _ => ?_) r
    · cases v <;> simp only [swV,Option.some.injEq,reduceCtorEq] at h <;> subst h
      · cases r with | ref h1 h2 h3 => exact .ref h1 (swN_bound hkE h2) (by simp only [E',swN_swN];exact h3)
      · cases r with | rref h1 h2 h3 => exact .rref h1 (swN_bound hkE h2) (by simp only [E',swN_swN];exact h3)
      · cases r with | osl h1 h2 h3 => exact .osl h1 (swN_bound hkE h2) (by simp only [E',swN_swN];exact h3)
      · cases r with | osp h1 h2 h3 => exact .osp h1 (swN_bound hkE h2) (by simp only [E',swN_swN];exact h3)
      · cases r with | map h1 h2 h3 => exact .map h1 (swN_bound hkE h2) (by simp only [E',swN_swN];exact h3)
    · cases v <;> simp [V.isRef] at h1 <;> simp [swV] at h2
  have hget : ∀ (l : Nat) p,(swO k O)[l]? = some p → ∃ q,O[swN k l]? = some q ∧ p = q.subst (swV k) := fun l p h => by
    rw [swO_get hk,Option.map_eq_some_iff] at h
    obtain ⟨q,h1,h2⟩ := h
    exact ⟨q,h1,h2.symm⟩
  have hown : ∀ b,ownB E' (swO k O) b → ownB E O b := by
    rintro b ⟨l,p,h1,h2,h3⟩
    obtain ⟨q,h4,rfl⟩ := hget l p h1
    exact ⟨swN k l,q,h4,Obj.has_subst.1 h2,h3⟩
  refine ⟨E',rfl,⟨by rw [swO_len];exact hn,fun l p hp => ?_,fun b hb => g.ns b (hown b hb),g.sl,fun l l' p p' h1 h2 h3 h4 h5 => ?_⟩,fun E0 imp h0 st => ?_,hrep⟩
  · obtain ⟨q,h4,rfl⟩ := hget l p hp
    have hat := g.at_ _ q h4
    cases q with
    | dead => exact hat
    | box cs =>
      obtain ⟨h1,vals,t,h2,h3,h5⟩ := hat
      exact ⟨h1,vals,t,h2,by rw [substL_eq,List.length_map];exact h3,fun j hj => by
        rw [substL_eq,List.length_map] at hj;rw [substL_getD hj];exact hrep _ _ (h5 j hj)⟩
    | row t xs ver => exact hat
    | smap t m => exact hat
    | imap t m => exact hat
  · obtain ⟨q,h6,rfl⟩ := hget l p h1
    obtain ⟨q',h7,rfl⟩ := hget l' p' h2
    have := g.inj _ _ q q' h6 h7 (Obj.has_subst.1 h3) (Obj.has_subst.1 h4) h5
    have e := congrArg (swN k) this
    rwa [swN_swN,swN_swN] at e
  · refine ⟨⟨st.ext.S,st.ext.len,fun l hl u hu => ?_⟩,st.os,st.tape,st.output,st.size,st.frame,fun b hb => st.own b (hown b hb),st.st⟩
    have e : swN k l = l := swN_lt (by omega)
    simp only [E',e] at hu ⊢
    exact st.ext.ver l hl u hu

/-! ## Regions whose order is not settled: what each operation yields does not depend on the order -/
def eqN : List Nat → List Nat → Bool
  | [],[] => true
  | a :: l,b :: m => Nat.beq a b && eqN l m
  | _,_ => false

theorem eqN_eq : ∀ {l m : List Nat},eqN l m = true → l = m
  | [],[],_ => rfl
  | a :: l,b :: m,h => by
    simp only [eqN,Bool.and_eq_true] at h
    rw [Nat.eq_of_beq_eq_true h.1,eqN_eq h.2]
  | [],_ :: _,h => by cases h
  | _ :: _,[],h => by cases h

theorem elemN_iff {n : Nat} : ∀ {l : List Nat},elemN n l = true ↔ n ∈ l
  | [] => by simp [elemN]
  | m :: l => by
    simp only [elemN,Bool.or_eq_true,List.mem_cons,elemN_iff (l := l)]
    exact ⟨fun h => h.imp (fun h => (Nat.eq_of_beq_eq_true h).symm) id,fun h => h.imp (fun h => by rw [h];exact Nat.beq_refl _) id⟩

def lookO (k : List Nat) : List (List Nat × List Obj) → Option (List Obj)
  | [] => none
  | (k',o) :: r => match eqN k k' with
    | true => some o
    | false => lookO k r

theorem lookO_mem {k : List Nat} {o : List Obj} : ∀ {l : List (List Nat × List Obj)},lookO k l = some o → (k,o) ∈ l
  | [],h => by cases h
  | (k',o') :: r,h => by
    simp only [lookO] at h
    split at h
    · rename_i e;cases h;rw [eqN_eq e];exact List.mem_cons_self
    · exact List.mem_cons_of_mem _ (lookO_mem h)

def ents (f : Nat → Nat → V) : Nat → List Oper → List (Nat × V)
  | _,[] => []
  | j,o :: l => match o.dst with
    | some d => (d,f j d) :: ents f (j + 1) l
    | none => ents f (j + 1) l

theorem ents_rep {E : Env} {f g : Nat → Nat → V} {t : Nat} {r : List (Nat × V)} {c : Value} : ∀ {l : List Oper} {k : Nat}, (∀ j o, l[j]? = some o → o.dst = some t → Rep E (f (k + j) t) c → Rep E (g (k + j) t) c) →
    Rep E (look t (ents f k l ++ r)) c → Rep E (look t (ents g k l ++ r)) c
  | [],_,_,h => h
  | o :: l,k,hj,h => by
    have ih := ents_rep (r := r) (l := l) (k := k + 1) (fun j o h1 h2 h3 => by
      have := hj (j + 1) o (by simpa using h1) h2
      rw [show k + (j + 1) = k + 1 + j from by omega] at this
      exact this h3)
    simp only [ents] at h ⊢
    cases hd : o.dst with
    | none => rw [hd] at h;exact ih h
    | some d =>
      rw [hd] at h
      simp only [List.cons_append,look_cons] at h ⊢
      split
      · rename_i e
        subst e
        rw [if_pos rfl] at h
        exact hj 0 o rfl hd h
      · rename_i e
        rw [if_neg e] at h
        exact ih h

theorem ents_rep2 {E E2 : Env} {f g : Nat → Nat → V} {t : Nat} {r : List (Nat × V)} {c : Value} (hr : Rep E (look t r) c → Rep E2 (look t r) c) : ∀ {l : List Oper} {k : Nat}, (∀ j o, l[j]? = some o → o.dst = some t → Rep E (f (k + j) t) c → Rep E2 (g (k + j) t) c) →
    Rep E (look t (ents f k l ++ r)) c → Rep E2 (look t (ents g k l ++ r)) c
  | [],_,_,h => hr h
  | o :: l,k,hj,h => by
    have ih := ents_rep2 (f := f) (g := g) hr (l := l) (k := k + 1) (fun j o h1 h2 h3 => by
      have := hj (j + 1) o (by simpa using h1) h2
      rw [show k + (j + 1) = k + 1 + j from by omega] at this
      exact this h3)
    simp only [ents] at h ⊢
    cases hd : o.dst with
    | none => rw [hd] at h;exact ih h
    | some d =>
      rw [hd] at h
      simp only [List.cons_append,look_cons] at h ⊢
      split
      · rename_i e
        subst e
        rw [if_pos rfl] at h
        exact hj 0 o rfl hd h
      · rename_i e
        rw [if_neg e] at h
        exact ih h

theorem ents_hit {f : Nat → Nat → V} {d i : Nat} {oi : Oper} {r : List (Nat × V)} : ∀ {l : List Oper} {k : Nat},(∀ j o,l[j]? = some o → o.dst = some d → j = i) → l[i]? = some oi → oi.dst = some d → look d (ents f k l ++ r) = f (k + i) d
  | [],_,_,h,_ => by cases h
  | o :: l,k,hu,h,hd => by
    cases i with
    | zero =>
      simp at h;subst h
      simp only [ents,hd,List.cons_append,look_cons,if_true]
      rfl
    | succ i =>
      have ih := ents_hit (f := f) (r := r) (l := l) (k := k + 1) (i := i) (fun j o h1 h2 => by have := hu (j + 1) o (by simpa using h1) h2;omega) (by simpa using h) hd
      rw [show k + 1 + i = k + (i + 1) from by omega] at ih
      simp only [ents]
      cases hd' : o.dst with
      | none => exact ih
      | some d' =>
        simp only [List.cons_append,look_cons]
        rw [if_neg ?_]
        · exact ih
        · intro e;subst e;have := hu 0 o rfl hd';omega

def AllO : List (Option Prop) → Prop
  | [] => True
  | none :: l => AllO l
  | some p :: l => p ∧ AllO l

theorem AllO.get : ∀ {l : List (Option Prop)},AllO l → ∀ i,okP (l.getD i none)
  | [],_,i => by simp [okP]
  | none :: l,h,0 => trivial
  | some p :: l,h,0 => h.1
  | none :: l,h,i + 1 => by simpa using AllO.get (l := l) h i
  | some p :: l,h,i + 1 => by simpa using AllO.get (l := l) h.2 i
theorem AllO.n {l : List (Option Prop)} (h : AllO l) : AllO (none :: l) := h
theorem AllO.s {p : Prop} {l : List (Option Prop)} (h : p) (k : AllO l) : AllO (some p :: l) := ⟨h,k⟩
theorem AllO.e : AllO [] := trivial

/-- The table: for each operation what must lie ahead of it,what it yields,its obligation;which operations make or write;the objects behind each set of these. -/
structure DT where
  pred : List (List Nat)
  v : List V
  ob : List (Option Prop)
  hard : List Nat
  os : List (List Nat × List Obj)
  alt : List (List Nat × List (Nat × V))
  sw : List (List Nat × List (Nat × Nat))

def lookA {α : Type} (k : List Nat) : List (List Nat × List (Nat × α)) → List (Nat × α)
  | [] => []
  | (k',o) :: r => match eqN k k' with
    | true => o
    | false => lookA k r
def lookN {α : Type} (j : Nat) : List (Nat × α) → Option α
  | [] => none
  | (i,v) :: r => match Nat.beq j i with
    | true => some v
    | false => lookN j r
/-- What an operation yielded,as it is said behind these operations that make or write. -/
def DT.val (T : DT) (H : List Nat) (j : Nat) : V := match lookN j (lookA H T.alt) with
  | some v => v
  | none => T.v.getD j .any
/-- Two objects change their numbers behind an operation. -/
def DT.swp (T : DT) (H : List Nat) (i : Nat) : Option Nat := lookN i (lookA H T.sw)
def aftV : Option Nat → V → V
  | none,v => v
  | some k,v => V.subst (swV k) v
def aft (o : Option Nat) (out : Out) : Out := match o with
  | none => out
  | some k => ⟨out.ob,V.subst (swV k) out.v,swO k out.objs⟩

theorem aft_ob (o : Option Nat) (out : Out) : (aft o out).ob = out.ob := by cases o <;> rfl
theorem aftV_any (o : Option Nat) : aftV o .any = .any := by cases o <;> simp [aftV,V.subst,swV]
theorem look_aft {o : Option Nat} {t : Nat} : ∀ {l : List (Nat × V)},(l.map fun q => aftV o q.2) = (l.map fun q => q.2) → aftV o (look t l) = look t l
  | [],_ => aftV_any o
  | (u,v) :: l,h => by
    simp only [List.map_cons,List.cons.injEq] at h
    rw [look_cons]
    split
    · exact h.1
    · exact look_aft h.2
theorem aft_env {cx : Cx} {o : Option Nat} {out : Out} {E : Env} {K : Nat} (hK : cx.E.len = K) (g : Good E out.objs) (st : Step cx.E cx.imp E out.objs) (ho : ∀ k, o = some k → K ≤ k ∧ k + 1 < out.objs.length) :
    ∃ E2,E2.w = E.w ∧ Good E2 (aft o out).objs ∧ Step cx.E cx.imp E2 (aft o out).objs ∧ ∀ v c,Rep E v c → Rep E2 (aftV o v) c := by
  cases o with
  | none => exact ⟨E,rfl,g,st,fun v c h => h⟩
  | some k =>
    obtain ⟨h1,h2⟩ := ho k rfl
    obtain ⟨E2,k1,k2,k3,k4⟩ := swap_env g h2
    exact ⟨E2,k1,k2,k3 _ _ (by omega) st,k4⟩

section
variable (P : Program) (τ : TyTab) (hx : Nat → Bool) (orc : List (Nat × Orc)) (bn : List Nat) (ops : List Oper) (T : DT) (s : St)

def DT.may (p : List Nat × List Obj) (i : Nat) : Bool :=
  !elemN i p.1 && (T.pred.getD i []).all (fun j => !elemN j T.hard || elemN j p.1) && p.1.all fun h => !elemN i (T.pred.getD h [])

def DT.mask (H : List Nat) (i : Nat) : List (Nat × V) :=
  ents (fun j d => if elemN j (T.pred.getD i []) then T.val H j else if Nat.beq i j || elemN i (T.pred.getD j []) then s.get d else .any) 0 ops ++ s.tmps

def DT.next (p : List Nat × List Obj) (i : Nat) : List Nat := T.hard.filter fun h => Nat.beq h i || elemN h p.1

def DT.got (p : List Nat × List Obj) (i : Nat) : Option (Out × List V × List V) :=
  match ops[i]? with
  | some o => (opStep P τ (hx i) (lookV i orc) (elemN i bn) ops o ⟨s.nt,T.mask ops s p.1 i,p.2⟩).map fun out =>
    (aft (T.swp p.1 i) out,(List.range ops.length).map (fun j => if Nat.beq j i then .any else aftV (T.swp p.1 i) (T.val p.1 j)),s.tmps.map fun q => aftV (T.swp p.1 i) q.2)
  | none => none
def DT.want (p : List Nat × List Obj) (i : Nat) : Option (Out × List V × List V) :=
  some (⟨T.ob.getD i none,T.val (T.next p i) i,if elemN i T.hard then (lookO (T.next p i) T.os).getD [] else p.2⟩,(List.range ops.length).map (fun j => if Nat.beq j i then .any else T.val (T.next p i) j),s.tmps.map fun q => q.2)

def DT.pairs : List ((List Nat × List Obj) × Nat) := T.os.flatMap fun p => ((List.range ops.length).filter (T.may p)).map fun i => (p,i)

def DT.shape (K : Nat) : Bool :=
  T.hard.all (fun h => Nat.blt h ops.length) && ((List.range ops.length).all fun i => match ops[i]? with
    | none => false
    | some o => (o.after.toList.all fun e => !Region.binds .any e || Nat.blt e.on i) &&
      ((T.pred.getD i []).all fun k => o.after.toList.any fun e => Region.binds .any e && (Nat.beq e.on k || elemN k (T.pred.getD e.on []))) &&
      (match o.dst with
       | none => true
       | some d => Nat.blt d s.nt && (List.range ops.length).all fun j => Nat.beq j i || match (ops[j]?).bind (·.dst) with
         | some d' => !Nat.beq d d'
         | none => true)) &&
  (T.pairs ops).all fun p => (!elemN p.2 T.hard || (lookO (T.next p.1 p.2) T.os).isSome) && match T.swp p.1.1 p.2 with
    | none => true
    | some k => elemN p.2 T.hard && Nat.ble K k && Nat.blt (k + 1) ((lookO (T.next p.1 p.2) T.os).getD []).length

def DT.fin (live : List Nat) : Option St := (lookO T.hard T.os).map fun O => St.keep live ⟨s.nt,ents (fun j _ => T.val T.hard j) 0 ops ++ s.tmps,O⟩
end

variable {P : Program} {τ : TyTab} {cx : Cx} {Q : Exit → St → Prop} {s : St}

theorem Rel.drawn {a : Act} {w : World} (h : Rel cx s a w) : Rel cx s a { w with drawn := w.drawn + 1 } := by
  obtain ⟨E,rfl,g,st,h4,h5,h6⟩ := h
  have hx : Ext E { E with w := { E.w with drawn := E.w.drawn + 1 } } := ⟨fun b h => ⟨h,rfl⟩,Nat.le_refl _,fun l hl u h => ⟨u,h,Nat.le_refl _,fun _ => rfl⟩⟩
  exact ⟨{ E with w := { E.w with drawn := E.w.drawn + 1 } },rfl,⟨g.len,fun l o h => (g.at_ l o h).keep hx rfl rfl (fun _ => rfl),g.ns,g.sl,g.inj⟩,
    st.trans ⟨hx,rfl,rfl,rfl,Nat.le_refl _,fun _ _ _ => rfl,fun b h => .inr h,fun b h => .inl h⟩,h4,h5,fun t => (h6 t).mono hx⟩

theorem map_eq_mem {α β : Type} {f g : α → β} : ∀ {l : List α},l.map f = l.map g → ∀ x ∈ l,f x = g x
  | [],_,x,hx => by cases hx
  | y :: l,h,x,hx => by
    simp only [List.map_cons,List.cons.injEq] at h
    rcases List.mem_cons.1 hx with rfl | hx
    · exact h.1
    · exact map_eq_mem h.2 x hx

theorem unl_lt {p p' : Nat → Bool} {i : Nat} (hi : p i = true) (hi' : p' i = false) (hp : ∀ j,p' j = true → p j = true) : ∀ {l : List Nat},i ∈ l → (l.filter p').length < (l.filter p).length := by
  have hle : ∀ l : List Nat,(l.filter p').length ≤ (l.filter p).length := by
    intro l
    induction l with
    | nil => simp
    | cons x l ih =>
      simp only [List.filter_cons]
      split
      · rename_i h;rw [if_pos (hp x h)];simpa using ih
      · split
        · simp;omega
        · exact ih
  intro l h
  induction l with
  | nil => cases h
  | cons x l ih =>
    simp only [List.filter_cons]
    rcases List.mem_cons.1 h with rfl | h
    · rw [if_pos hi,if_neg (by rw [hi'];simp)]
      have := hle l
      simp;omega
    · have := ih h
      split
      · rename_i h';rw [if_pos (hp x h')];simpa using this
      · split
        · simp;omega
        · exact this

theorem draw_go (hτ : TabOk P τ) {hx : Nat → Bool} {orc : List (Nat × Orc)} {bn : List Nat} {ops : Array Oper} {T : DT} {live : List Nat} {s' : St}
    {K : Nat} (hK : cx.E.len = K) (hs : T.shape ops.toList s K = true) (hc : (T.pairs ops.toList).map (fun p => T.got P τ hx orc bn ops.toList s p.1 p.2) = (T.pairs ops.toList).map (fun p => T.want ops.toList s p.1 p.2))
    (ho : AllO T.ob) (hf : T.fin ops.toList s live = some s') (hk : Q .normal s') :
    ∀ (fuel : Nat) (listed : Array Bool),listed.size = ops.size → ((List.range ops.size).filter fun j => !listed.getD j false).length ≤ fuel →
      (∀ i,listed.getD i false = true → ∀ k ∈ T.pred.getD i [],listed.getD k false = true) →
      ∀ O,lookO (T.hard.filter fun h => listed.getD h false) T.os = some O →
      ∀ a w,Rel cx ⟨s.nt,ents (fun j d => if listed.getD j false then T.val (T.hard.filter fun h => listed.getD h false) j else s.get d) 0 ops.toList ++ s.tmps,O⟩ a w → wpAny P .any ops (Lift cx Q) fuel listed a w := by
  simp only [DT.shape,Bool.and_eq_true,List.all_eq_true] at hs
  obtain ⟨⟨hs0,hs1⟩,hs2⟩ := hs
  have hh : ∀ h ∈ T.hard,h < ops.size := fun h hm => by have := (Nat.blt_eq.mp (hs0 h hm) : h < ops.toList.length);simpa using this
  -- at the end
  have hend : ∀ (listed : Array Bool), (∀ i, i < ops.size → listed.getD i false = true) → ∀ O, lookO (T.hard.filter fun h => listed.getD h false) T.os = some O →
      ∀ a w,Rel cx ⟨s.nt,ents (fun j d => if listed.getD j false then T.val (T.hard.filter fun h => listed.getD h false) j else s.get d) 0 ops.toList ++ s.tmps,O⟩ a w → Lift cx Q .normal a w := by
    intro listed hall O hO a w hr
    have e : (T.hard.filter fun h => listed.getD h false) = T.hard := List.filter_eq_self.2 fun h hm => hall h (hh h hm)
    rw [e] at hO
    simp only [DT.fin,hO,Option.map_some,Option.some.injEq] at hf
    subst hf
    refine ⟨_,hk,wk_keep (cx := cx) live _ _ _ ?_⟩
    obtain ⟨E,h1,h2,h3,h4,h5,h6⟩ := hr
    refine ⟨E,h1,h2,h3,h4,h5,fun t => ents_rep (fun j o hj hd r => ?_) (h6 t)⟩
    rw [Nat.zero_add] at r ⊢
    have hjl : j < ops.size := by simpa using (List.getElem?_eq_some_iff.1 hj).1
    rw [hall j hjl,e] at r
    exact r
  intro fuel
  induction fuel with
  | zero =>
    intro listed hsz hcnt hdown O hO a w hr
    have hall : ∀ i,i < ops.size → listed.getD i false = true := fun i hi => by
      cases hl : listed.getD i false with
      | true => rfl
      | false =>
        have : i ∈ (List.range ops.size).filter fun j => !listed.getD j false := List.mem_filter.2 ⟨List.mem_range.2 hi,by simp [hl]⟩
        rw [List.eq_nil_of_length_eq_zero (Nat.le_zero.1 hcnt)] at this
        cases this
    refine ⟨?_,hend listed hall O hO a w hr⟩
    refine List.eq_nil_iff_forall_not_mem.2 fun j hj => ?_
    obtain ⟨h1,o,h2,_⟩ := mem_ready.1 hj
    have hlt : j < ops.size := (Array.getElem?_eq_some_iff.1 h2).1
    have := hall j hlt
    rw [Array.getD_eq_getD_getElem?,Array.getElem?_eq_getElem (by omega)] at h1 this
    simp at h1 this
    rw [h1] at this;cases this
  | succ fuel ih =>
    intro listed hsz hcnt hdown O hO a w hr
    have hflag : ∀ j,j < ops.size → listed.getD j true = listed.getD j false := fun j hj => by
      rw [Array.getD_eq_getD_getElem?,Array.getD_eq_getD_getElem?,Array.getElem?_eq_getElem (by omega)];rfl
    refine ⟨fun hnone => ?_,fun i hi => ?_⟩
    · refine hend listed (fun i => ?_) O hO a w hr
      induction i using Nat.strongRecOn with
      | _ i ihi =>
        intro hi
        cases hl : listed.getD i false with
        | true => rfl
        | false =>
          have hmem : i ∈ Region.ready .any ops listed := mem_ready.2 ⟨by rw [hflag i hi];exact hl,ops[i],Array.getElem?_eq_getElem hi,fun e he hb => by
            have h1 := hs1 i (List.mem_range.2 (by simpa using hi))
            rw [show ops.toList[i]? = some ops[i] from by simp [hi]] at h1
            simp only [Bool.and_eq_true,List.all_eq_true] at h1
            have h2 := h1.1.1 e (Array.mem_toList_iff.2 he)
            rw [hb] at h2
            have h3 : e.on < i := Nat.blt_eq.mp (by simpa using h2)
            exact ihi e.on h3 (by omega)⟩
          rw [hnone] at hmem
          cases hmem
    · obtain ⟨h1,o,h2,h3⟩ := mem_ready.1 hi
      have hlt : i < ops.size := (Array.getElem?_eq_some_iff.1 h2).1
      rw [hflag i hlt] at h1
      have h2' : ops.toList[i]? = some o := by simpa using h2
      have hsi := hs1 i (List.mem_range.2 (by simpa using hlt))
      rw [h2'] at hsi
      simp only [Bool.and_eq_true,List.all_eq_true,List.any_eq_true] at hsi
      obtain ⟨⟨_,hpred⟩,hdst⟩ := hsi
      have hpin : ∀ k ∈ T.pred.getD i [],listed.getD k false = true := fun k hk => by
        obtain ⟨e,he,hb,hor⟩ := hpred k hk
        have hon := h3 e (Array.mem_toList_iff.1 he) hb
        rcases Bool.or_eq_true_iff.1 hor with h | h
        · rw [← Nat.eq_of_beq_eq_true h];exact hon
        · exact hdown e.on hon k (elemN_iff.1 h)
      let p : List Nat × List Obj := (T.hard.filter fun h => listed.getD h false,O)
      have hpm : p ∈ T.os := lookO_mem hO
      have hmay : T.may p i = true := by
        simp only [DT.may,Bool.and_eq_true,List.all_eq_true,Bool.not_eq_true']
        refine ⟨⟨?_,fun k hk => ?_⟩,fun h hm => ?_⟩
        · cases he : elemN i p.1 with
          | false => rfl
          | true =>
            have := (List.mem_filter.1 (elemN_iff.1 he)).2
            rw [h1] at this;cases this
        · cases he : elemN k T.hard with
          | false => rfl
          | true => simp only [Bool.not_true,Bool.false_or];exact elemN_iff.2 (List.mem_filter.2 ⟨elemN_iff.1 he,hpin k hk⟩)
        · cases he : elemN i (T.pred.getD h []) with
          | false => rfl
          | true =>
            have := hdown h (List.mem_filter.1 hm).2 i (elemN_iff.1 he)
            rw [h1] at this;cases this
      have hpair : (p,i) ∈ T.pairs ops.toList := List.mem_flatMap.2 ⟨p,hpm,List.mem_map.2 ⟨i,List.mem_filter.2 ⟨List.mem_range.2 (by simpa using hlt),hmay⟩,rfl⟩⟩
      have hgot := map_eq_mem hc _ hpair
      simp only [DT.got,h2',DT.want,Option.map_eq_some_iff] at hgot
      obtain ⟨out,hout,hgot⟩ := hgot
      simp only [Prod.mk.injEq] at hgot
      obtain ⟨hg1,hg2,hg3⟩ := hgot
      obtain ⟨E,rfl,g2,g3,g4,g5,g6⟩ := id hr
      have hset : ∀ j,(listed.setIfInBounds i true).getD j false = (Nat.beq j i || listed.getD j false) := fun j => by
        by_cases e : j = i
        · subst e;rw [Nat.beq_refl];simp [Array.getD_eq_getD_getElem?,show j < listed.size from by omega]
        · rw [getD_set_ne false (Ne.symm e),show Nat.beq j i = false from by cases h : Nat.beq j i with | false => rfl | true => exact absurd (Nat.eq_of_beq_eq_true h) e];rfl
      have hn : (T.hard.filter fun h => (listed.setIfInBounds i true).getD h false) = T.next p i := by
        refine List.filter_congr fun h hm => ?_
        rw [hset]
        congr 1
        cases he : listed.getD h false with
        | true => exact (elemN_iff.2 (List.mem_filter.2 ⟨hm,he⟩)).symm
        | false =>
          cases hk : elemN h p.1 with
          | false => rfl
          | true => have := (List.mem_filter.1 (elemN_iff.1 hk)).2;rw [he] at this;cases this
      have h4 := hs2 _ hpair
      simp only at h4
      have hO' : lookO (T.hard.filter fun h => (listed.setIfInBounds i true).getD h false) T.os = some (if elemN i T.hard then (lookO (T.next p i) T.os).getD [] else p.2) := by
        cases he : elemN i T.hard with
        | true =>
          have h5 := h4.1
          simp only [he,Bool.not_true,Bool.false_or] at h5
          rw [hn,if_pos rfl]
          obtain ⟨o',ho'⟩ := Option.isSome_iff_exists.1 h5
          rw [ho'];rfl
        | false =>
          rw [if_neg (by simp),← hO]
          congr 1
          refine List.filter_congr fun h hm => ?_
          rw [hset]
          cases hb : Nat.beq h i with
          | false => rfl
          | true => rw [Nat.eq_of_beq_eq_true hb] at hm;rw [elemN_iff.2 hm] at he;cases he
      have hob : out.ob = T.ob.getD i none := by rw [← aft_ob (T.swp p.1 i),hg1]
      refine op_ok (s := ⟨s.nt,T.mask ops.toList s p.1 i,O⟩) hτ hout (by rw [hob];exact ho.get i) h2 g2 (fun t => ents_rep (fun j oj hj hd r => ?_) (g6 t)) fun E' c k1 k2 k3 => ?_
      · rw [Nat.zero_add] at r ⊢
        split
        · rename_i hp
          rw [hpin j (elemN_iff.1 hp)] at r
          exact r
        · split
          · rename_i hp
            have : listed.getD j false = false := by
              rcases Bool.or_eq_true_iff.1 hp with h | h
              · rw [← Nat.eq_of_beq_eq_true h];exact h1
              · cases hl : listed.getD j false with
                | false => rfl
                | true => have := hdown j hl i (elemN_iff.1 h);rw [h1] at this;cases this
            rw [this] at r
            exact r
          · exact .any _
      · obtain ⟨E2,e1,e2,e3,e4⟩ := aft_env (o := T.swp p.1 i) (out := out) hK k1 (g3.trans k2) (fun k hk => by
          have h5 := h4.2
          rw [hk] at h5
          simp only [Bool.and_eq_true] at h5
          refine ⟨Nat.le_of_ble_eq_true h5.1.2,?_⟩
          have hl := Nat.blt_eq.mp h5.2
          have h6 : (aft (T.swp p.1 i) out).objs = (lookO (T.next p i) T.os).getD [] := by rw [hg1];simp only [h5.1.1,if_true]
          rw [hk] at h6
          have h7 : (swO k out.objs).length = ((lookO (T.next p i) T.os).getD []).length := by rw [← h6];rfl
          rw [swO_len] at h7
          rw [h7];exact hl)
        have hv2 : aftV (T.swp p.1 i) out.v = T.val (T.next p i) i := by
          have := congrArg Out.v hg1
          cases hsw : T.swp p.1 i with
          | none => rw [hsw] at this;exact this
          | some k => rw [hsw] at this;exact this
        rw [hg1] at e2 e3
        simp only [] at e2 e3
        have hval : ∀ j,j < ops.size → j ≠ i → aftV (T.swp p.1 i) (T.val p.1 j) = T.val (T.next p i) j := fun j hj hne => by
          have := map_eq_mem hg2 j (List.mem_range.2 (by simpa using hj))
          have hb : Nat.beq j i = false := by cases h : Nat.beq j i with | false => rfl | true => exact absurd (Nat.eq_of_beq_eq_true h) hne
          simp only [hb] at this
          exact this
        have hset' : ∀ j,j ≠ i → (listed.setIfInBounds i true).getD j false = listed.getD j false := fun j hj => getD_set_ne false (Ne.symm hj)
        have hseti : (listed.setIfInBounds i true).getD i false = true := by simp [Array.getD_eq_getD_getElem?,show i < listed.size from by omega]
        refine ih (listed.setIfInBounds i true) (by simpa using hsz) ?_ ?_ _ hO' _ _ ?_
        · have := unl_lt (p := fun j => !listed.getD j false) (p' := fun j => !(listed.setIfInBounds i true).getD j false) (i := i) (by simp [h1]) (by simp [hseti]) (fun j hj => by
            by_cases e : j = i
            · subst e;simp [hseti] at hj
            · simpa [hset' j e] using hj) (l := List.range ops.size) (List.mem_range.2 hlt)
          omega
        · intro j hj k hk
          by_cases e : j = i
          · subst e;exact getD_set_true (hpin k hk)
          · rw [hset' j e] at hj;exact getD_set_true (hdown j hj k hk)
        · have hd : ∀ d,o.dst = some d → d < s.nt ∧ ∀ j oj,ops.toList[j]? = some oj → oj.dst = some d → j = i := fun d e => by
            rw [e] at hdst
            simp only [Bool.and_eq_true,List.all_eq_true] at hdst
            refine ⟨Nat.blt_eq.mp hdst.1,fun j oj hj hjd => ?_⟩
            have := hdst.2 j (List.mem_range.2 (List.getElem?_eq_some_iff.1 hj).1)
            rw [hj] at this
            simp only [Option.bind_some,hjd,Nat.beq_refl,Bool.not_true,Bool.or_false] at this
            exact Nat.eq_of_beq_eq_true this
          have hold : ∀ t c, (∀ j oj, ops.toList[j]? = some oj → oj.dst = some t → j ≠ i) → Rep E' (look t (ents (fun j d => if listed.getD j false then T.val (T.hard.filter fun h => listed.getD h false) j else s.get d) 0 ops.toList ++ s.tmps)) c →
              Rep E2 (look t (ents (fun j d => if (listed.setIfInBounds i true).getD j false then T.val (T.hard.filter fun h => (listed.setIfInBounds i true).getD h false) j else s.get d) 0 ops.toList ++ s.tmps)) c := fun t c hne r0 => by
            refine ents_rep2 (fun r => ?_) (fun j oj hj hjd r => ?_) r0
            · have := e4 _ _ r
              rwa [look_aft hg3] at this
            · rw [Nat.zero_add] at r ⊢
              have hji := hne j oj hj hjd
              have hjl : j < ops.size := by simpa using (List.getElem?_eq_some_iff.1 hj).1
              rw [hset' j hji,hn]
              split
              · rename_i hl
                rw [if_pos hl] at r
                have := e4 _ _ r
                rwa [hval j hjl hji] at this
              · rename_i hl
                rw [if_neg hl] at r
                have := e4 _ _ r
                unfold St.get at this ⊢
                rwa [look_aft hg3] at this
          refine ⟨E2,e1,e2,e3,by simp only [Act.put];split <;> simp [g4],by cases hdd : o.dst <;> exact g5,fun t => ?_⟩
          cases hdd : o.dst with
          | none =>
            show Rep E2 (look t _) (a.tmps.getD t undef)
            refine hold t _ (fun j oj hj hjd e => ?_) ((g6 t).mono k2.ext)
            subst e;rw [h2'] at hj;cases hj;rw [hdd] at hjd;cases hjd
          | some d =>
            rw [getD_put (by rw [g4];exact (hd d hdd).1)]
            show Rep E2 (look t _) _
            by_cases e : d = t
            · subst e
              rw [if_pos rfl,ents_hit (hd d hdd).2 h2' hdd,Nat.zero_add,hseti,hn]
              have := e4 _ _ k3
              rwa [hv2] at this
            · rw [if_neg e]
              refine hold t _ (fun j oj hj hjd e' => ?_) ((g6 t).mono k2.ext)
              subst e';rw [h2'] at hj;cases hj;rw [hdd] at hjd;cases hjd;exact e rfl

/-- A region whose order is not settled. -/
def drawR (P : Program) (τ : TyTab) (wraps : List Nat) (orc : List (Nat × Orc)) (bn : List Nat) (c : Code) (T : DT) (K : Nat) (live : List Nat) (s : St) : Option (Bool × List (Option (Out × List V × List V)) × Option St × Option (List Obj)) :=
  match c with
  | .region _ ops true => some (T.shape ops.toList s K,(T.pairs ops.toList).map (fun p => T.got P τ (fun i => !elemN i wraps) orc bn ops.toList s p.1 p.2),T.fin ops.toList s live,lookO [] T.os)
  | _ => none
def drawW (c : Code) (T : DT) (s : St) : List (Option (Out × List V × List V)) :=
  match c with
  | .region _ ops true => (T.pairs ops.toList).map (fun p => T.want ops.toList s p.1 p.2)
  | _ => []

theorem awp_dr (hτ : TabOk P τ) (hm : P.follows .mixedOrders = true) {c : Code} {K : Nat} (hK : cx.E.len = K) (live wraps : List Nat) (orc : List (Nat × Orc)) (bn : List Nat) (T : DT) (s' : St)
    (h : drawR P τ wraps orc bn c T K live s = some (true,drawW c T s,some s',some s.objs)) (ho : AllO T.ob) (hk : Q .normal s') : AWp P cx c Q s := by
  unfold drawR at h
  split at h
  · rename_i id ops
    simp only [Option.some.injEq,Prod.mk.injEq,drawW] at h
    obtain ⟨h1,h2,h3,h4⟩ := h
    intro a w hr
    refine wp_region_any hm (draw_go hτ hK h1 h2 ho h3 hk _ _ (by simp) (by simpa using List.length_filter_le _ (List.range ops.size)) (fun i hi => ?_) s.objs ?_ _ _ ?_)
    · exfalso
      rw [Array.getD_eq_getD_getElem?] at hi
      by_cases hlt : i < ops.size
      · simp [hlt] at hi
      · simp [hlt] at hi
    · rw [← h4]
      congr 1
      refine List.filter_eq_nil_iff.2 fun i _ hi => ?_
      rw [Array.getD_eq_getD_getElem?] at hi
      by_cases hlt : i < ops.size
      · simp [hlt] at hi
      · simp [hlt] at hi
    · obtain ⟨E,k1,k2,k3,k4,k5,k6⟩ := hr.drawn
      refine ⟨E,k1,k2,k3,k4,k5,fun t => ?_⟩
      show Rep E (look t _) _
      have : ∀ (l : List Oper) (k : Nat),look t (ents (fun j d => if (Array.replicate ops.size false).getD j false then T.val (T.hard.filter fun h => (Array.replicate ops.size false).getD h false) j else s.get d) k l ++ s.tmps) = look t s.tmps := by
        intro l
        induction l with
        | nil => intro k;rfl
        | cons o l ih =>
          intro k
          simp only [ents]
          cases o.dst with
          | none => exact ih (k + 1)
          | some d =>
            simp only [List.cons_append,look_cons]
            split
            · rename_i e
              subst e
              rw [if_neg]
              · rfl
              · rw [Array.getD_eq_getD_getElem?]
                by_cases hlt : k < ops.size
                · simp [hlt]
                · simp [hlt]
            · exact ih (k + 1)
      rw [this]
      exact k6 t
  · cases h

end Go.Proofs.Ytlncingakpelbaa

namespace Go.Proofs.Ytlncingakpelbaa
open Go
set_option linter.unusedVariables false

/-! ## Functions that defer a call -/
variable {P : Program} {τ : TyTab} {cx : Cx} {s : St}

def AWpG (P : Program) (cx : Cx) (c : Code) (R : Exit → Act → World → Prop) (s : St) : Prop := ∀ a w,Rel cx s a w → c.wp P R a w

/-- An end that is right whatever the slots hold. -/
def RetG (cx : Cx) (R : Exit → Act → World → Prop) (e : Exit) (s : St) : Prop := ∃ s',Wk cx s s' ∧ ∀ a w,Rel cx s' a w → R e a w

theorem awpG_seq {c d : Code} {R : Exit → Act → World → Prop} (h : AWp P cx c (Then (RetG cx R) (AWpG P cx d R)) s) : AWpG P cx (.seq c d) R s := by
  intro a w r
  refine wp_seq (wp_mono (h a w r) ?_)
  rintro e a w ⟨s',h1,h2⟩
  cases e <;> first | exact h1 a w h2 | (obtain ⟨s'',hw,h3⟩ := h1;exact h3 a w (hw a w h2))

theorem awpG_of {c : Code} {R : Exit → Act → World → Prop} (h : AWp P cx c (RetG cx R) s) : AWpG P cx c R s :=
  fun a w r => wp_mono (h a w r) fun e a w ⟨s',⟨s'',hw,h3⟩,h2⟩ => h3 a w (hw a w h2)

theorem awpG_eq {c c' : Code} {R : Exit → Act → World → Prop} (h : c = c') (k : AWpG P cx c' R s) : AWpG P cx c R s := h ▸ k

theorem awpG_abs {α : Type} {c : Code} {R : Exit → Act → World → Prop} (S : α → St) (e : α) (h : ∀ x,x = e → AWpG P cx c R (S x)) : AWpG P cx c R (S e) := h e rfl

def EndR (E : Env) (imp : List Obj) (Q : V → List Obj → Prop) : Ending → World → Prop :=
  fun e w' => ∃ v E' r objs,e = .returned v ∧ E'.w = w' ∧ Good E' objs ∧ Step E imp E' objs ∧ Rep E' r v ∧ Q r objs

theorem Ret.done (hτ : TabOk P τ) {fn : Func} {Q : V → List Obj → Prop} {a : Act} {w : World} (h : Ret τ fn (fun r o => cx.imp.length ≤ o.length ∧ Q r o) s) (hE : cx.E.len = cx.imp.length) (r : Rel cx s a w) :
    ∃ v,(results fn a.tmps).run P w = .ok v w ∧ EndR cx.E cx.imp Q (.returned v) w := by
  obtain ⟨E',rfl,g',st,h4,h5,h6⟩ := r
  obtain ⟨vs,m,h7,h8,h9,h10,h11,h12⟩ := h
  obtain ⟨cs,h13,h14⟩ := resV_run hτ g' h6 h7
  refine ⟨_,?_,_,E'.cut m,mkRes vs,s.objs.take m,rfl,rfl,g'.cut h8 h10,st.cut ?_ h8,below_rep (mkRes_rep h14) ?_,h12⟩
  · rw [results_eq,Array.mapM_eq_mapM_toList]
    simp only [Sem.run_bind,Sem.run_map,h13,Result.andThen_ok,Sem.run_pure]
  · rw [hE];simp only [List.length_take] at h11;omega
  · match vs,h9 with
    | [],h9 => rfl
    | [v],h9 => simp only [V.underL,Bool.and_true] at h9;exact h9
    | v :: v' :: l,h9 => exact h9

theorem retW_G (hτ : TabOk P τ) {fn : Func} {Q : V → List Obj → Prop} {e : Exit} (hE : cx.E.len = cx.imp.length) (hd : cx.dfs = []) (h : RetW cx τ fn cx.imp.length Q e s) : RetG cx (bodyPostD P fn (EndR cx.E cx.imp Q)) e s := by
  obtain ⟨s',hw,hq⟩ := h
  refine ⟨s',hw,fun a w r => ?_⟩
  have hdf : a.defers = [] := by obtain ⟨_,_,_,_,_,h5,_⟩ := id r;rw [h5,hd]
  have fin : Ret τ fn (fun r o => cx.imp.length ≤ o.length ∧ Q r o) s' → Leaves P fn a.tmps (EndR cx.E cx.imp Q) a.defers .returning w := fun hret => by
    rw [hdf]
    exact hret.done hτ hE r
  cases e with
  | normal => exact fin hq
  | ret => exact fin hq
  | _ => exact hq.elim

theorem vcalls_bodyG {f : FuncId} {fn : Func} {c : Code} {args : List V} {imp : List Obj} {Q : V → List Obj → Prop} (hf : P.funcs[f]? = some fn) (hb : fn.body = some c)
    (hn : args.length ≤ fn.ntmps) (h : ∀ E0 : Env,E0.len = imp.length → AWpG P ⟨E0,imp,[]⟩ c (bodyPostD P fn (EndR E0 imp Q)) ⟨fn.ntmps,argTmps 0 args,imp⟩) : VCalls P f args imp Q := by
  intro E cargs g r
  have hsz : cargs.size = args.length := by simpa using r.1
  refine calls_of_wp_defers hf hb (h E g.len.symm _ E.w ⟨E,rfl,g,.refl _ _,?_,rfl,fun t => ?_⟩)
  · simp [hsz];omega
  · show Rep E (look t (argTmps 0 args)) _
    rw [look_args,if_pos (Nat.zero_le _),Nat.sub_zero]
    by_cases ht : t < args.length
    · have := r.2 t ht
      simp only [Array.getD_eq_getD_getElem?]
      rw [Array.getElem?_append_left (by omega)]
      simpa [List.getD_eq_getElem?_getD] using this
    · rw [List.getD_eq_getElem?_getD,List.getElem?_eq_none (by omega)]
      exact .any _

/-- The deferred call: its function and what it captures. -/
structure Dfr (cx : Cx) (cx2 : Cx) (g : FuncId) (cv : List V) (objs : List Obj) : Prop where
  imp : cx2.imp = objs
  len : cx2.E.len = objs.length
  dfs : ∃ q : Array Value,cx2.dfs = [⟨.fn (.func g) q,#[]⟩] ∧ Reps cx2.E cv q.toList
  st : Step cx.E cx.imp cx2.E objs

def deferAt (ops : List Oper) (i : Nat) (s : St) : Option (FuncId × List V) :=
  match ops[i]? with
  | some ⟨none,.defer ⟨.value x,args,_⟩,_,_,_,none⟩ => match Nat.beq args.size 0,s.ev x with
    | true,.fn (.func g) [] cv => some (g,cv)
    | _,_ => none
  | _ => none

def AOpsG (P : Program) (cx : Cx) (ops : Array Oper) (R : Exit → Act → World → Prop) (l : List Nat) (s : St) : Prop := ∀ a w,Rel cx s a w → wpOps P ops R l a w

theorem runC_okG (hτ : TabOk P τ) {hx : Nat → Bool} {orc : List (Nat × Orc)} {bn : List Nat} {ops : Array Oper} {R : Exit → Act → World → Prop} : ∀ {l l' : List Nat} {s s' : St} {obs : List Prop},runC P τ hx orc bn ops.toList l s = some (obs,s') → AllP obs → AOpsG P cx ops R l' s' → AOpsG P cx ops R (l ++ l') s
  | [],l',s,s',obs,h,_,hk => by simp only [runC] at h;cases h;exact hk
  | i :: l,l',s,s',obs,h,ho,hk => by
    simp only [runC] at h
    split at h
    · cases h
    · rename_i o hi
      split at h
      · cases h
      · rename_i out h1
        split at h
        · cases h
        · rename_i s1 hs
          split at h
          · cases h
          · rename_i obs2 s2 h2
            cases h
            obtain ⟨rfl,hd⟩ := setTmp_inv hs
            have hb : okP out.ob ∧ AllP obs2 := by
              cases hob : out.ob with
              | none => rw [hob] at ho;exact ⟨trivial,ho⟩
              | some p => rw [hob] at ho;exact ⟨AllP.head ho,AllP.tail ho⟩
            have hrest := runC_okG hτ h2 hb.2 hk
            intro a w r
            obtain ⟨E,rfl,g2,g3,g4,g5,g6⟩ := id r
            show wpOps P ops R (i :: (l ++ l')) a E.w
            rw [wpOps_cons]
            exact op_ok hτ h1 hb.1 (by simpa using hi) g2 g6 fun E' c k1 k2 k3 => hrest _ _ (Rel.after rfl g3 g4 g5 g6 k1 k2 k3 hd)

/-- A region that ends with a defer. -/
theorem awpG_defer (hτ : TabOk P τ) (hd : cx.dfs = []) {c rest : Code} {R : Exit → Act → World → Prop} {g : FuncId} {cv : List V} {s1 : St} (l1 : List Nat) (n : Nat) (hc : isRg c = true) (hl : List.range (regOps c).size = l1 ++ [n])
    (h1 : runC P τ (fun _ => true) [] [] (regOps c).toList l1 s = some ([],s1)) (h : deferAt (regOps c).toList n s1 = some (g,cv))
    (hk : ∀ cx2 : Cx,Dfr cx cx2 g cv s1.objs → AWpG P cx2 rest R s1) : AWpG P cx (.seq c rest) R s := by
  cases c with
  | region id ops d => cases d with
    | true => cases hc
    | false =>
      simp only [regOps] at hl h1 h
      have key : ∀ R' : Exit → Act → World → Prop,(∀ a w,rest.wp P R a w → R' .normal a w) → AOpsG P cx ops R' [n] s1 := by
        intro R' hR'
        unfold deferAt at h
        split at h
        · rename_i x args tys ty po af hi
          split at h
          · rename_i g' cv' hsz hx
            cases h
            have ha : args = #[] := by
              have := Nat.eq_of_beq_eq_true hsz
              exact Array.eq_empty_of_size_eq_zero this
            subst ha
            rintro a w ⟨E,rfl,g2,g3,g4,g5,g6⟩
            have rx := Rel.ev (w := E.w) g6 x
            rw [hx] at rx
            obtain ⟨p,q,hv,hp,hq⟩ := fn_inv rx
            have hp0 : p = #[] := by have := hp.1;simpa using this
            subst hp0
            have hi0 : ops[n]? = some ⟨none,.defer ⟨.value x,#[],tys⟩,ty,po,af,none⟩ := by simpa using hi
            simp only [wpOps,hi0,Region.wanted,if_true]
            refine .inl ?_
            unfold Oper.wp
            have hrun : (execOp a.eval ⟨none,.defer ⟨.value x,#[],tys⟩,ty,po,af,none⟩).run P E.w = .ok (.defer ⟨.fn (.func g) q,#[]⟩) E.w := by
              simp [execOp,resolve,hv,Deferred.ofValue]
            rw [hrun,Oper.upon_defer]
            refine hR' _ _ (hk ⟨E,s1.objs,[⟨.fn (.func g) q,#[]⟩]⟩ ⟨rfl,g2.len.symm,⟨q,rfl,hq⟩,g3⟩ _ _ ⟨E,rfl,g2,.refl _ _,?_,?_,fun t => ?_⟩)
            · exact g4
            · simp only [Act.put,g5,hd]
            · exact g6 t
          · cases h
        · cases h
      intro a w r
      refine wp_seq (wp_region ?_)
      rw [hl]
      exact runC_okG hτ h1 trivial (key _ fun a w h => h) a w r
  | _ => cases hc

/-- At the end the deferred function runs;behind it stand the results. -/
def EndG (cx : Cx) (τ : TyTab) (fn : Func) (Q : V → List Obj → Prop) (nt : Nat) (tmps : List (Nat × V)) (e : Exit) (sg : St) : Prop :=
  (e = .normal ∨ e = .ret) ∧ ∃ s3,Wk cx ⟨nt,tmps,sg.objs⟩ s3 ∧ Ret τ fn (fun r o => cx.imp.length ≤ o.length ∧ Q r o) s3

theorem retD (hτ : TabOk P τ) (hE : cx.E.len = cx.imp.length) (hd : cx.dfs = []) {cx2 : Cx} {g : FuncId} {cv : List V} {objs0 : List Obj} (hD : Dfr cx cx2 g cv objs0) {fn gfn : Func} {cg : Code} {Q : V → List Obj → Prop} {s s' : St} {e : Exit} (he : e = .normal ∨ e = .ret)
    (hg : P.funcs[g]? = some gfn) (hb : gfn.body = some cg) (hc : CallOk P g) (hn : Nat.ble cv.length gfn.ntmps = true) (hr : gfn.results = #[]) (hw : Wk cx2 s s')
    (h : ∀ cxg : Cx,cxg.dfs = [] → cxg.imp = s'.objs → cxg.E.len = s'.objs.length → AWp P cxg cg (EndG cx τ fn Q s'.nt s'.tmps) ⟨gfn.ntmps,argTmps 0 cv,s'.objs⟩) :
    RetG cx2 (bodyPostD P fn (EndR cx.E cx.imp Q)) e s := by
  refine ⟨s',hw,?_⟩
  rintro a w ⟨E,rfl,g2,g3,g4,g5,g6⟩
  obtain ⟨q,hq1,hq2⟩ := hD.dfs
  rw [hq1] at g5
  have hst : Step cx.E cx.imp E s'.objs := by have := hD.st;rw [← hD.imp] at this;exact this.trans g3
  have fin : Leaves P fn a.tmps (EndR cx.E cx.imp Q) a.defers .returning E.w := by
    rw [g5]
    refine leaves_cons (f := g) (args := q) (by simp) ?_ ?_
    · simp [invoke,callFunc_run hc]
    · have hsz : q.size = cv.length := by simpa using hq2.1
      have hn' : cv.length ≤ gfn.ntmps := Nat.le_of_ble_eq_true hn
      refine (callsD_of_wp (R := fun e w' => ∃ v,e = .returned v ∧ Leaves P fn a.tmps (EndR cx.E cx.imp Q) [] .returning w') hg hb (wp_mono (h ⟨E,s'.objs,[]⟩ rfl rfl g2.len.symm _ E.w ⟨E,rfl,g2,.refl _ _,?_,rfl,fun t => ?_⟩) ?_)).mono ?_
      · simp [hsz];omega
      · show Rep E (look t (argTmps 0 cv)) _
        rw [look_args,if_pos (Nat.zero_le _),Nat.sub_zero]
        by_cases ht : t < cv.length
        · have := (hq2.2 t ht).mono g3.ext
          simp only [Array.getD_eq_getD_getElem?]
          rw [Array.getElem?_append_left (by omega)]
          simpa [List.getD_eq_getElem?_getD] using this
        · rw [List.getD_eq_getElem?_getD,List.getElem?_eq_none (by omega)]
          exact .any _
      · rintro e ag w ⟨sg,⟨heg,s3,hw3,hret⟩,E3,rfl,k2,k3,k4,k5,k6⟩
        have hrel : Rel cx ⟨s'.nt,s'.tmps,sg.objs⟩ { a with defers := [] } E3.w := ⟨E3,rfl,k2,hst.trans k3,g4,hd.symm,fun t => (g6 t).mono k3.ext⟩
        have hdone := hret.done hτ hE (hw3 _ _ hrel)
        have hres : (results gfn ag.tmps).run P E3.w = .ok (.tuple #[]) E3.w := by
          rw [results_eq,hr];simp
        rcases heg with rfl | rfl
        · exact ⟨k5,_,hres,_,rfl,hdone⟩
        · exact ⟨k5,_,hres,_,rfl,hdone⟩
      · rintro e u' w' ⟨rfl,v,rfl,hl⟩
        exact hl
  rcases he with rfl | rfl
  · exact fin
  · exact fin

theorem endG {fn : Func} {Q : V → List Obj → Prop} {nt m k : Nat} {tmps : List (Nat × V)} {e : Exit} {sg : St} {r : V} {objs : List Obj} (he : e = .normal ∨ e = .ret) (hE : cx.E.len = k) (hk0 : cx.imp.length = k) (l : List Gh) (s3 : St) (hg : ghosts k l ⟨nt, tmps, sg.objs⟩ = some s3)
    (h : finish τ fn m s3 = some (r,objs)) (hk : k ≤ objs.length) (hq : Q r objs) : EndG cx τ fn Q nt tmps e sg := by
  subst hk0
  exact ⟨he,s3,wk_ghosts hE hg,ret_ok h hk hq⟩

end Go.Proofs.Ytlncingakpelbaa
