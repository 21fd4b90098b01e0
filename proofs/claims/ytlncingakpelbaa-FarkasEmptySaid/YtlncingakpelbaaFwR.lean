/- Part of a proof that a law of the program holds for every input: how abstract states follow the program (part R). No conditions. -/
import Derived.Test.YtlncingakpelbaaFwQ
namespace Go.Proofs.Ytlncingakpelbaa
open Go
set_option linter.unusedVariables false

/-! ## Regions whose order is not settled: what each operation yields does not depend on the order -/
def eqN : List Nat → List Nat → Bool
  | [], [] => true
  | a :: l, b :: m => Nat.beq a b && eqN l m
  | _, _ => false

theorem eqN_eq : ∀ {l m : List Nat}, eqN l m = true → l = m
  | [], [], _ => rfl
  | a :: l, b :: m, h => by
    simp only [eqN, Bool.and_eq_true] at h
    rw [Nat.eq_of_beq_eq_true h.1, eqN_eq h.2]
  | [], _ :: _, h => by cases h
  | _ :: _, [], h => by cases h

theorem elemN_iff {n : Nat} : ∀ {l : List Nat}, elemN n l = true ↔ n ∈ l
  | [] => by simp [elemN]
  | m :: l => by
    simp only [elemN, Bool.or_eq_true, List.mem_cons, elemN_iff (l := l)]
    exact ⟨fun h => h.imp (fun h => (Nat.eq_of_beq_eq_true h).symm) id, fun h => h.imp (fun h => by rw [h]; exact Nat.beq_refl _) id⟩

def lookO (k : List Nat) : List (List Nat × List Obj) → Option (List Obj)
  | [] => none
  | (k', o) :: r => match eqN k k' with
    | true => some o
    | false => lookO k r

theorem lookO_mem {k : List Nat} {o : List Obj} : ∀ {l : List (List Nat × List Obj)}, lookO k l = some o → (k, o) ∈ l
  | [], h => by cases h
  | (k', o') :: r, h => by
    simp only [lookO] at h
    split at h
    · rename_i e; cases h; rw [eqN_eq e]; exact List.mem_cons_self
    · exact List.mem_cons_of_mem _ (lookO_mem h)

def ents (f : Nat → Nat → V) : Nat → List Oper → List (Nat × V)
  | _, [] => []
  | j, o :: l => match o.dst with
    | some d => (d, f j d) :: ents f (j + 1) l
    | none => ents f (j + 1) l

theorem ents_rep {E : Env} {f g : Nat → Nat → V} {t : Nat} {r : List (Nat × V)} {c : Value} : ∀ {l : List Oper} {k : Nat}, (∀ j o, l[j]? = some o → o.dst = some t → Rep E (f (k + j) t) c → Rep E (g (k + j) t) c) →
    Rep E (look t (ents f k l ++ r)) c → Rep E (look t (ents g k l ++ r)) c
  | [], _, _, h => h
  | o :: l, k, hj, h => by
    have ih := ents_rep (r := r) (l := l) (k := k + 1) (fun j o h1 h2 h3 => by
      have := hj (j + 1) o (by simpa using h1) h2
      rw [show k + (j + 1) = k + 1 + j from by omega] at this
      exact this h3)
    simp only [ents] at h ⊢
    cases hd : o.dst with
    | none => rw [hd] at h; exact ih h
    | some d =>
      rw [hd] at h
      simp only [List.cons_append, look_cons] at h ⊢
      split
      · rename_i e
        subst e
        rw [if_pos rfl] at h
        exact hj 0 o rfl hd h
      · rename_i e
        rw [if_neg e] at h
        exact ih h

theorem ents_hit {f : Nat → Nat → V} {d i : Nat} {oi : Oper} {r : List (Nat × V)} : ∀ {l : List Oper} {k : Nat}, (∀ j o, l[j]? = some o → o.dst = some d → j = i) → l[i]? = some oi → oi.dst = some d → look d (ents f k l ++ r) = f (k + i) d
  | [], _, _, h, _ => by cases h
  | o :: l, k, hu, h, hd => by
    cases i with
    | zero =>
      simp at h; subst h
      simp only [ents, hd, List.cons_append, look_cons, if_true]
      rfl
    | succ i =>
      have ih := ents_hit (f := f) (r := r) (l := l) (k := k + 1) (i := i) (fun j o h1 h2 => by have := hu (j + 1) o (by simpa using h1) h2; omega) (by simpa using h) hd
      rw [show k + 1 + i = k + (i + 1) from by omega] at ih
      simp only [ents]
      cases hd' : o.dst with
      | none => exact ih
      | some d' =>
        simp only [List.cons_append, look_cons]
        rw [if_neg ?_]
        · exact ih
        · intro e; subst e; have := hu 0 o rfl hd'; omega

def AllO : List (Option Prop) → Prop
  | [] => True
  | none :: l => AllO l
  | some p :: l => p ∧ AllO l

theorem AllO.get : ∀ {l : List (Option Prop)}, AllO l → ∀ i, okP (l.getD i none)
  | [], _, i => by simp [okP]
  | none :: l, h, 0 => trivial
  | some p :: l, h, 0 => h.1
  | none :: l, h, i + 1 => by simpa using AllO.get (l := l) h i
  | some p :: l, h, i + 1 => by simpa using AllO.get (l := l) h.2 i
theorem AllO.n {l : List (Option Prop)} (h : AllO l) : AllO (none :: l) := h
theorem AllO.s {p : Prop} {l : List (Option Prop)} (h : p) (k : AllO l) : AllO (some p :: l) := ⟨h, k⟩
theorem AllO.e : AllO [] := trivial

/-- The table: for each operation what must lie ahead of it, what it yields, its obligation; which operations make or write; the objects behind each set of these. -/
structure DT where
  pred : List (List Nat)
  v : List V
  ob : List (Option Prop)
  hard : List Nat
  os : List (List Nat × List Obj)

section
variable (P : Program) (τ : TyTab) (hx : Nat → Bool) (orc : List (Nat × Orc)) (bn : List Nat) (ops : List Oper) (T : DT) (s : St)

def DT.may (p : List Nat × List Obj) (i : Nat) : Bool :=
  !elemN i p.1 && (T.pred.getD i []).all (fun j => !elemN j T.hard || elemN j p.1) && p.1.all fun h => !elemN i (T.pred.getD h [])

def DT.mask (i : Nat) : List (Nat × V) :=
  ents (fun j d => if elemN j (T.pred.getD i []) then T.v.getD j .any else if Nat.beq i j || elemN i (T.pred.getD j []) then s.get d else .any) 0 ops ++ s.tmps

def DT.next (p : List Nat × List Obj) (i : Nat) : List Nat := T.hard.filter fun h => Nat.beq h i || elemN h p.1

def DT.got (p : List Nat × List Obj) (i : Nat) : Option Out :=
  match ops[i]? with
  | some o => opStep P τ (hx i) (lookV i orc) (elemN i bn) ops o ⟨s.nt, T.mask ops s i, p.2⟩
  | none => none
def DT.want (p : List Nat × List Obj) (i : Nat) : Option Out :=
  some ⟨T.ob.getD i none, T.v.getD i .any, if elemN i T.hard then (lookO (T.next p i) T.os).getD [] else p.2⟩

def DT.pairs : List ((List Nat × List Obj) × Nat) := T.os.flatMap fun p => ((List.range ops.length).filter (T.may p)).map fun i => (p, i)

def DT.shape : Bool :=
  T.hard.all (fun h => Nat.blt h ops.length) && ((List.range ops.length).all fun i => match ops[i]? with
    | none => false
    | some o => (o.after.toList.all fun e => !Region.binds .any e || Nat.blt e.on i) &&
      ((T.pred.getD i []).all fun k => o.after.toList.any fun e => Region.binds .any e && (Nat.beq e.on k || elemN k (T.pred.getD e.on []))) &&
      (match o.dst with
       | none => true
       | some d => Nat.blt d s.nt && (List.range ops.length).all fun j => Nat.beq j i || match (ops[j]?).bind (·.dst) with
         | some d' => !Nat.beq d d'
         | none => true)) &&
  (T.pairs ops).all fun p => !elemN p.2 T.hard || (lookO (T.next p.1 p.2) T.os).isSome

def DT.fin (live : List Nat) : Option St := (lookO T.hard T.os).map fun O => St.keep live ⟨s.nt, ents (fun j _ => T.v.getD j .any) 0 ops ++ s.tmps, O⟩
end

variable {P : Program} {τ : TyTab} {cx : Cx} {Q : Exit → St → Prop} {s : St}

theorem Rel.drawn {a : Act} {w : World} (h : Rel cx s a w) : Rel cx s a { w with drawn := w.drawn + 1 } := by
  obtain ⟨E, rfl, g, st, h4, h5, h6⟩ := h
  have hx : Ext E { E with w := { E.w with drawn := E.w.drawn + 1 } } := ⟨fun b h => ⟨h, rfl⟩, Nat.le_refl _, fun l hl u h => ⟨u, h, Nat.le_refl _, fun _ => rfl⟩⟩
  exact ⟨{ E with w := { E.w with drawn := E.w.drawn + 1 } }, rfl, ⟨g.len, fun l o h => (g.at_ l o h).keep hx rfl rfl (fun _ => rfl), g.ns, g.sl, g.inj⟩,
    st.trans ⟨hx, rfl, rfl, rfl, Nat.le_refl _, fun _ _ _ => rfl, fun b h => .inr h, fun b h => .inl h⟩, h4, h5, fun t => (h6 t).mono hx⟩

theorem map_eq_mem {α β : Type} {f g : α → β} : ∀ {l : List α}, l.map f = l.map g → ∀ x ∈ l, f x = g x
  | [], _, x, hx => by cases hx
  | y :: l, h, x, hx => by
    simp only [List.map_cons, List.cons.injEq] at h
    rcases List.mem_cons.1 hx with rfl | hx
    · exact h.1
    · exact map_eq_mem h.2 x hx

theorem unl_lt {p p' : Nat → Bool} {i : Nat} (hi : p i = true) (hi' : p' i = false) (hp : ∀ j, p' j = true → p j = true) : ∀ {l : List Nat}, i ∈ l → (l.filter p').length < (l.filter p).length := by
  have hle : ∀ l : List Nat, (l.filter p').length ≤ (l.filter p).length := by
    intro l
    induction l with
    | nil => simp
    | cons x l ih =>
      simp only [List.filter_cons]
      split
      · rename_i h; rw [if_pos (hp x h)]; simpa using ih
      · split
        · simp; omega
        · exact ih
  intro l h
  induction l with
  | nil => cases h
  | cons x l ih =>
    simp only [List.filter_cons]
    rcases List.mem_cons.1 h with rfl | h
    · rw [if_pos hi, if_neg (by rw [hi']; simp)]
      have := hle l
      simp; omega
    · have := ih h
      split
      · rename_i h'; rw [if_pos (hp x h')]; simpa using this
      · split
        · simp; omega
        · exact this

theorem draw_go (hτ : TabOk P τ) {hx : Nat → Bool} {orc : List (Nat × Orc)} {bn : List Nat} {ops : Array Oper} {T : DT} {live : List Nat} {s' : St}
    (hs : T.shape ops.toList s = true) (hc : (T.pairs ops.toList).map (fun p => T.got P τ hx orc bn ops.toList s p.1 p.2) = (T.pairs ops.toList).map (fun p => T.want p.1 p.2))
    (ho : AllO T.ob) (hf : T.fin ops.toList s live = some s') (hk : Q .normal s') :
    ∀ (fuel : Nat) (listed : Array Bool), listed.size = ops.size → ((List.range ops.size).filter fun j => !listed.getD j false).length ≤ fuel →
      (∀ i, listed.getD i false = true → ∀ k ∈ T.pred.getD i [], listed.getD k false = true) →
      ∀ O, lookO (T.hard.filter fun h => listed.getD h false) T.os = some O →
      ∀ a w, Rel cx ⟨s.nt, ents (fun j d => if listed.getD j false then T.v.getD j .any else s.get d) 0 ops.toList ++ s.tmps, O⟩ a w → wpAny P .any ops (Lift cx Q) fuel listed a w := by
  simp only [DT.shape, Bool.and_eq_true, List.all_eq_true] at hs
  obtain ⟨⟨hs0, hs1⟩, hs2⟩ := hs
  have hh : ∀ h ∈ T.hard, h < ops.size := fun h hm => by have := (Nat.blt_eq.mp (hs0 h hm) : h < ops.toList.length); simpa using this
  -- at the end
  have hend : ∀ (listed : Array Bool), (∀ i, i < ops.size → listed.getD i false = true) → ∀ O, lookO (T.hard.filter fun h => listed.getD h false) T.os = some O →
      ∀ a w, Rel cx ⟨s.nt, ents (fun j d => if listed.getD j false then T.v.getD j .any else s.get d) 0 ops.toList ++ s.tmps, O⟩ a w → Lift cx Q .normal a w := by
    intro listed hall O hO a w hr
    have e : (T.hard.filter fun h => listed.getD h false) = T.hard := List.filter_eq_self.2 fun h hm => hall h (hh h hm)
    rw [e] at hO
    simp only [DT.fin, hO, Option.map_some, Option.some.injEq] at hf
    subst hf
    refine ⟨_, hk, wk_keep (cx := cx) live _ _ _ ?_⟩
    obtain ⟨E, h1, h2, h3, h4, h5, h6⟩ := hr
    refine ⟨E, h1, h2, h3, h4, h5, fun t => ents_rep (fun j o hj hd r => ?_) (h6 t)⟩
    rw [Nat.zero_add] at r ⊢
    have hjl : j < ops.size := by simpa using (List.getElem?_eq_some_iff.1 hj).1
    rw [hall j hjl] at r
    exact r
  intro fuel
  induction fuel with
  | zero =>
    intro listed hsz hcnt hdown O hO a w hr
    have hall : ∀ i, i < ops.size → listed.getD i false = true := fun i hi => by
      cases hl : listed.getD i false with
      | true => rfl
      | false =>
        have : i ∈ (List.range ops.size).filter fun j => !listed.getD j false := List.mem_filter.2 ⟨List.mem_range.2 hi, by simp [hl]⟩
        rw [List.eq_nil_of_length_eq_zero (Nat.le_zero.1 hcnt)] at this
        cases this
    refine ⟨?_, hend listed hall O hO a w hr⟩
    refine List.eq_nil_iff_forall_not_mem.2 fun j hj => ?_
    obtain ⟨h1, o, h2, _⟩ := mem_ready.1 hj
    have hlt : j < ops.size := (Array.getElem?_eq_some_iff.1 h2).1
    have := hall j hlt
    rw [Array.getD_eq_getD_getElem?, Array.getElem?_eq_getElem (by omega)] at h1 this
    simp at h1 this
    rw [h1] at this; cases this
  | succ fuel ih =>
    intro listed hsz hcnt hdown O hO a w hr
    have hflag : ∀ j, j < ops.size → listed.getD j true = listed.getD j false := fun j hj => by
      rw [Array.getD_eq_getD_getElem?, Array.getD_eq_getD_getElem?, Array.getElem?_eq_getElem (by omega)]; rfl
    refine ⟨fun hnone => ?_, fun i hi => ?_⟩
    · refine hend listed (fun i => ?_) O hO a w hr
      induction i using Nat.strongRecOn with
      | _ i ihi =>
        intro hi
        cases hl : listed.getD i false with
        | true => rfl
        | false =>
          have hmem : i ∈ Region.ready .any ops listed := mem_ready.2 ⟨by rw [hflag i hi]; exact hl, ops[i], Array.getElem?_eq_getElem hi, fun e he hb => by
            have h1 := hs1 i (List.mem_range.2 (by simpa using hi))
            rw [show ops.toList[i]? = some ops[i] from by simp [hi]] at h1
            simp only [Bool.and_eq_true, List.all_eq_true] at h1
            have h2 := h1.1.1 e (Array.mem_toList_iff.2 he)
            rw [hb] at h2
            have h3 : e.on < i := Nat.blt_eq.mp (by simpa using h2)
            exact ihi e.on h3 (by omega)⟩
          rw [hnone] at hmem
          cases hmem
    · obtain ⟨h1, o, h2, h3⟩ := mem_ready.1 hi
      have hlt : i < ops.size := (Array.getElem?_eq_some_iff.1 h2).1
      rw [hflag i hlt] at h1
      have h2' : ops.toList[i]? = some o := by simpa using h2
      have hsi := hs1 i (List.mem_range.2 (by simpa using hlt))
      rw [h2'] at hsi
      simp only [Bool.and_eq_true, List.all_eq_true, List.any_eq_true] at hsi
      obtain ⟨⟨_, hpred⟩, hdst⟩ := hsi
      have hpin : ∀ k ∈ T.pred.getD i [], listed.getD k false = true := fun k hk => by
        obtain ⟨e, he, hb, hor⟩ := hpred k hk
        have hon := h3 e (Array.mem_toList_iff.1 he) hb
        rcases Bool.or_eq_true_iff.1 hor with h | h
        · rw [← Nat.eq_of_beq_eq_true h]; exact hon
        · exact hdown e.on hon k (elemN_iff.1 h)
      let p : List Nat × List Obj := (T.hard.filter fun h => listed.getD h false, O)
      have hpm : p ∈ T.os := lookO_mem hO
      have hmay : T.may p i = true := by
        simp only [DT.may, Bool.and_eq_true, List.all_eq_true, Bool.not_eq_true']
        refine ⟨⟨?_, fun k hk => ?_⟩, fun h hm => ?_⟩
        · cases he : elemN i p.1 with
          | false => rfl
          | true =>
            have := (List.mem_filter.1 (elemN_iff.1 he)).2
            rw [h1] at this; cases this
        · cases he : elemN k T.hard with
          | false => rfl
          | true => simp only [Bool.not_true, Bool.false_or]; exact elemN_iff.2 (List.mem_filter.2 ⟨elemN_iff.1 he, hpin k hk⟩)
        · cases he : elemN i (T.pred.getD h []) with
          | false => rfl
          | true =>
            have := hdown h (List.mem_filter.1 hm).2 i (elemN_iff.1 he)
            rw [h1] at this; cases this
      have hpair : (p, i) ∈ T.pairs ops.toList := List.mem_flatMap.2 ⟨p, hpm, List.mem_map.2 ⟨i, List.mem_filter.2 ⟨List.mem_range.2 (by simpa using hlt), hmay⟩, rfl⟩⟩
      have hgot := map_eq_mem hc _ hpair
      simp only [DT.got, h2', DT.want] at hgot
      obtain ⟨E, rfl, g2, g3, g4, g5, g6⟩ := id hr
      have hO' : lookO (T.hard.filter fun h => (listed.setIfInBounds i true).getD h false) T.os = some (if elemN i T.hard then (lookO (T.next p i) T.os).getD [] else p.2) := by
        have hset : ∀ j, (listed.setIfInBounds i true).getD j false = (Nat.beq j i || listed.getD j false) := fun j => by
          by_cases e : j = i
          · subst e; rw [Nat.beq_refl]; simp [Array.getD_eq_getD_getElem?, show j < listed.size from by omega]
          · rw [getD_set_ne false (Ne.symm e), show Nat.beq j i = false from by cases h : Nat.beq j i with | false => rfl | true => exact absurd (Nat.eq_of_beq_eq_true h) e]; rfl
        have hn : (T.hard.filter fun h => (listed.setIfInBounds i true).getD h false) = T.next p i := by
          refine List.filter_congr fun h hm => ?_
          rw [hset]
          congr 1
          cases he : listed.getD h false with
          | true => exact (elemN_iff.2 (List.mem_filter.2 ⟨hm, he⟩)).symm
          | false =>
            cases hk : elemN h p.1 with
            | false => rfl
            | true => have := (List.mem_filter.1 (elemN_iff.1 hk)).2; rw [he] at this; cases this
        cases he : elemN i T.hard with
        | true =>
          have h4 := hs2 _ hpair
          simp only [he, Bool.not_true, Bool.false_or] at h4
          rw [hn, if_pos rfl]
          obtain ⟨o', ho'⟩ := Option.isSome_iff_exists.1 h4
          rw [ho']; rfl
        | false =>
          rw [if_neg (by simp), ← hO]
          congr 1
          refine List.filter_congr fun h hm => ?_
          rw [hset]
          cases hb : Nat.beq h i with
          | false => rfl
          | true => rw [Nat.eq_of_beq_eq_true hb] at hm; rw [elemN_iff.2 hm] at he; cases he
      refine op_ok (s := ⟨s.nt, T.mask ops.toList s i, O⟩) hτ hgot (ho.get i) h2 g2 (fun t => ents_rep (fun j oj hj hd r => ?_) (g6 t)) fun E' c k1 k2 k3 => ?_
      · rw [Nat.zero_add] at r ⊢
        split
        · rename_i hp
          rw [hpin j (elemN_iff.1 hp)] at r
          exact r
        · split
          · rename_i hp
            have : listed.getD j false = false := by
              rcases Bool.or_eq_true_iff.1 hp with h | h
              · rw [← Nat.eq_of_beq_eq_true h]; exact h1
              · cases hl : listed.getD j false with
                | false => rfl
                | true => have := hdown j hl i (elemN_iff.1 h); rw [h1] at this; cases this
            rw [this] at r
            exact r
          · exact .any _
      · have hset : ∀ j, j ≠ i → (listed.setIfInBounds i true).getD j false = listed.getD j false := fun j hj => getD_set_ne false (Ne.symm hj)
        have hseti : (listed.setIfInBounds i true).getD i false = true := by simp [Array.getD_eq_getD_getElem?, show i < listed.size from by omega]
        refine ih (listed.setIfInBounds i true) (by simpa using hsz) ?_ ?_ _ hO' _ _ ?_
        · have := unl_lt (p := fun j => !listed.getD j false) (p' := fun j => !(listed.setIfInBounds i true).getD j false) (i := i) (by simp [h1]) (by simp [hseti]) (fun j hj => by
            by_cases e : j = i
            · subst e; simp [hseti] at hj
            · simpa [hset j e] using hj) (l := List.range ops.size) (List.mem_range.2 hlt)
          omega
        · intro j hj k hk
          by_cases e : j = i
          · subst e; exact getD_set_true (hpin k hk)
          · rw [hset j e] at hj; exact getD_set_true (hdown j hj k hk)
        · have hd : ∀ d, o.dst = some d → d < s.nt ∧ ∀ j oj, ops.toList[j]? = some oj → oj.dst = some d → j = i := fun d e => by
            rw [e] at hdst
            simp only [Bool.and_eq_true, List.all_eq_true] at hdst
            refine ⟨Nat.blt_eq.mp hdst.1, fun j oj hj hjd => ?_⟩
            have := hdst.2 j (List.mem_range.2 (List.getElem?_eq_some_iff.1 hj).1)
            rw [hj] at this
            simp only [Option.bind_some, hjd, Nat.beq_refl, Bool.not_true, Bool.or_false] at this
            exact Nat.eq_of_beq_eq_true this
          refine ⟨E', rfl, k1, g3.trans k2, by simp only [Act.put]; split <;> simp [g4], by cases hdd : o.dst <;> exact g5, fun t => ?_⟩
          cases hdd : o.dst with
          | none =>
            show Rep E' (look t _) (a.tmps.getD t undef)
            refine ents_rep (fun j oj hj hjd r => ?_) ((g6 t).mono k2.ext)
            rw [Nat.zero_add] at r ⊢
            by_cases e : j = i
            · subst e; rw [h2'] at hj; cases hj; rw [hdd] at hjd; cases hjd
            · rw [hset j e]; exact r
          | some d =>
            rw [getD_put (by rw [g4]; exact (hd d hdd).1)]
            show Rep E' (look t _) _
            by_cases e : d = t
            · subst e
              rw [if_pos rfl, ents_hit (hd d hdd).2 h2' hdd, Nat.zero_add, hseti]
              exact k3
            · rw [if_neg e]
              refine ents_rep (fun j oj hj hjd r => ?_) ((g6 t).mono k2.ext)
              rw [Nat.zero_add] at r ⊢
              by_cases e' : j = i
              · subst e'; rw [h2'] at hj; cases hj; rw [hdd] at hjd; cases hjd; exact absurd rfl e
              · rw [hset j e']; exact r

/-- A region whose order is not settled. -/
def drawR (P : Program) (τ : TyTab) (wraps : List Nat) (orc : List (Nat × Orc)) (bn : List Nat) (c : Code) (T : DT) (live : List Nat) (s : St) : Option (Bool × List (Option Out) × Option St × Option (List Obj)) :=
  match c with
  | .region _ ops true => some (T.shape ops.toList s, (T.pairs ops.toList).map (fun p => T.got P τ (fun i => !elemN i wraps) orc bn ops.toList s p.1 p.2), T.fin ops.toList s live, lookO [] T.os)
  | _ => none
def drawW (c : Code) (T : DT) : List (Option Out) :=
  match c with
  | .region _ ops true => (T.pairs ops.toList).map (fun p => T.want p.1 p.2)
  | _ => []

theorem awp_dr (hτ : TabOk P τ) (hm : P.follows .mixedOrders = true) {c : Code} (live wraps : List Nat) (orc : List (Nat × Orc)) (bn : List Nat) (T : DT) (s' : St)
    (h : drawR P τ wraps orc bn c T live s = some (true, drawW c T, some s', some s.objs)) (ho : AllO T.ob) (hk : Q .normal s') : AWp P cx c Q s := by
  unfold drawR at h
  split at h
  · rename_i id ops
    simp only [Option.some.injEq, Prod.mk.injEq, drawW] at h
    obtain ⟨h1, h2, h3, h4⟩ := h
    intro a w hr
    refine wp_region_any hm (draw_go hτ h1 h2 ho h3 hk _ _ (by simp) (by simpa using List.length_filter_le _ (List.range ops.size)) (fun i hi => ?_) s.objs ?_ _ _ ?_)
    · exfalso
      rw [Array.getD_eq_getD_getElem?] at hi
      by_cases hlt : i < ops.size
      · simp [hlt] at hi
      · simp [hlt] at hi
    · rw [← h4]
      congr 1
      refine List.filter_eq_nil_iff.2 fun i _ hi => ?_
      rw [Array.getD_eq_getD_getElem?] at hi
      by_cases hlt : i < ops.size
      · simp [hlt] at hi
      · simp [hlt] at hi
    · obtain ⟨E, k1, k2, k3, k4, k5, k6⟩ := hr.drawn
      refine ⟨E, k1, k2, k3, k4, k5, fun t => ?_⟩
      show Rep E (look t _) _
      have : ∀ (l : List Oper) (k : Nat), look t (ents (fun j d => if (Array.replicate ops.size false).getD j false then T.v.getD j .any else s.get d) k l ++ s.tmps) = look t s.tmps := by
        intro l
        induction l with
        | nil => intro k; rfl
        | cons o l ih =>
          intro k
          simp only [ents]
          cases o.dst with
          | none => exact ih (k + 1)
          | some d =>
            simp only [List.cons_append, look_cons]
            split
            · rename_i e
              subst e
              rw [if_neg]
              · rfl
              · rw [Array.getD_eq_getD_getElem?]
                by_cases hlt : k < ops.size
                · simp [hlt]
                · simp [hlt]
            · exact ih (k + 1)
      rw [this]
      exact k6 t
  · cases h

end Go.Proofs.Ytlncingakpelbaa
