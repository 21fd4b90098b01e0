/- Part of a proof that a law of the program holds for every input: how abstract states follow the program (part K). No conditions. -/
import Derived.Test.YtlncingakpelbaaFwJ
namespace Go.Proofs.Ytlncingakpelbaa
open Go
set_option linter.unusedVariables false

/-! ## Abstract states of a call, rules for its code -/
structure Cx where
  E : Env
  imp : List Obj
  dfs : List Deferred

def Rel (cx : Cx) (s : St) (a : Act) (w : World) : Prop :=
  ∃ E, E.w = w ∧ Good E s.objs ∧ Step cx.E cx.imp E s.objs ∧ a.tmps.size = s.nt ∧ a.defers = cx.dfs ∧ ∀ t, Rep E (s.get t) (a.tmps.getD t undef)

/-- One state says less than another. -/
def Wk (cx : Cx) (s s' : St) : Prop := ∀ a w, Rel cx s a w → Rel cx s' a w

def Lift (cx : Cx) (Q : Exit → St → Prop) : Exit → Act → World → Prop := fun e a w => ∃ s, Q e s ∧ Rel cx s a w

def AWp (P : Program) (cx : Cx) (c : Code) (Q : Exit → St → Prop) (s : St) : Prop := ∀ a w, Rel cx s a w → c.wp P (Lift cx Q) a w

section rules
variable {P : Program} {τ : TyTab} {cx : Cx} {Q : Exit → St → Prop} {s : St}

theorem AWp.mono {c : Code} {Q' : Exit → St → Prop} (h : AWp P cx c Q s) (hq : ∀ e s, Q e s → Q' e s) : AWp P cx c Q' s :=
  fun a w r => wp_mono (h a w r) fun e a w ⟨s', h1, h2⟩ => ⟨s', hq _ _ h1, h2⟩

theorem awp_wk {c : Code} {s' : St} (hw : Wk cx s s') (h : AWp P cx c Q s') : AWp P cx c Q s := fun a w r => h a w (hw a w r)

theorem awp_skip (h : Q .normal s) : AWp P cx .skip Q s := fun a w r => wp_skip ⟨s, h, r⟩
theorem awp_exit {id : Nat} (h : Q (.exit id) s) : AWp P cx (.exit id) Q s := fun a w r => wp_exit ⟨s, h, r⟩
theorem awp_ret (h : Q .ret s) : AWp P cx .ret Q s := fun a w r => wp_ret ⟨s, h, r⟩

/-- Behind the first part: the second. -/
def Then (Q : Exit → St → Prop) (K : St → Prop) : Exit → St → Prop
  | .normal, s => K s
  | e, s => Q e s

theorem awp_seq {c d : Code} (h : AWp P cx c (Then Q (AWp P cx d Q)) s) : AWp P cx (.seq c d) Q s := by
  intro a w r
  refine wp_seq (wp_mono (h a w r) ?_)
  rintro e a w ⟨s', h1, h2⟩
  cases e <;> first | exact h1 a w h2 | exact ⟨s', h1, h2⟩

def InBlock (id : Nat) (Q : Exit → St → Prop) : Exit → St → Prop
  | .exit i, s => if i = id then Q .normal s else Q (.exit i) s
  | e, s => Q e s

theorem awp_block {id : Nat} {c : Code} (h : AWp P cx c (InBlock id Q) s) : AWp P cx (.block id c) Q s := by
  intro a w r
  refine wp_block (wp_mono (h a w r) ?_)
  rintro e a w ⟨s', h1, h2⟩
  cases e with
  | exit i =>
    simp only [InBlock] at h1
    simp only [Exit.inBlock]
    split <;> rename_i hi
    · rw [if_pos hi] at h1; exact ⟨s', h1, h2⟩
    · rw [if_neg hi] at h1; exact ⟨s', h1, h2⟩
  | _ => exact ⟨s', h1, h2⟩

theorem Rel.ev {a : Act} {w : World} {E : Env} (h : ∀ t, Rep E (s.get t) (a.tmps.getD t undef)) (x : Operand) : Rep E (s.ev x) (a.eval x) := by
  cases x with
  | tmp t => exact h t
  | const v => exact vconst_rep v
  | global g => exact .any _
  | func f => exact .fn rfl rfl (fun j hj => by simp at hj) (fun j hj => by simp at hj)

theorem awp_cond {x : Operand} {c d : Code} {b : Bool} (hb : s.ev x = .d .bool b) (ht : b = true → AWp P cx c Q s) (hf : b = false → AWp P cx d Q s) : AWp P cx (.cond x c d) Q s := by
  intro a w r
  obtain ⟨E, h1, h2, h3, h4, h5, h6⟩ := id r
  have := Rel.ev (w := w) h6 x
  rw [hb] at this
  exact wp_cond_split this.bool_inv (fun e => ht e a w r) (fun e => hf e a w r)

theorem least_of {D : Nat → Prop} (h : ∃ n, D n) : ∃ n, D n ∧ ∀ m, D m → n ≤ m := by
  obtain ⟨n, hn⟩ := h
  induction n using Nat.strongRecOn with
  | _ n ih =>
    by_cases h : ∃ m, m < n ∧ D m
    · obtain ⟨m, h1, h2⟩ := h; exact ih m h1 h2
    · exact ⟨n, hn, fun m hm => Nat.le_of_not_lt fun hlt => h ⟨m, hlt, hm⟩⟩

open Classical in
/-- A loop: 'I n s' is what holds at a round's head; each round lowers n. -/
theorem awp_loop {c : Code} (I : Nat → St → Prop) {n : Nat} (h0 : I n s) (round : ∀ n s, I n s → AWp P cx c (Then Q fun s' => ∃ m, m < n ∧ ∃ s'', Wk cx s' s'' ∧ I m s'') s) : AWp P cx (.loop c) Q s := by
  intro a w r
  let D (a : Act) (w : World) (n : Nat) : Prop := ∃ s, I n s ∧ Rel cx s a w
  let μ (a : Act) (w : World) : Nat := if h : ∃ n, D a w n then Classical.choose (least_of h) else 0
  refine wp_loop (fun a w => ∃ n, D a w n) μ ⟨n, s, h0, r⟩ (fun a w hI => ?_)
  have hμ : μ a w = Classical.choose (least_of hI) := dif_pos hI
  obtain ⟨s1, h1, h2⟩ := (Classical.choose_spec (least_of hI)).1
  refine wp_mono (round _ s1 h1 a w h2) ?_
  rintro e a' w' ⟨s', h3, h4⟩
  cases e with
  | normal =>
    obtain ⟨m, hm, s'', hw, h5⟩ := h3
    have hD : ∃ n, D a' w' n := ⟨m, s'', h5, hw _ _ h4⟩
    refine ⟨hD, ?_⟩
    rw [hμ]
    refine Nat.lt_of_le_of_lt ?_ hm
    rw [show μ a' w' = Classical.choose (least_of hD) from dif_pos hD]
    exact (Classical.choose_spec (least_of hD)).2 m ⟨s'', h5, hw _ _ h4⟩
  | _ => exact ⟨s', h3, h4⟩

/-! ### Regions -/
def AOps (P : Program) (cx : Cx) (ops : Array Oper) (Q : Exit → St → Prop) (l : List Nat) (s : St) : Prop := ∀ a w, Rel cx s a w → wpOps P ops (Lift cx Q) l a w

theorem awp_region {id : Nat} {ops : Array Oper} (h : AOps P cx ops Q (List.range ops.size) s) : AWp P cx (.region id ops false) Q s :=
  fun a w r => wp_region (h a w r)

theorem aops_nil {ops : Array Oper} (h : Q .normal s) : AOps P cx ops Q [] s := fun a w r => ⟨s, h, r⟩
theorem aops_wk {ops : Array Oper} {l : List Nat} {s' : St} (hw : Wk cx s s') (h : AOps P cx ops Q l s') : AOps P cx ops Q l s := fun a w r => h a w (hw a w r)

/-- The state behind an operation: what it yields in its slot, the objects. -/
def St.after (s : St) (dst : Option Nat) (v : V) (objs : List Obj) : St :=
  match dst with
  | some d => { s with tmps := (d, v) :: s.tmps, objs }
  | none => { s with objs }

theorem look_cons (u t : Nat) (v : V) (l : List (Nat × V)) : look t ((u, v) :: l) = if u = t then v else look t l := by
  simp only [look]
  split
  · rename_i h; rw [if_pos (Nat.eq_of_beq_eq_true h)]
  · rename_i h; rw [if_neg (Nat.ne_of_beq_eq_false h)]

theorem getD_put {a : Act} {d t : Nat} {v : Value} (hd : d < a.tmps.size) : (a.put (some d) v).tmps.getD t undef = if d = t then v else a.tmps.getD t undef := by
  simp only [Act.put, Array.getD_eq_getD_getElem?, Array.getElem?_setIfInBounds]
  split
  · rename_i e; subst e; simp
  · rfl

/-- What is known behind a step. -/
theorem Rel.after {a : Act} {w : World} {E E' : Env} {dst : Option Nat} {v : V} {c : Value} {objs : List Obj} (hE : E.w = w) (hs : Step cx.E cx.imp E s.objs) (h4 : a.tmps.size = s.nt) (h5 : a.defers = cx.dfs)
    (h6 : ∀ t, Rep E (s.get t) (a.tmps.getD t undef)) (g : Good E' objs) (st : Step E s.objs E' objs) (r : Rep E' v c) (hd : ∀ d, dst = some d → d < s.nt) : Rel cx (s.after dst v objs) (a.put dst c) E'.w := by
  refine ⟨E', rfl, by cases dst <;> exact g, ?_, ?_, ?_, fun t => ?_⟩
  · cases dst <;> exact hs.trans st
  · cases dst <;> simp [St.after, Act.put, h4]
  · cases dst <;> exact h5
  · cases dst with
    | none => exact (h6 t).mono st.ext
    | some d =>
      rw [getD_put (by rw [h4]; exact hd d rfl)]
      show Rep E' (look t ((d, v) :: s.tmps)) _
      rw [look_cons]
      split
      · exact r
      · exact (h6 t).mono st.ext

/-- All obligations of a list. -/
def AllP : List Prop → Prop
  | [] => True
  | [p] => p
  | p :: l => p ∧ AllP l

theorem AllP.head {p : Prop} {l : List Prop} (h : AllP (p :: l)) : p := by cases l with | nil => exact h | cons q l => exact h.1
theorem AllP.tail {p : Prop} {l : List Prop} (h : AllP (p :: l)) : AllP l := by cases l with | nil => trivial | cons q l => exact h.2
theorem AllP.of {p : Prop} {l : List Prop} (h : p) (k : AllP l) : AllP (p :: l) := by cases l with | nil => exact h | cons q l => exact ⟨h, k⟩
theorem AllP.app : ∀ {l l' : List Prop}, AllP (l ++ l') → AllP l ∧ AllP l'
  | [], _, h => ⟨trivial, h⟩
  | p :: l, l', h => by
    have h1 := AllP.app (l := l) (l' := l') (AllP.tail h)
    exact ⟨.of (AllP.head (l := l ++ l') h) h1.1, h1.2⟩

/-- The value behind a guard. -/
def V.bare : V → V
  | .when _ v => v
  | v => v
def St.bare (s : St) : St := { s with tmps := s.tmps.map fun p => (p.1, p.2.bare) }

def condOf (s : St) : Operand → Option Bool
  | .tmp t => match s.get t with
    | .when q _ => some q
    | _ => none
  | _ => none

/-- Which guards the operands stand behind. -/
def condsOf (s : St) : List Operand → List Bool
  | [] => []
  | x :: l => match condOf s x with
    | some q => q :: condsOf s l
    | none => condsOf s l

def allT : List Bool → Prop → Prop
  | [], p => p
  | q :: l, p => q = true ∧ allT l p

/-- The obligation of a guarded operation. -/
def guardOb (g : Bool) : List Bool → Option Prop → Option Prop
  | [], none => none
  | qs, ob => some (g = true → allT qs (okP ob))

theorem allT_inv {p : Prop} : ∀ {l : List Bool}, allT l p → p ∧ ∀ q ∈ l, q = true
  | [], h => ⟨h, fun q hq => by simp at hq⟩
  | q :: l, h => by
    obtain ⟨h1, h2⟩ := allT_inv h.2
    exact ⟨h1, fun r hr => (List.mem_cons.1 hr).elim (fun e => e ▸ h.1) (h2 r)⟩

theorem guardOb_inv {g : Bool} {qs : List Bool} {ob : Option Prop} (h : okP (guardOb g qs ob)) (hg : g = true) : okP ob ∧ ∀ q ∈ qs, q = true := by
  cases qs with
  | nil => cases ob with
    | none => exact ⟨trivial, fun q hq => by simp at hq⟩
    | some p => exact allT_inv (l := []) (h hg)
  | cons q l => exact allT_inv (l := q :: l) (h hg)

theorem condsOf_mem {s : St} : ∀ {l : List Operand} {x : Operand}, x ∈ l → ∀ q, condOf s x = some q → q ∈ condsOf s l
  | y :: l, x, hx, q, hq => by
    rcases List.mem_cons.1 hx with rfl | hx
    · simp only [condsOf, hq]; exact List.mem_cons_self
    · have := condsOf_mem hx q hq
      simp only [condsOf]
      split
      · exact List.mem_cons_of_mem _ this
      · exact this

/-- Whether a guarded operation is carried out. -/
def guardOf (want : Bool) : V → Option Bool
  | .d .bool b => some (if want then b else !b)
  | .when q (.d .bool b) => some (q && (if want then b else !b))
  | _ => none

/-- Operations that make nothing and write nothing. -/
def quietOp : Op → Bool
  | .move _ | .assign _ | .pick .. | .load .. | .nilCheck _ | .binOp .. | .unOp .. | .convert .. | .fieldAddr .. | .indexAddr .. | .slice .. | .extract .. | .build .. | .makeFunc .. => true
  | .call { callee := .builtin .len, .. } => true
  | .call { callee := .builtin .min, .. } => true
  | .call { callee := .builtin .max, .. } => true
  | _ => false

def setTmp (s : St) (dst : Option Nat) (v : V) (objs : List Obj) : Option St :=
  match dst with
  | none => some { s with objs }
  | some d => if d < s.nt then some { s with tmps := (d, v) :: s.tmps, objs } else none

/-- One operation: the obligation, the state behind it. -/
def step1 (τ : TyTab) (hx : Bool) (ops : List Oper) (o : Oper) (s : St) : Option (Option Prop × St) :=
  match o.guard with
  | none => match eff τ hx o.op s with
    | none => none
    | some out => (setTmp s o.dst out.v out.objs).map fun s' => (out.ob, s')
  | some (j, want) => match (ops[j]?).bind (·.dst) with
    | none => none
    | some gd => match guardOf want (s.get gd), quietOp o.op, eff τ hx o.op s.bare with
      | some g, true, some out => (setTmp s o.dst (.when g out.v) s.objs).map fun s' => (guardOb g (condsOf s o.op.operands.toList) out.ob, s')
      | _, _, _ => none

theorem upon_ran {o : Oper} {a : Act} {E E' : Env} {n : Next} {v : Value} {K : Act → World → Prop} {R : Exit → Act → World → Prop}
    (h : (execOp a.eval o).run P E.w = .ok n E'.w) (hn : n = .value v ∨ (n = .skip ∧ v = undef)) (hk : K (a.put o.dst v) E'.w) : o.wp P a E.w K R := by
  unfold Oper.wp
  rw [h]
  rcases hn with rfl | ⟨rfl, rfl⟩
  · exact hk
  · exact hk

theorem setTmp_inv {dst : Option Nat} {v : V} {objs : List Obj} {s' : St} (h : setTmp s dst v objs = some s') : s' = s.after dst v objs ∧ ∀ d, dst = some d → d < s.nt := by
  unfold setTmp at h
  split at h
  · cases h; exact ⟨rfl, fun d e => by cases e⟩
  · split at h
    · rename_i hlt; cases h; exact ⟨rfl, fun d e => by cases e; exact hlt⟩
    · cases h

theorem look_bare (t : Nat) : ∀ l : List (Nat × V), look t (l.map fun p => (p.1, p.2.bare)) = (look t l).bare
  | [] => rfl
  | (u, v) :: l => by
    rw [List.map_cons, look_cons, look_cons]
    split
    · rfl
    · exact look_bare t l

theorem bare_rep {s : St} {E : Env} {x : Operand} {c : Value} (r : Rep E (s.ev x) c) (h : ∀ q, condOf s x = some q → q = true) : Rep E (s.bare.ev x) c := by
  cases x with
  | tmp t =>
    show Rep E (look t (s.tmps.map _)) c
    rw [look_bare]
    have h' : ∀ q v, s.get t = .when q v → q = true := fun q v e => h q (by simp [condOf, e])
    change Rep E (s.get t) c at r
    change Rep E (s.get t).bare c
    generalize s.get t = v at r h'
    cases v with
    | when q v => cases r with | when h1 h2 => exact h1 (h' q v rfl)
    | _ => exact r
  | _ => exact r

theorem quiet_objs {hx : Bool} {op : Op} {out : Out} (hq : quietOp op = true) (h : eff τ hx op s = some out) : out.objs = s.objs := by
  cases op <;> simp only [quietOp] at hq <;> try (cases hq; done)
  case call c =>
    obtain ⟨callee, args, tys⟩ := c
    cases callee <;> try (cases hq; done)
    rename_i b
    cases b <;> try (cases hq; done)
    case len =>
      simp only [eff, effBuiltin] at h
      split at h <;> simp_all
      unfold effLen at h
      repeat' split at h
      all_goals first | (cases h; done) | (cases h; rfl)
    case min =>
      simp only [eff, effBuiltin] at h
      split at h <;> simp_all
      unfold effMinMax at h
      repeat' split at h
      all_goals first | (cases h; done) | (cases h; rfl)
    case max =>
      simp only [eff, effBuiltin] at h
      split at h <;> simp_all
      unfold effMinMax at h
      repeat' split at h
      all_goals first | (cases h; done) | (cases h; rfl)
  all_goals simp only [eff] at h
  case move => cases h; rfl
  case assign => cases h; rfl
  case pick =>
    unfold effPick at h
    repeat' split at h
    all_goals first | (cases h; done) | (cases h; rfl)
  case load =>
    unfold effLoad at h
    repeat' split at h
    all_goals first | (cases h; done) | (simp only [Option.map_eq_some_iff] at h; obtain ⟨_, _, rfl⟩ := h; rfl)
  case nilCheck =>
    repeat' split at h
    all_goals first | (cases h; done) | (cases h; rfl)
  case binOp =>
    unfold effBin at h
    repeat' split at h
    all_goals first | (cases h; done) | (cases h; rfl) | (simp only [Option.map_eq_some_iff] at h; obtain ⟨_, _, rfl⟩ := h; rfl) | skip
    all_goals (simp only [] at h; repeat' split at h)
    all_goals first | (cases h; done) | (cases h; rfl)
  case unOp =>
    unfold effUn at h
    repeat' split at h
    all_goals first | (cases h; done) | (cases h; rfl)
  case convert =>
    unfold effConvert at h
    repeat' split at h
    all_goals first | (cases h; done) | (cases h; rfl)
  case fieldAddr =>
    unfold effFieldAddr at h
    repeat' split at h
    all_goals first | (cases h; done) | (cases h; rfl)
  case indexAddr =>
    unfold effIndexAddr at h
    repeat' split at h
    all_goals first | (cases h; done) | (cases h; rfl)
  case slice t x lo hi mx =>
    cases mx with
    | some _ => cases h
    | none =>
      simp only at h
      unfold effSlice at h
      repeat' split at h
      all_goals first | (cases h; done) | (cases h; rfl)
  case extract =>
    repeat' split at h
    all_goals first | (cases h; done) | (simp only [Option.map_eq_some_iff] at h; obtain ⟨_, _, rfl⟩ := h; rfl)
  case build =>
    unfold effBuild at h
    repeat' split at h
    all_goals first | (cases h; done) | (simp only [Option.map_eq_some_iff] at h; obtain ⟨_, _, rfl⟩ := h; rfl)
  case makeFunc => cases h; rfl

theorem step1_ok (hτ : TabOk P τ) {hx : Bool} {ops : Array Oper} {o : Oper} {ob : Option Prop} {s' : St} (h : step1 τ hx ops.toList o s = some (ob, s')) (ho : okP ob) {i : Nat} {l : List Nat} (hi : ops[i]? = some o)
    (hk : AOps P cx ops Q l s') : AOps P cx ops Q (i :: l) s := by
  intro a w r
  obtain ⟨E, rfl, h2, h3, h4, h5, h6⟩ := id r
  unfold step1 at h
  split at h
  · rename_i hg
    split at h
    · cases h
    · rename_i out hout
      have hw : Region.wanted o (yielded ops a.tmps) = true := by simp [Region.wanted, hg]
      simp only [Option.map_eq_some_iff, Prod.mk.injEq] at h
      obtain ⟨s1, hs, rfl, rfl⟩ := h
      obtain ⟨rfl, hd⟩ := setTmp_inv hs
      obtain ⟨E', n, v, k1, k2, k3, k4, k5⟩ := eff_ok hτ hout ho h2 (ρ := a.eval) (fun x _ => Rel.ev (w := E.w) h6 x) (fun v => rfl)
      simp only [wpOps, hi, hw, if_true]
      exact .inl (upon_ran k1 k2 (hk _ _ (Rel.after rfl h3 h4 h5 h6 k3 k4 k5 hd)))
  · rename_i j want hg
    split at h
    · cases h
    · rename_i gd hgd
      split at h
      · rename_i g out hgv hqo hout
        simp only [Option.map_eq_some_iff, Prod.mk.injEq] at h
        obtain ⟨s1, hs, rfl, rfl⟩ := h
        obtain ⟨rfl, hd⟩ := setTmp_inv hs
        have hgd' : (ops[j]?).bind (·.dst) = some gd := by simpa using hgd
        -- whether it is carried out
        have hwant : Region.wanted o (yielded ops a.tmps) = g := by
          have hy : yielded ops a.tmps j = match a.tmps[gd]? with | some (.bool b) => some b | _ => none := by
            unfold yielded; rw [hgd']; rfl
          have rg := h6 gd
          simp only [Region.wanted, hg, hy]
          have hget : a.tmps.getD gd undef = (a.tmps[gd]?).getD undef := by rw [Array.getD_eq_getD_getElem?]
          rw [hget] at rg
          unfold guardOf at hgv
          split at hgv
          · rename_i b e
            cases hgv
            rw [e] at rg
            have := rg.bool_inv
            cases hq : a.tmps[gd]? with
            | none => rw [hq] at this; cases this
            | some c => rw [hq] at this; simp at this; subst this; cases b <;> cases want <;> rfl
          · rename_i q b e
            cases hgv
            rw [e] at rg
            cases rg with
            | when k1 k2 =>
              cases q with
              | true =>
                have := (k1 rfl).bool_inv
                cases hq : a.tmps[gd]? with
                | none => rw [hq] at this; cases this
                | some c => rw [hq] at this; simp at this; subst this; cases b <;> cases want <;> rfl
              | false =>
                have := k2 rfl
                cases hq : a.tmps[gd]? with
                | none => rfl
                | some c => rw [hq] at this; simp at this; subst this; rfl
          · cases hgv
        cases g with
        | true =>
          obtain ⟨k0, kc⟩ := guardOb_inv ho rfl
          obtain ⟨E', n, v, k1, k2, k3, k4, k5⟩ := eff_ok (s := s.bare) hτ hout k0 h2 (ρ := a.eval) (fun x hx => bare_rep (Rel.ev (w := E.w) h6 x) (fun q hq => kc q (condsOf_mem (Array.mem_toList_iff.2 hx) q hq))) (fun v => rfl)
          have hobj := quiet_objs hqo hout
          rw [show s.bare.objs = s.objs from rfl] at hobj k4
          rw [hobj] at k3 k4
          simp only [wpOps, hi, hwant, if_true]
          exact .inl (upon_ran k1 k2 (hk _ _ (Rel.after rfl h3 h4 h5 h6 k3 k4 (.when (fun _ => k5) (fun e => by cases e)) hd)))
        | false =>
          simp only [wpOps, hi, hwant, Bool.false_eq_true, if_false]
          exact hk _ _ (Rel.after (c := undef) rfl h3 h4 h5 h6 h2 (.refl _ _) (.when (fun e => by cases e) (fun _ => rfl)) hd)
      · cases h

/-- Several operations, one behind the other; 'hx i': exact arithmetic at number i. -/
def runOps (τ : TyTab) (hx : Nat → Bool) (ops : List Oper) : List Nat → St → Option (List Prop × St)
  | [], s => some ([], s)
  | i :: l, s => match ops[i]? with
    | none => none
    | some o => match step1 τ (hx i) ops o s with
      | none => none
      | some (ob, s') => match runOps τ hx ops l s' with
        | none => none
        | some (obs, s'') => some (match ob with | none => obs | some p => p :: obs, s'')

theorem runOps_ok (hτ : TabOk P τ) {hx : Nat → Bool} {ops : Array Oper} : ∀ {l l' : List Nat} {s s' : St} {obs : List Prop}, runOps τ hx ops.toList l s = some (obs, s') → AllP obs → AOps P cx ops Q l' s' → AOps P cx ops Q (l ++ l') s
  | [], l', s, s', obs, h, _, hk => by simp only [runOps] at h; cases h; exact hk
  | i :: l, l', s, s', obs, h, ho, hk => by
    simp only [runOps] at h
    split at h
    · cases h
    · rename_i o hi
      split at h
      · cases h
      · rename_i ob1 s1 h1
        split at h
        · cases h
        · rename_i ob2 s2 h2
          cases h
          cases ob1 with
          | none => exact step1_ok hτ h1 trivial (by simpa using hi) (runOps_ok hτ h2 ho hk)
          | some p => exact step1_ok hτ h1 (AllP.head ho) (by simpa using hi) (runOps_ok hτ h2 (AllP.tail ho) hk)

/-- A whole region without a call. -/
theorem awp_run (hτ : TabOk P τ) {id : Nat} {ops : Array Oper} {hx : Nat → Bool} {s' s'' : St} {ob : List Prop} (h : runOps τ hx ops.toList (List.range ops.size) s = some (ob, s')) (ho : AllP ob) (hw : Wk cx s' s'') (hk : Q .normal s'') :
    AWp P cx (.region id ops false) Q s :=
  awp_region (by have := runOps_ok (cx := cx) (Q := Q) (l' := []) hτ h ho (aops_wk hw (aops_nil hk)); simpa using this)

/-! ### Saying less -/
theorem Wk.refl (s : St) : Wk cx s s := fun _ _ h => h
theorem Wk.trans {s s' s'' : St} (h : Wk cx s s') (k : Wk cx s' s'') : Wk cx s s'' := fun a w r => k a w (h a w r)

/-- Only these slots are remembered. -/
def St.keep (l : List Nat) (s : St) : St := { s with tmps := l.map fun t => (t, s.get t) }

theorem look_map (f : Nat → V) (t : Nat) : ∀ l : List Nat, look t (l.map fun t => (t, f t)) = f t ∨ look t (l.map fun t => (t, f t)) = .any
  | [] => .inr rfl
  | u :: l => by
    rw [List.map_cons, look_cons]
    split
    · rename_i e; subst e; exact .inl rfl
    · exact look_map f t l

theorem wk_keep (l : List Nat) (s : St) : Wk cx s (s.keep l) := by
  rintro a w ⟨E, h1, h2, h3, h4, h5, h6⟩
  refine ⟨E, h1, h2, h3, h4, h5, fun t => ?_⟩
  rcases look_map s.get t l with h | h
  · rw [show (s.keep l).get t = s.get t from h]; exact h6 t
  · rw [show (s.keep l).get t = .any from h]; exact .any _

end rules
end Go.Proofs.Ytlncingakpelbaa
