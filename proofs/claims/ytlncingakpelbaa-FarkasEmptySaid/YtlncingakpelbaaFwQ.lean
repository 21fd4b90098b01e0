/- Part of a proof that a law of the program holds for every input: how abstract states follow the program (part Q). No conditions. -/
import Derived.Test.YtlncingakpelbaaFwP
namespace Go.Proofs.Ytlncingakpelbaa
open Go
set_option linter.unusedVariables false

/-! ## Operations and calls with a known result, in one -/
/-- The function answers r to vs and leaves every own object as it was. -/
def OkC (P : Program) (f : FuncId) (vs : List V) (r : V) : Prop := CallOk P f ∧ ∀ O, VCalls P f vs O (fun r' o => r' = r ∧ o = O)

/-- The same, beside these own objects only (the arguments may point at them). -/
def OkA (P : Program) (f : FuncId) (vs : List V) (O : List Obj) (r : V) : Prop := CallOk P f ∧ VCalls P f vs O (fun r' o => r' = r ∧ o = O)

def okCA (P : Program) (f : FuncId) (vs : List V) (O : List Obj) (r : V) : Bool → Prop
  | true => OkC P f vs r
  | false => OkA P f vs O r

theorem okCA_get {P : Program} {f : FuncId} {vs : List V} {O : List Obj} {r : V} {b : Bool} (h : okCA P f vs O r b) : OkA P f vs O r := by
  cases b with
  | true => exact ⟨h.1, h.2 O⟩
  | false => exact h

/-- The function answers with an own row. -/
def OkO (P : Program) (f : FuncId) (vs : List V) (T : Ty) (xs : List T.den) : Prop := CallOk P f ∧ ∀ O, VCalls P f vs O (fun r o => r = .osl O.length 0 ∧ o = O ++ [.row T xs 0])

/-- What a call yields: a datum, or an own row. -/
inductive Orc where
  | dat (r : V)
  | own (T : Ty) (xs : List T.den)

def isDat : Option Orc → Bool
  | some (.dat _) => true
  | _ => false

def lookV (t : Nat) : List (Nat × Orc) → Option Orc
  | [] => none
  | (u, v) :: r => match Nat.beq u t with
    | true => some v
    | false => lookV t r

/-- 'orc': what a call yields. -/
def opEff (P : Program) (τ : TyTab) (hx : Bool) (orc : Option Orc) (op : Op) (s : St) : Option Out :=
  match orc with
  | none => eff τ hx op s
  | some orc => match op with
    | .call ⟨.value x, args, _⟩ => match s.ev x with
      | .fn (.func f) fs cs => match orc with
        | .dat r => some ⟨some (okCA P f (fs ++ (args.toList.map s.ev ++ cs)) s.objs r (V.underL 0 (fs ++ (args.toList.map s.ev ++ cs)))), r, s.objs⟩
        | .own T xs => some ⟨some (OkO P f (fs ++ (args.toList.map s.ev ++ cs)) T xs), .osl s.objs.length 0, s.objs ++ [.row T xs 0]⟩
      | _ => none
    | _ => none

def opPick (s : St) (op : Op) : Option (Out × List Bool) :=
  match op with
  | .pick c a b => (effPick s.objs a b (s.bare.ev c) (s.ev a) (s.ev b)).map fun out => (out, condsOf s [c])
  | _ => none

/-- A literal behind a guard: stable from the start. -/
def opLit (τ : TyTab) (s : St) (op : Op) : Option Out :=
  match op with
  | .buildSlice t n parts => match objsBelow s.objs.length s.objs, effBuildSlice τ s.objs t n (parts.toList.map fun p => (p.1, s.ev p.2)) with
    | true, some out => match out.objs[s.objs.length]? with
      | some (.row T xs 0) => some ⟨out.ob, .d (.sl T) xs, s.objs⟩
      | _ => none
    | _, _ => none
  | _ => none

/-- One operation with its guard. -/
def opG (P : Program) (τ : TyTab) (hx : Bool) (orc : Option Orc) (ops : List Oper) (o : Oper) (s : St) : Option Out :=
  match o.guard with
  | none => opEff P τ hx orc o.op s
  | some (j, want) => match (ops[j]?).bind (·.dst) with
    | none => none
    | some gd => match guardOf want (s.get gd) with
      | none => none
      | some g => match opPick s o.op with
        | some (out, qs) => some ⟨guardOb g qs out.ob, .when g out.v, s.objs⟩
        | none => match opLit τ s.bare o.op with
        | some out => some ⟨guardOb g (condsOf s o.op.operands.toList) out.ob, .when g out.v, s.objs⟩
        | none => match (quietOp o.op || isDat orc), opEff P τ hx orc o.op s.bare with
          | true, some out => some ⟨guardOb g (condsOf s o.op.operands.toList) out.ob, .when g out.v, s.objs⟩
          | _, _ => none

/-- What was made is given up at once: it is stable from the start. -/
def birth (n : Nat) (out : Out) : Option Out :=
  match ghosts n [.freeze n, .cut n] ⟨1, [(0, out.v)], out.objs⟩ with
  | some s' => some ⟨out.ob, s'.get 0, s'.objs⟩
  | none => none

def opStep (P : Program) (τ : TyTab) (hx : Bool) (orc : Option Orc) (born : Bool) (ops : List Oper) (o : Oper) (s : St) : Option Out :=
  match born with
  | false => opG P τ hx orc ops o s
  | true => match opG P τ hx orc ops o s with
    | some out => birth s.objs.length out
    | none => none

variable {P : Program} {τ : TyTab} {cx : Cx} {Q : Exit → St → Prop} {s : St}

theorem opEff_wp (hτ : TabOk P τ) {hx : Bool} {orc : Option Orc} {o : Oper} {out : Out} (h : opEff P τ hx orc o.op s = some out) (ho : okP out.ob) {E : Env} {a : Act} (g : Good E s.objs)
    (hr : ∀ x ∈ o.op.operands, Rep E (s.ev x) (a.eval x)) {K : Act → World → Prop} {R : Exit → Act → World → Prop}
    (hk : ∀ E' c, Good E' out.objs → Step E s.objs E' out.objs → Rep E' out.v c → K (a.put o.dst c) E'.w) : o.wp P a E.w K R := by
  cases orc with
  | none =>
    obtain ⟨E', n, v, k1, k2, k3, k4, k5⟩ := eff_ok hτ h ho g (ρ := a.eval) hr (fun v => rfl)
    exact upon_ran k1 k2 (hk _ _ k3 k4 k5)
  | some orc =>
    simp only [opEff] at h
    split at h
    · rename_i x args tys hop
      split at h
      · rename_i f fs cs hx
        have rx := hr x (by rw [hop]; simp [Op.operands, Call.operands])
        rw [hx] at rx
        obtain ⟨p, q, hv, hp, hq'⟩ := fn_inv rx
        have hargs : Reps E (args.toList.map s.ev) (args.toList.map a.eval) := Reps.of_map fun y hy => hr y (by rw [hop]; simp only [Op.operands, Call.operands]; exact Array.mem_append.2 (.inr (Array.mem_toList_iff.1 hy)))
        cases orc with
        | dat r =>
          cases h
          obtain ⟨hc, hq⟩ := okCA_get ho
          unfold Oper.wp
          rw [call_run hop hc hv]
          rw [Oper.upon_enter]
          refine (hq E (p ++ args.map a.eval ++ q) g (by have := hp.append (hargs.append hq'); simpa using this)).mono ?_
          rintro e w ⟨v, E', r', objs, rfl, rfl, g', st, hr, rfl, rfl⟩
          exact hk E' v g' st hr
        | own T xs =>
          cases h
          obtain ⟨hc, hq⟩ := ho
          unfold Oper.wp
          rw [call_run hop hc hv]
          rw [Oper.upon_enter]
          refine (hq s.objs E (p ++ args.map a.eval ++ q) g (by have := hp.append (hargs.append hq'); simpa using this)).mono ?_
          rintro e w ⟨v, E', r', objs, rfl, rfl, g', st, hr, rfl, rfl⟩
          exact hk E' v g' st hr
      · cases h
    · cases h

theorem opEff_objs {hx : Bool} {orc : Option Orc} {op : Op} {out : Out} (hq : (quietOp op || isDat orc) = true) (h : opEff P τ hx orc op s = some out) : out.objs = s.objs := by
  cases orc with
  | none => exact quiet_objs (by simpa [isDat] using hq) h
  | some r =>
    cases r with
    | dat r =>
      simp only [opEff] at h
      repeat' split at h
      all_goals first | (cases h; done) | (cases h; rfl)
    | own T xs =>
      simp only [opEff] at h
      split at h
      · simp [isDat, quietOp] at hq
      · cases h

theorem wanted_guard {ops : Array Oper} {o : Oper} {j gd : Nat} {want g : Bool} {E : Env} {a : Act} (hg : o.guard = some (j, want)) (hgd : (ops[j]?).bind (·.dst) = some gd) (hgv : guardOf want (s.get gd) = some g)
    (h6 : ∀ t, Rep E (s.get t) (a.tmps.getD t undef)) : Region.wanted o (yielded ops a.tmps) = g := by
  have hy : yielded ops a.tmps j = match a.tmps[gd]? with | some (.bool b) => some b | _ => none := by
    unfold yielded; rw [hgd]; rfl
  have rg := h6 gd
  simp only [Region.wanted, hg, hy]
  have hget : a.tmps.getD gd undef = (a.tmps[gd]?).getD undef := by rw [Array.getD_eq_getD_getElem?]
  rw [hget] at rg
  unfold guardOf at hgv
  split at hgv
  · rename_i b e
    cases hgv
    rw [e] at rg
    have := rg.bool_inv
    cases hq : a.tmps[gd]? with
    | none => rw [hq] at this; cases this
    | some c => rw [hq] at this; simp at this; subst this; cases b <;> cases want <;> rfl
  · rename_i q b e
    cases hgv
    rw [e] at rg
    cases rg with
    | when k1 k2 =>
      cases q with
      | true =>
        have := (k1 rfl).bool_inv
        cases hq : a.tmps[gd]? with
        | none => rw [hq] at this; cases this
        | some c => rw [hq] at this; simp at this; subst this; cases b <;> cases want <;> rfl
      | false =>
        have := k2 rfl
        cases hq : a.tmps[gd]? with
        | none => rfl
        | some c => rw [hq] at this; simp at this; subst this; rfl
  · cases hgv

theorem bs_form {objs : List Obj} {t : TypeId} {n : Nat} {parts : List (Nat × V)} {out : Out} (h : effBuildSlice τ objs t n parts = some out) : ∃ T xs, out.v = .osl objs.length 0 ∧ out.objs = objs ++ [.row T xs 0] := by
  unfold effBuildSlice at h
  repeat' split at h
  all_goals first | (cases h; done) | (simp only [Option.map_eq_some_iff] at h; obtain ⟨xs, _, rfl⟩ := h; exact ⟨_, _, rfl, rfl⟩)

theorem lit_ok {E0 E : Env} {O : List Obj} {T : Ty} {xs : List T.den} {c : Value} (g0 : Good E0 O) (g : Good E (O ++ [.row T xs 0])) (st : Step E0 O E (O ++ [.row T xs 0])) (r : Rep E (.osl O.length 0) c) (hb : objsBelow O.length O = true) :
    ∃ E', E'.w = E.w ∧ Good E' O ∧ Step E0 O E' O ∧ Rep E' (.d (.sl T) xs) c := by
  have hl : (O ++ [Obj.row T xs 0])[O.length]? = some (.row T xs 0) := by simp
  obtain ⟨g1, st1⟩ := g.still hl
  have hat := g.at_ _ _ hl
  have hO : (O ++ [Obj.row T xs 0]).set O.length .dead = O ++ [.dead] := by simp
  rw [hO] at g1 st1
  have ht : (O ++ [Obj.dead]).take O.length = O := by simp
  have g2 := g1.cut (m := O.length) (by simp) (by rw [ht]; exact hb)
  have st2 := (st.trans st1).cut (m := O.length) (by rw [← g0.len]; exact Nat.le_refl _) (by simp)
  rw [ht] at g2 st2
  refine ⟨(E.still O.length ((Obj.row T xs 0).has (E.loc O.length))).cut O.length, rfl, g2, st2, ?_⟩
  have hc : c = (E.loc O.length).v := osl_inv r hat.1 rfl
  have : Rep (E.still O.length ((Obj.row T xs 0).has (E.loc O.length))) (.d (.sl T) xs) c := by
    rw [hc]
    exact .d (row_stable hat (fun b hb => .inl hb) (fun hh => .inr ⟨hh, rfl⟩))
  exact below_rep this rfl

theorem opLit_ok (hτ : TabOk P τ) {o : Oper} {out : Out} (h : opLit τ s o.op = some out) (ho : okP out.ob) {E : Env} {a : Act} (g : Good E s.objs)
    (hr : ∀ x ∈ o.op.operands, Rep E (s.ev x) (a.eval x)) {K : Act → World → Prop} {R : Exit → Act → World → Prop}
    (hk : ∀ E' c, Good E' s.objs → Step E s.objs E' s.objs → Rep E' out.v c → K (a.put o.dst c) E'.w) : o.wp P a E.w K R := by
  unfold opLit at h
  split at h
  · rename_i t n parts hop
    split at h
    · rename_i out' hb hout
      obtain ⟨T, xs, h1, h2⟩ := bs_form hout
      rw [h2] at h
      simp only [List.getElem?_append_right (Nat.le_refl _), Nat.sub_self, List.getElem?_cons_zero] at h
      cases h
      refine opEff_wp (s := s) (orc := none) hτ (out := out') (hx := true) (by rw [hop]; exact hout) ho g hr fun E' c g' st r => ?_
      rw [h2] at g' st
      rw [h1] at r
      obtain ⟨E'', k1, k2, k3, k4⟩ := lit_ok g g' st r hb
      rw [← k1]
      exact hk E'' c k2 k3 k4
    · cases h
  · cases h

theorem opG_ok (hτ : TabOk P τ) {hx : Bool} {orc : Option Orc} {ops : Array Oper} {o : Oper} {out : Out} (h : opG P τ hx orc ops.toList o s = some out) (ho : okP out.ob) {i : Nat} (hi : ops[i]? = some o) {E : Env} {a : Act}
    (g : Good E s.objs) (h6 : ∀ t, Rep E (s.get t) (a.tmps.getD t undef)) {K : Act → World → Prop} {R : Exit → Act → World → Prop}
    (hk : ∀ E' c, Good E' out.objs → Step E s.objs E' out.objs → Rep E' out.v c → K (a.put o.dst c) E'.w) : wpOp P ops R i K a E.w := by
  unfold opG at h
  split at h
  · rename_i hg
    have hw : Region.wanted o (yielded ops a.tmps) = true := by simp [Region.wanted, hg]
    simp only [wpOp, hi, hw, if_true]
    exact .inl (opEff_wp hτ h ho g (fun x _ => Rel.ev (w := E.w) h6 x) hk)
  · rename_i j want hg
    split at h
    · cases h
    · rename_i gd hgd
      split at h
      · cases h
      · rename_i g' hgv
        have hwant : Region.wanted o (yielded ops a.tmps) = g' := wanted_guard hg (by simpa using hgd) hgv h6
        split at h
        · rename_i out' qs hp
          cases h
          unfold opPick at hp
          split at hp
          · rename_i c x y hop
            simp only [Option.map_eq_some_iff, Prod.mk.injEq] at hp
            obtain ⟨out'', hp, rfl, rfl⟩ := hp
            have hobj : out''.objs = s.objs := by
              unfold effPick at hp
              repeat' split at hp
              all_goals first | (cases hp; done) | (cases hp; rfl)
            cases g' with
            | true =>
              obtain ⟨k0, kc⟩ := guardOb_inv ho rfl
              simp only [wpOp, hi, hwant, if_true]
              refine .inl ?_
              have hran : Ran P o a.eval E s.objs out'' := by
                have := effPick_ok (P := P) (c' := a.eval c) (x' := a.eval x) (y' := a.eval y) hp k0 g (bare_rep (Rel.ev (w := E.w) h6 c) (fun q hq => kc q (condsOf_mem (by simp) q hq))) (Rel.ev (w := E.w) h6 x) (Rel.ev (w := E.w) h6 y) (fun v e => by subst e; rfl) (fun v e => by subst e; rfl)
                exact this.ran (by simp [execOp, hop])
              obtain ⟨E', n, v, k1, k2, k3, k4, k5⟩ := hran
              rw [hobj] at k3 k4
              exact upon_ran k1 k2 (hk E' v k3 k4 (.when (fun _ => k5) (fun e => by cases e)))
            | false =>
              simp only [wpOp, hi, hwant, Bool.false_eq_true, if_false]
              exact hk E undef g (.refl _ _) (.when (fun e => by cases e) (fun _ => rfl))
          · cases hp
        · split at h
          · rename_i out' hl
            cases h
            cases g' with
            | true =>
              obtain ⟨k0, kc⟩ := guardOb_inv ho rfl
              simp only [wpOp, hi, hwant, if_true]
              exact .inl (opLit_ok (s := s.bare) hτ hl k0 g (fun x hx => bare_rep (Rel.ev (w := E.w) h6 x) (fun q hq => kc q (condsOf_mem (Array.mem_toList_iff.2 hx) q hq))) fun E' c g' st r => hk E' c g' st (.when (fun _ => r) (fun e => by cases e)))
            | false =>
              simp only [wpOp, hi, hwant, Bool.false_eq_true, if_false]
              exact hk E undef g (.refl _ _) (.when (fun e => by cases e) (fun _ => rfl))
          · split at h
            · rename_i out' hqo hout
              cases h
              have hobj : out'.objs = s.objs := opEff_objs (s := s.bare) hqo hout
              cases g' with
              | true =>
                obtain ⟨k0, kc⟩ := guardOb_inv ho rfl
                simp only [wpOp, hi, hwant, if_true]
                refine .inl (opEff_wp (s := s.bare) hτ hout k0 g (fun x hx => bare_rep (Rel.ev (w := E.w) h6 x) (fun q hq => kc q (condsOf_mem (Array.mem_toList_iff.2 hx) q hq))) fun E' c g' st r => ?_)
                rw [hobj] at g' st
                exact hk E' c g' st (.when (fun _ => r) (fun e => by cases e))
              | false =>
                simp only [wpOp, hi, hwant, Bool.false_eq_true, if_false]
                exact hk E undef g (.refl _ _) (.when (fun e => by cases e) (fun _ => rfl))
            · cases h

theorem birth_ok {n : Nat} {out out' : Out} (h : birth n out = some out') : out'.ob = out.ob ∧ ∀ (E E' : Env) (objs : List Obj) (c : Value), objs.length = n → Good E objs → Good E' out.objs → Step E objs E' out.objs → Rep E' out.v c →
    ∃ E'', E''.w = E'.w ∧ Good E'' out'.objs ∧ Step E objs E'' out'.objs ∧ Rep E'' out'.v c := by
  unfold birth at h
  split at h
  · rename_i s' hs
    cases h
    refine ⟨rfl, fun E E' objs c hn g0 g st r => ?_⟩
    have hr : Rel ⟨E, objs, []⟩ ⟨1, [(0, out.v)], out.objs⟩ ⟨#[c], []⟩ E'.w := ⟨E', rfl, g, st, rfl, rfl, fun t => by
      show Rep E' (look t [(0, out.v)]) _
      rw [look_cons]
      split
      · rename_i e; subst e; exact r
      · exact .any _⟩
    obtain ⟨E'', h1, h2, h3, _, _, h6⟩ := wk_ghosts (cx := ⟨E, objs, []⟩) (by rw [← hn]; exact g0.len.symm) hs _ _ hr
    exact ⟨E'', h1, h2, h3, h6 0⟩
  · cases h

theorem op_ok (hτ : TabOk P τ) {hx born : Bool} {orc : Option Orc} {ops : Array Oper} {o : Oper} {out : Out} (h : opStep P τ hx orc born ops.toList o s = some out) (ho : okP out.ob) {i : Nat} (hi : ops[i]? = some o) {E : Env} {a : Act}
    (g : Good E s.objs) (h6 : ∀ t, Rep E (s.get t) (a.tmps.getD t undef)) {K : Act → World → Prop} {R : Exit → Act → World → Prop}
    (hk : ∀ E' c, Good E' out.objs → Step E s.objs E' out.objs → Rep E' out.v c → K (a.put o.dst c) E'.w) : wpOp P ops R i K a E.w := by
  cases born with
  | false => exact opG_ok hτ h ho hi g h6 hk
  | true =>
    simp only [opStep] at h
    split at h
    · rename_i out' h1
      obtain ⟨e, hb⟩ := birth_ok h
      rw [e] at ho
      refine opG_ok hτ h1 ho hi g h6 fun E' c k1 k2 k3 => ?_
      obtain ⟨E'', h2, h3, h4, h5⟩ := hb E E' s.objs c rfl g k1 k2 k3
      rw [← h2]
      exact hk E'' c h3 h4 h5
    · cases h

theorem and_t {a b : Bool} (h : a = true) (k : b = true) : (a && b) = true := by rw [h, k]; rfl
theorem and_f {a b : Bool} (h : a = true) (k : b = false) : (a && !b) = true := by rw [h, k]; rfl
theorem bne_f {α : Type} [BEq α] [LawfulBEq α] {a b : α} (h : (a != b) = false) : a = b := bne_eq_false_iff_eq.mp h
theorem nn {b : Bool} (h : (!(!b)) = true) : b = true := by simpa using h
theorem nt {b : Bool} (h : (!b) = true) : b = false := by simpa using h
theorem nf {b : Bool} (h : (!b) = false) : b = true := by simpa using h
theorem not_f {b : Bool} (k : b = false) : (!b) = true := by rw [k]; rfl

/-- Operations one behind the other, calls with known results among them. -/
def runC (P : Program) (τ : TyTab) (hx : Nat → Bool) (orc : List (Nat × Orc)) (bn : List Nat) (ops : List Oper) : List Nat → St → Option (List Prop × St)
  | [], s => some ([], s)
  | i :: l, s => match ops[i]? with
    | none => none
    | some o => match opStep P τ (hx i) (lookV i orc) (elemN i bn) ops o s with
      | none => none
      | some out => match setTmp s o.dst out.v out.objs with
        | none => none
        | some s' => match runC P τ hx orc bn ops l s' with
          | none => none
          | some (obs, s'') => some (match out.ob with | none => obs | some p => p :: obs, s'')

theorem runC_ok (hτ : TabOk P τ) {hx : Nat → Bool} {orc : List (Nat × Orc)} {bn : List Nat} {ops : Array Oper} : ∀ {l l' : List Nat} {s s' : St} {obs : List Prop}, runC P τ hx orc bn ops.toList l s = some (obs, s') → AllP obs → AOps P cx ops Q l' s' → AOps P cx ops Q (l ++ l') s
  | [], l', s, s', obs, h, _, hk => by simp only [runC] at h; cases h; exact hk
  | i :: l, l', s, s', obs, h, ho, hk => by
    simp only [runC] at h
    split at h
    · cases h
    · rename_i o hi
      split at h
      · cases h
      · rename_i out h1
        split at h
        · cases h
        · rename_i s1 hs
          split at h
          · cases h
          · rename_i obs2 s2 h2
            cases h
            obtain ⟨rfl, hd⟩ := setTmp_inv hs
            have hb : okP out.ob ∧ AllP obs2 := by
              cases hob : out.ob with
              | none => rw [hob] at ho; exact ⟨trivial, ho⟩
              | some p => rw [hob] at ho; exact ⟨AllP.head ho, AllP.tail ho⟩
            have hrest := runC_ok hτ h2 hb.2 hk
            intro a w r
            obtain ⟨E, rfl, g2, g3, g4, g5, g6⟩ := id r
            show wpOps P ops (Lift cx Q) (i :: (l ++ l')) a E.w
            rw [wpOps_cons]
            exact op_ok hτ h1 hb.1 (by simpa using hi) g2 g6 fun E' c k1 k2 k3 => hrest _ _ (Rel.after rfl g3 g4 g5 g6 k1 k2 k3 hd)

def runCR (P : Program) (τ : TyTab) (wraps : List Nat) (orc : List (Nat × Orc)) (bn : List Nat) (c : Code) (live : List Nat) (s : St) : Option (List Prop × St) :=
  match c with
  | .region _ ops false => match runC P τ (fun i => !elemN i wraps) orc bn ops.toList (List.range ops.size) s with
    | some (obs, s') => some (obs, s'.keep live)
    | none => none
  | _ => none

theorem awp_rc (hτ : TabOk P τ) {c : Code} (live wraps : List Nat) (orc : List (Nat × Orc)) (bn : List Nat) (obs : List Prop) (s' : St) (h : runCR P τ wraps orc bn c live s = some (obs, s')) (ho : AllP obs) (hk : Q .normal s') : AWp P cx c Q s := by
  unfold runCR at h
  split at h
  · split at h
    · rename_i id ops obs' s1 h1
      cases h
      refine awp_region ?_
      have := runC_ok (cx := cx) (Q := Q) (l' := []) hτ h1 ho (aops_wk (wk_keep _ _) (aops_nil hk))
      simpa using this
    · cases h
  · cases h

def runCI (P : Program) (τ : TyTab) (wraps : List Nat) (orc : List (Nat × Orc)) (bn : List Nat) (ops : List Oper) (l : List Nat) (live : List Nat) (s : St) : Option (List Prop × St) :=
  match runC P τ (fun i => !elemN i wraps) orc bn ops l s with
  | some (obs, s') => some (obs, s'.keep live)
  | none => none

theorem aops_segc (hτ : TabOk P τ) {ops : Array Oper} {l : List Nat} (l1 l2 : List Nat) (hl : l = l1 ++ l2) (live wraps : List Nat) (orc : List (Nat × Orc)) (bn : List Nat) (obs : List Prop) (s' : St) (h : runCI P τ wraps orc bn ops.toList l1 live s = some (obs, s'))
    (ho : AllP obs) (hk : AOps P cx ops Q l2 s') : AOps P cx ops Q l s := by
  subst hl
  unfold runCI at h
  split at h
  · rename_i obs' s1 h1
    cases h
    exact runC_ok hτ h1 ho (aops_wk (wk_keep _ _) hk)
  · cases h

/-- From a contract without own objects. -/
theorem OkC.of {f : FuncId} {args : List V} {r : V} (hc : CallOk P f) (h : VCalls P f args [] fun r' o => r' = r ∧ o = []) (hu : V.underL 0 args = true) (hr : V.subst (ren [] 0) r = r) (hr' : ∀ n, V.subst (ren [] n) r = r) : OkC P f args r :=
  ⟨hc, h.plain hu hr hr'⟩

def nilL : List (Nat × List Nat × Ty) → List V → List V
  | [], l => l
  | (i, p, T) :: r, l => nilL r (l.modify i (V.nilAt p T))

theorem nilL_reps {E : Env} : ∀ {ps : List (Nat × List Nat × Ty)} {l : List V} {cs : List Value}, Reps E l cs → Reps E (nilL ps l) cs
  | [], _, _, h => h
  | (i, p, T) :: r, l, cs, h => by
    refine nilL_reps (ps := r) ⟨by rw [List.length_modify]; exact h.1, fun j hj => ?_⟩
    rw [List.length_modify] at hj
    have h1 := h.2 j hj
    rw [List.getD_eq_getElem?_getD] at h1 ⊢
    rw [List.getElem?_modify]
    rw [List.getElem?_eq_getElem hj] at h1 ⊢
    simp only [Option.getD_some, Option.map_eq_map, Option.map_some] at h1 ⊢
    split
    · exact nilAt_rep h1
    · exact h1

/-! ### Own objects lent to a function that answers with numbers -/
def lend1 (objs : List Obj) : V → Option V
  | .osl l v => match objs[l]? with
    | some (.row T xs ver) => if v = ver then some (.d (.sl T) xs) else none
    | _ => none
  | .ref l 0 off => match objs[l]? with
    | some (.box cs) => some (.er (cs.drop off))
    | _ => none
  | _ => none

def lend (objs : List Obj) : Nat → List V → List V
  | 0, l => l
  | n + 1, l => lend objs n (l.map (V.subst (lend1 objs)))

mutual
def V.plain : V → Bool
  | .d (.int _) _ | .d .bool _ | .d .str _ => true
  | .agg cs => V.plainL cs
  | .tup cs => V.plainL cs
  | _ => false
def V.plainL : List V → Bool
  | [] => true
  | v :: l => v.plain && V.plainL l
end

theorem plainL_getD : ∀ {l : List V}, V.plainL l = true → ∀ j, j < l.length → (l.getD j .any).plain = true
  | [], _, j, h => by simp at h
  | v :: l, h, j, hj => by
    simp only [V.plainL, Bool.and_eq_true] at h
    cases j with
    | zero => simpa using h.1
    | succ j => simpa using plainL_getD h.2 j (by simpa using hj)

theorem plain_rep {E E' : Env} {v : V} {c : Value} (r : Rep E v c) : v.plain = true → Rep E' v c := by
  induction r with
  | d hc =>
    rename_i t x v
    intro h
    cases t <;> simp only [V.plain] at h <;> first | (cases h; done) | exact .d hc
  | agg h1 h2 ih => intro h; exact .agg h1 fun j hj => ih j hj (plainL_getD h j hj)
  | tup h1 h2 ih => intro h; exact .tup h1 fun j hj => ih j hj (plainL_getD h j hj)
  | _ => intro h; simp [V.plain] at h

theorem lend1_rep {E : Env} {objs : List Obj} (hA : ∀ l o, objs[l]? = some o → ObjAt E l o) (hS : ∀ l o, objs[l]? = some o → o.has (E.loc l) → E.S (E.loc l).b) {v v' : V} {c : Value} (h : lend1 objs v = some v') (r : Rep E v c) : Rep E v' c := by
  unfold lend1 at h
  split at h
  · rename_i l v
    split at h
    · rename_i T xs ver ho
      split at h
      · rename_i hv
        cases h
        subst hv
        have hat := hA l _ ho
        rw [osl_inv r hat.1 rfl]
        exact .d (row_stable hat (fun b hb => hb) (fun hh => hS l _ ho hh))
      · cases h
    · cases h
  · rename_i l off
    split at h
    · rename_i cs ho
      cases h
      have hat := hA l _ ho
      have hp := ref_inv r hat.1 rfl
      obtain ⟨h1, vals, t, h2, h3, h4⟩ := hat
      subst hp
      refine .er (fun j => vals.getD (off + j) undef) (hS l _ ho trivial) (fun j hj => ?_) (fun j hj => ?_)
      · rw [List.length_drop] at hj
        simp only [World.cell?, h2]
        simp only [Array.getD_eq_getD_getElem?]
        rw [Array.getElem?_eq_getElem (by omega)]
        simp
      · rw [List.length_drop] at hj
        have := h4 (off + j) (by omega)
        simpa [List.getD_eq_getElem?_getD, List.getElem?_drop] using this
    · cases h
  · cases h

theorem lend_reps {E : Env} {objs : List Obj} (hA : ∀ l o, objs[l]? = some o → ObjAt E l o) (hS : ∀ l o, objs[l]? = some o → o.has (E.loc l) → E.S (E.loc l).b) {cs : List Value} : ∀ (n : Nat) {vs : List V}, Reps E vs cs → Reps E (lend objs n vs) cs
  | 0, _, h => h
  | n + 1, vs, h => lend_reps hA hS n ⟨by simpa using h.1, fun j hj => by
      rw [List.length_map] at hj
      have := h.2 j hj
      rw [List.getD_eq_getElem?_getD] at this ⊢
      rw [List.getElem?_map, List.getElem?_eq_getElem hj] at *
      exact subst_rep (.refl E) (fun v v' c h1 h2 => lend1_rep hA hS h1 h2) this⟩

theorem underL_reps {E : Env} {m : Nat} {vs : List V} {cs : List Value} (h : Reps E vs cs) (hu : V.underL m vs = true) : Reps (E.cut m) vs cs :=
  ⟨h.1, fun j hj => below_rep (h.2 j hj) (belowL_getD hu j hj)⟩

/-- The arguments point at own objects; the function only looks at them, and answers with numbers. -/
theorem OkC.lent {f : FuncId} {vs vs' : List V} {O : List Obj} {r : V} (n : Nat) (h : lend O n vs = vs') (hp : r.plain = true) (hu : V.underL 0 vs' = true) (k : OkC P f vs' r) : OkA P f vs O r := by
  refine ⟨k.1, fun E cargs g hr => ?_⟩
  let E1 : Env := ⟨E.w, fun b => E.S b ∨ ownB E O b, E.len, E.loc, E.ver⟩
  have hx : Ext E E1 := ⟨fun b hb => ⟨.inl hb, rfl⟩, Nat.le_refl _, fun l hl u hu => ⟨u, hu, Nat.le_refl _, fun _ => rfl⟩⟩
  have hA : ∀ l o, O[l]? = some o → ObjAt E1 l o := fun l o ho => (g.at_ l o ho).keep hx rfl rfl (fun _ => rfl)
  have hS : ∀ l o, O[l]? = some o → o.has (E1.loc l) → E1.S (E1.loc l).b := fun l o ho hh => .inr ⟨l, o, ho, hh, rfl⟩
  have h1 : Reps E1 vs' cargs.toList := h ▸ lend_reps hA hS n ⟨hr.1, fun j hj => (hr.2 j hj).mono hx⟩
  have g1 : Good (E1.cut 0) [] := ⟨rfl, fun l o h => by simp at h, fun b ⟨l, o, h, _⟩ => by simp at h, fun b hb => hb.elim (g.sl b) (fun hb => g.own_lt hb), fun i j p q h => by simp at h⟩
  refine (k.2 [] (E1.cut 0) cargs g1 (underL_reps h1 hu)).mono ?_
  rintro e w ⟨v, E', r', objs, rfl, rfl, g', st, hr', rfl, rfl⟩
  have hfr : ∀ b, b < E.w.heap.size → E'.w.heap[b]? = E.w.heap[b]? := fun b hb => st.frame b hb (fun ⟨l, o, h, _⟩ => by simp at h)
  let E2 : Env := ⟨E'.w, E.S, E.len, E.loc, E.ver⟩
  have hx2 : Ext E E2 := ⟨fun b hb => ⟨hb, hfr b (g.sl b hb)⟩, Nat.le_refl _, fun l hl u hu => ⟨u, hu, Nat.le_refl _, fun _ => rfl⟩⟩
  refine ⟨v, E2, r', O, rfl, rfl, ⟨g.len, fun l o ho => (g.at_ l o ho).keep hx2 rfl rfl (fun hh => hfr _ (g.own_lt ⟨l, o, ho, hh, rfl⟩)), g.ns, fun b hb => Nat.lt_of_lt_of_le (g.sl b hb) st.size, g.inj⟩,
    ⟨hx2, st.os, st.tape, st.output, st.size, fun b hb _ => hfr b hb, fun b hb => .inr hb, fun b hb => .inl hb⟩, plain_rep hr' hp, rfl, rfl⟩

/-- Empty slices among the arguments. -/
theorem OkC.nil {f : FuncId} {args args' : List V} {r : V} (ps : List (Nat × List Nat × Ty)) (h : nilL ps args = args') (k : OkC P f args' r) : OkC P f args r :=
  ⟨k.1, fun O E cargs g hr => k.2 O E cargs g (h ▸ nilL_reps hr)⟩

/-- A slice is compared with nil: all that is known is that a nil slice is empty. -/
def nilCmp (τ : TyTab) (ops : List Oper) (i : Nat) (s : St) : Option ((T : Ty) × List T.den × Nat × Bool) :=
  match ops[i]? with
  | some ⟨some d, .binOp op xt x (.const (.slice none 0 0)) _, _, _, _, none⟩ => match s.ev x, τ xt with
    | .d (.sl T) l, some ⟨.sl _, _, _, _, _⟩ => if d < s.nt then match op with
      | .eql => some ⟨T, l, d, true⟩
      | .neq => some ⟨T, l, d, false⟩
      | _ => none
      else none
    | _, _ => none
  | _ => none

theorem aops_nilcmp (hτ : TabOk P τ) {ops : Array Oper} {i d : Nat} {l : List Nat} {T : Ty} {xs : List T.den} {q : Bool} (h : nilCmp τ ops.toList i s = some ⟨T, xs, d, q⟩)
    (hk : ∀ b : Bool, (b = true → xs = []) → AOps P cx ops Q l ⟨s.nt, (d, vb (if q then b else !b)) :: s.tmps, s.objs⟩) : AOps P cx ops Q (i :: l) s := by
  unfold nilCmp at h
  split at h
  · rename_i d' op xt x yt ty po af hi
    split at h
    · rename_i T' l' e1 e2 e3 e4 e5 hx ht
      split at h
      · rename_i hd
        rintro a w ⟨E, rfl, g2, g3, g4, g5, g6⟩
        have ht' : P.underlying xt = some (.slice _) := (hτ xt _ ht).kind
        have rx := Rel.ev (w := E.w) g6 x
        rw [hx] at rx
        obtain ⟨c, hc⟩ : ∃ c, c = a.eval x := ⟨_, rfl⟩
        rw [← hc] at rx
        cases rx with
        | d hcells =>
          obtain ⟨p, cap, hv, _, hne⟩ := hcells
          simp only [List.cons.injEq, and_true] at hv
          have hempty : p.isNone = true → l' = [] := fun hp => by
            cases hl : l' with
            | nil => rfl
            | cons y ys =>
              obtain ⟨b, off, hb, _⟩ := hne (by rw [hl]; simp)
              rw [hb] at hp; cases hp
          have heq : ∀ w, (Op.equal xt (.slice p (List.length (α := T'.den) l') cap) (.slice none 0 0)).run P w = .ok p.isNone w := fun w =>
            equal_of fun d => by cases p <;> simp only [Op.equalIn, Sem.run_bind, run_underlying ht', Result.andThen_ok, Sem.run_pure, Option.isNone]
          have hi' : ops[i]? = some ⟨some d', .binOp op xt x (.const (.slice none 0 0)) yt, ty, po, af, none⟩ := by simpa using hi
          have key : ∀ (q : Bool), (execOp a.eval ⟨some d', .binOp op xt x (.const (.slice none 0 0)) yt, ty, po, af, none⟩).run P E.w = .ok (.value (.bool (if q then p.isNone else !p.isNone))) E.w →
              AOps P cx ops Q l ⟨s.nt, (d', vb (if q then p.isNone else !p.isNone)) :: s.tmps, s.objs⟩ → wpOps P ops (Lift cx Q) (i :: l) a E.w := by
            intro q hrun hA
            simp only [wpOps, hi', Region.wanted, if_true]
            exact .inl (upon_ran hrun (.inl rfl) (hA _ _ (Rel.after (s := s) (dst := some d') rfl g3 g4 g5 g6 g2 (.refl _ _) (.mk_bool _) (fun d e => by cases e; exact hd))))
          split at h
          · cases h
            refine key true ?_ (hk p.isNone hempty)
            simp [execOp, ← hc, hv, show a.eval (.const (.slice none 0 0)) = .slice none 0 0 from rfl, binOp, heq, eqGuard_run _ _ _ _ (show (Value.slice p (List.length (α := T.den) xs) cap).oneCell' = true from rfl) (by simp)]
          · cases h
            refine key false ?_ (hk p.isNone hempty)
            simp [execOp, ← hc, hv, show a.eval (.const (.slice none 0 0)) = .slice none 0 0 from rfl, binOp, heq, eqGuard_run _ _ _ _ (show (Value.slice p (List.length (α := T.den) xs) cap).oneCell' = true from rfl) (by simp)]
          · cases h
      · cases h
    · cases h
  · cases h

theorem OkO.of {f : FuncId} {args : List V} {T : Ty} {xs : List T.den} (hc : CallOk P f) (h : VCalls P f args [] fun r o => r = .osl 0 0 ∧ o = [.row T xs 0]) (hu : V.underL 0 args = true) : OkO P f args T xs :=
  ⟨hc, fun O => (h.beside hu O).mono fun r o ⟨r1, o1, ⟨e1, e2⟩, h1, h2⟩ => by subst e1 e2; exact ⟨by rw [h1]; simp [V.subst, ren, renId], by rw [h2]; rfl⟩⟩

theorem OkO.nil {f : FuncId} {args args' : List V} {T : Ty} {xs : List T.den} (ps : List (Nat × List Nat × Ty)) (h : nilL ps args = args') (k : OkO P f args' T xs) : OkO P f args T xs :=
  ⟨k.1, fun O E cargs g hr => k.2 O E cargs g (h ▸ nilL_reps hr)⟩

/-! ## The ways through -/
theorem then_n {K : St → Prop} (h : K s) : Then Q K .normal s := h
theorem then_x {K : St → Prop} {i : Nat} (h : Q (.exit i) s) : Then Q K (.exit i) s := h
theorem then_r {K : St → Prop} (h : Q .ret s) : Then Q K .ret s := h
theorem blk_n {i : Nat} (h : Q .normal s) : InBlock i Q .normal s := h
theorem blk_r {i : Nat} (h : Q .ret s) : InBlock i Q .ret s := h
theorem blk_h {i : Nat} (h : Q .normal s) : InBlock i Q (.exit i) s := by simp only [InBlock, if_true]; exact h
theorem blk_x {i j : Nat} (hj : j ≠ i) (h : Q (.exit j) s) : InBlock i Q (.exit j) s := by simp only [InBlock, if_neg hj]; exact h

/-- Codes one behind the other. -/
def spine (c : Code) : List Code → Code
  | [] => c
  | d :: l => spine (.seq c d) l

def SpineK (P : Program) (cx : Cx) (Q : Exit → St → Prop) : List Code → St → Prop
  | [] => Q .normal
  | d :: l => fun s => AWp P cx d (Then Q (SpineK P cx Q l)) s

theorem awp_spine : ∀ {l : List Code} {c : Code} {s : St}, AWp P cx c (Then Q (SpineK P cx Q l)) s → AWp P cx (spine c l) Q s
  | [], c, s, h => h.mono fun e s h => by cases e <;> exact h
  | d :: l, c, s, h => awp_spine (l := l) (awp_seq (h.mono fun e s h => by cases e <;> exact h))

theorem spine_c {d : Code} {l : List Code} (h : AWp P cx d (Then Q (SpineK P cx Q l)) s) : SpineK P cx Q (d :: l) s := h
theorem spine_e (h : Q .normal s) : SpineK P cx Q [] s := h

/-- Where several ways meet: what holds there is said once. -/
theorem awp_meet {c : Code} {K : St → Prop} (J : St → Prop) (h : AWp P cx c (Then Q J) s) (hk : ∀ s, J s → K s) : AWp P cx c (Then Q K) s :=
  h.mono fun e s h => by cases e <;> first | exact hk s h | exact h

theorem awp_abs {α : Type} {c : Code} (S : α → St) (e : α) (h : ∀ x, x = e → AWp P cx c Q (S x)) : AWp P cx c Q (S e) := h e rfl
theorem spine_abs {α : Type} {l : List Code} (S : α → St) (e : α) (h : ∀ x, x = e → SpineK P cx Q l (S x)) : SpineK P cx Q l (S e) := h e rfl

theorem awp_loopN {c : Code} (I : Nat → St → Prop) {n : Nat} {s0 : St} (hw : Wk cx s s0) (h0 : I n s0) (round : ∀ n s, I n s → AWp P cx c (Then Q fun s' => ∃ m, m < n ∧ ∃ s'', Wk cx s' s'' ∧ I m s'') s) : AWp P cx (.loop c) Q s :=
  awp_wk hw (awp_loop I h0 round)

theorem awp_condT {x : Operand} {c d : Code} (hb : s.ev x = .d .bool true) (ht : AWp P cx c Q s) : AWp P cx (.cond x c d) Q s := awp_cond hb (fun _ => ht) (fun h => by cases h)
theorem awp_condF {x : Operand} {c d : Code} (hb : s.ev x = .d .bool false) (hf : AWp P cx d Q s) : AWp P cx (.cond x c d) Q s := awp_cond hb (fun h => by cases h) (fun _ => hf)

/-- A part of a value. -/
def leafAt : List Nat → V → V
  | [], v => v
  | i :: p, .agg cs => leafAt p (cs.getD i .any)
  | i :: p, .tup cs => leafAt p (cs.getD i .any)
  | i :: p, .er cs => leafAt p (cs.getD i .any)
  | _ :: _, _ => .any

theorem leafAt_rep {E : Env} : ∀ {p : List Nat} {v : V} {c : Value}, Rep E v c → ∃ c', Rep E (leafAt p v) c'
  | [], v, c, r => ⟨c, r⟩
  | i :: p, v, c, r => by
    have hm : ∀ {cs : List V} {f : Nat → Value}, (∀ j, j < cs.length → Rep E (cs.getD j .any) (f j)) → ∃ c', Rep E (leafAt p (cs.getD i .any)) c' := by
      intro cs f h
      by_cases hi : i < cs.length
      · exact leafAt_rep (h i hi)
      · rw [List.getD_eq_getElem?_getD, List.getElem?_eq_none (by omega)]
        exact leafAt_rep (Rep.any undef)
    cases r <;> simp only [leafAt] <;> first
      | (rename_i h1 h2; exact hm h2)
      | (rename_i h1 h2 h3; exact hm h3)
      | exact ⟨undef, .any _⟩

/-- A list in memory is not longer than what may be. -/
theorem awp_len {c : Code} (t : Nat) (p : List Nat) {T : Ty} {l : List T.den} (h : leafAt p (s.get t) = .d (.sl T) l) (hk : l.length ≤ 9223372036854775807 → AWp P cx c Q s) : AWp P cx c Q s := by
  intro a w r
  refine hk ?_ a w r
  obtain ⟨E, _, _, _, _, _, g6⟩ := r
  obtain ⟨c', r⟩ := leafAt_rep (p := p) (g6 t)
  rw [h] at r
  cases r with
  | d hc =>
    obtain ⟨_, cap, _, ⟨h1, h2⟩, _⟩ := hc
    exact Nat.le_trans h1 h2

/-- At the end, weakened. -/
def RetW (cx : Cx) (τ : TyTab) (fn : Func) (imp : Nat) (Q : V → List Obj → Prop) (e : Exit) (s : St) : Prop := ∃ s', Wk cx s s' ∧ RetQ τ fn imp Q e s'

theorem vcalls_body (hτ : TabOk P τ) {f : FuncId} {fn : Func} {c : Code} {args : List V} {imp : List Obj} {Q : V → List Obj → Prop} (hf : P.funcs[f]? = some fn) (hb : fn.body = some c)
    (hn : args.length ≤ fn.ntmps) (h : ∀ cx : Cx, cx.dfs = [] → cx.imp = imp → cx.E.len = imp.length → AWp P cx c (RetW cx τ fn imp.length Q) ⟨fn.ntmps, argTmps 0 args, imp⟩) : VCalls P f args imp Q :=
  vcalls_of_body hτ hf hb hn fun cx h0 h1 h2 a w r => wp_mono (h cx h0 h1 h2 a w r) fun e a w ⟨s, ⟨s', hw, hq⟩, hr⟩ => ⟨s', hq, hw a w hr⟩

theorem ret_r {fn : Func} {k m : Nat} {Q : V → List Obj → Prop} {s : St} {r : V} {objs : List Obj} (hE : cx.E.len = k) (l : List Gh) (s' : St) (hg : ghosts k l s = some s') (h : finish τ fn m s' = some (r, objs)) (hk : k ≤ objs.length) (hq : Q r objs) : RetW cx τ fn k Q .ret s := ⟨s', wk_ghosts hE hg, ret_ok h hk hq⟩
theorem ret_n {fn : Func} {k m : Nat} {Q : V → List Obj → Prop} {s : St} {r : V} {objs : List Obj} (hE : cx.E.len = k) (l : List Gh) (s' : St) (hg : ghosts k l s = some s') (h : finish τ fn m s' = some (r, objs)) (hk : k ≤ objs.length) (hq : Q r objs) : RetW cx τ fn k Q .normal s := ⟨s', wk_ghosts hE hg, ret_ok h hk hq⟩
end Go.Proofs.Ytlncingakpelbaa
