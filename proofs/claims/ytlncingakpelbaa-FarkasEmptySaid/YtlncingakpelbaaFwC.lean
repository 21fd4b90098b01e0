/- Part of a proof that a law of the program holds for every input: how abstract states follow the program (part C). No conditions. -/
import Derived.Test.YtlncingakpelbaaFwB
namespace Go.Proofs.Ytlncingakpelbaa
open Go
set_option linter.unusedVariables false

/-! ## What a represented value is -/
section inv
variable {E : Env} {c : Value}
theorem Rep.int_inv {k : IntKind} {n : Int} (h : Rep E (.d (.int k) n) c) : c = .int k n := by
  cases h with | d h => simpa [Cells] using h
theorem Rep.bool_inv {b : Bool} (h : Rep E (.d .bool b) c) : c = .bool b := by
  cases h with | d h => simpa [Cells] using h
theorem Rep.str_inv {s : ByteArray} (h : Rep E (.d .str s) c) : c = .string s := by
  cases h with | d h => simpa [Cells] using h
theorem Rep.mk_int (k : IntKind) (n : Int) : Rep E (.d (.int k) n) (.int k n) := .d rfl
theorem Rep.mk_bool (b : Bool) : Rep E (.d .bool b) (.bool b) := .d rfl
theorem Rep.mk_str (s : ByteArray) : Rep E (.d .str s) (.string s) := .d rfl

theorem asInt_inv {v : V} {k : IntKind} {n : Int} (h : asInt v = some (k, n)) (r : Rep E v c) : c = .int k n := by
  unfold asInt at h
  split at h
  · simp only [Option.some.injEq, Prod.mk.injEq] at h
    obtain ⟨rfl, rfl⟩ := h
    exact r.int_inv
  · cases h
theorem asBool_inv {v : V} {b : Bool} (h : asBool v = some b) (r : Rep E v c) : c = .bool b := by
  unfold asBool at h
  split at h
  · cases h; exact r.bool_inv
  · cases h
theorem asStr_inv {v : V} {s : ByteArray} (h : asStr v = some s) (r : Rep E v c) : c = .string s := by
  unfold asStr at h
  split at h
  · cases h; exact r.str_inv
  · cases h
theorem asSl_inv {T : Ty} {v : V} {l : List T.den} (h : asSl T v = some l) (r : Rep E v c) : Cells E.w E.S (.sl T) l [c] := by
  unfold asSl at h
  split at h
  · split at h
    · rename_i ht
      subst ht
      cases h
      cases r with | d h => exact h
    · cases h
  · cases h
    cases r
    exact ⟨_, _, rfl, ⟨Nat.le_refl _, Nat.zero_le _⟩, fun h => absurd rfl h⟩
  · cases h

/-- A row of abstract cells stands for a row of values. -/
def Reps (E : Env) (vs : List V) (cs : List Value) : Prop := cs.length = vs.length ∧ ∀ j, j < vs.length → Rep E (vs.getD j .any) (cs.getD j undef)

theorem Reps.nil : Reps E [] [] := ⟨rfl, fun j h => absurd h (by simp)⟩
theorem Reps.cons {v : V} {vs : List V} {c : Value} {cs : List Value} (h : Rep E v c) (r : Reps E vs cs) : Reps E (v :: vs) (c :: cs) :=
  ⟨by simp [r.1], fun j hj => by cases j with | zero => simpa using h | succ j => simpa using r.2 j (by simpa using hj)⟩
theorem Reps.head {v : V} {vs : List V} {c : Value} {cs : List Value} (r : Reps E (v :: vs) (c :: cs)) : Rep E v c := by simpa using r.2 0 (by simp)
theorem Reps.tail {v : V} {vs : List V} {c : Value} {cs : List Value} (r : Reps E (v :: vs) (c :: cs)) : Reps E vs cs :=
  ⟨by simpa using r.1, fun j hj => by simpa using r.2 (j + 1) (by simpa using hj)⟩
theorem Reps.append {vs ws : List V} {cs ds : List Value} (h : Reps E vs cs) (k : Reps E ws ds) : Reps E (vs ++ ws) (cs ++ ds) := by
  induction vs generalizing cs with
  | nil =>
    have : cs = [] := List.eq_nil_of_length_eq_zero (by simpa using h.1)
    subst this; simpa using k
  | cons v vs ih =>
    cases cs with
    | nil => have := h.1; simp at this
    | cons c cs => exact .cons h.head (ih h.tail)
theorem Reps.take {vs : List V} {cs : List Value} (h : Reps E vs cs) (n : Nat) : Reps E (vs.take n) (cs.take n) := by
  induction vs generalizing cs n with
  | nil =>
    have : cs = [] := List.eq_nil_of_length_eq_zero (by simpa using h.1)
    subst this; simpa using h
  | cons v vs ih =>
    cases cs with
    | nil => have := h.1; simp at this
    | cons c cs => cases n with
      | zero => exact .nil
      | succ n => exact .cons h.head (ih h.tail n)
theorem Reps.drop {vs : List V} {cs : List Value} (h : Reps E vs cs) (n : Nat) : Reps E (vs.drop n) (cs.drop n) := by
  induction n generalizing vs cs with
  | zero => simpa using h
  | succ n ih =>
    cases vs with
    | nil =>
      have : cs = [] := List.eq_nil_of_length_eq_zero (by simpa using h.1)
      subst this; simpa using h
    | cons v vs => cases cs with
      | nil => have := h.1; simp at this
      | cons c cs => simpa using ih h.tail
theorem Reps.mono {E' : Env} (hx : Ext E E') {vs : List V} {cs : List Value} (h : Reps E vs cs) : Reps E' vs cs := ⟨h.1, fun j hj => (h.2 j hj).mono hx⟩

/-- The datum's leaves stand for the cells that hold it. -/
theorem flat_rep : ∀ {t : Ty} {x : t.den} {cs : List Value}, Cells E.w E.S t x cs → Reps E (flat t x) cs
  | .int _, _, _, h => by have h' := h; rw [show _ = _ from h] at h' ⊢; exact .cons (.d h') .nil
  | .bool, _, _, h => by have h' := h; rw [show _ = _ from h] at h' ⊢; exact .cons (.d h') .nil
  | .str, _, _, h => by have h' := h; rw [show _ = _ from h] at h' ⊢; exact .cons (.d h') .nil
  | .sl _, _, _, h => by
    have h' := h
    obtain ⟨a, c, rfl, _⟩ := h
    exact .cons (.d h') .nil
  | .pair _ _, _, _, ⟨c1, c2, h, h1, h2⟩ => by rw [h]; exact (flat_rep h1).append (flat_rep h2)
  | .unit, _, _, h => by rw [show _ = _ from h]; exact .nil

theorem pack_rep : ∀ {t : Ty} {vs : List V} {x : t.den} {cs : List Value}, pack t vs = some x → Reps E vs cs → Cells E.w E.S t x cs
  | .int k, vs, x, cs, h, r => by
    match vs, h with
    | [v], h =>
      match cs, r with
      | [], r => have := r.1; simp at this
      | [c], r =>
        simp only [pack] at h
        cases ha : asInt v with
        | none => simp [ha] at h
        | some p =>
          obtain ⟨k', n⟩ := p
          simp only [ha] at h
          split at h
          · rename_i hk; subst hk; cases h; rw [asInt_inv ha r.head]; rfl
          · cases h
      | _ :: _ :: _, r => have := r.1; simp at this
    | [], h => simp [pack] at h
    | _ :: _ :: _, h => simp [pack] at h
  | .bool, vs, x, cs, h, r => by
    match vs, h with
    | [v], h =>
      match cs, r with
      | [], r => have := r.1; simp at this
      | [c], r => simp only [pack] at h; rw [asBool_inv h r.head]; rfl
      | _ :: _ :: _, r => have := r.1; simp at this
    | [], h => simp [pack] at h
    | _ :: _ :: _, h => simp [pack] at h
  | .str, vs, x, cs, h, r => by
    match vs, h with
    | [v], h =>
      match cs, r with
      | [], r => have := r.1; simp at this
      | [c], r => simp only [pack] at h; rw [asStr_inv h r.head]; rfl
      | _ :: _ :: _, r => have := r.1; simp at this
    | [], h => simp [pack] at h
    | _ :: _ :: _, h => simp [pack] at h
  | .sl t, vs, x, cs, h, r => by
    match vs, h with
    | [v], h =>
      match cs, r with
      | [], r => have := r.1; simp at this
      | [c], r => simp only [pack] at h; exact asSl_inv h r.head
      | _ :: _ :: _, r => have := r.1; simp at this
    | [], h => simp [pack] at h
    | _ :: _ :: _, h => simp [pack] at h
  | .pair a b, vs, x, cs, h, r => by
    simp only [pack] at h
    split at h
    · rename_i p q hp hq
      cases h
      exact ⟨cs.take a.size, cs.drop a.size, (List.take_append_drop _ _).symm, pack_rep hp (r.take _), pack_rep hq (r.drop _)⟩
    · cases h
  | .unit, vs, x, cs, h, r => by
    match vs, h with
    | [], h => exact List.eq_nil_of_length_eq_zero (by simpa using r.1)
    | _ :: _, h => simp [pack] at h

theorem vconst_rep (c : Value) : Rep E (vconst c) c := by
  unfold vconst
  split
  · exact .mk_int _ _
  · exact .mk_bool _
  · exact .mk_str _
  · exact .nils _
  · exact .nilp
  · exact .nilf
  · exact .nilm
  · rename_i vs
    split
    · rename_i h
      exact .tup (by simpa using congrArg List.length h) (fun j hj => absurd hj (by simp))
    · exact .any _
  · exact .any _

theorem zeroV_reps (vs : List Value) : Reps E (zeroV vs) vs := by
  induction vs with
  | nil => exact .nil
  | cons v vs ih => exact .cons (vconst_rep v) ih

theorem solid_one : ∀ {v : V} {c : Value}, v.solid = true → Rep E v c → c.oneCell' = true
  | .any, _, h, _ => by simp [V.solid] at h
  | .when .., _, h, _ => by simp [V.solid] at h
  | .tup _, _, h, _ => by simp [V.solid] at h
  | .agg _, _, h, _ => by simp [V.solid] at h
  | .opt b v, c, h, r => by
    cases r with
    | opt h1 h2 =>
      cases b with
      | true => exact solid_one (by simpa [V.solid] using h) (h1 rfl)
      | false => rw [h2 rfl]; rfl
  | .d t x, c, _, r => by cases r with | d h => exact h.one c (by simp)
  | .nilp, c, _, r => by cases r; rfl
  | .nilf, c, _, r => by cases r; rfl
  | .nils, c, _, r => by cases r; rfl
  | .nilm, c, _, r => by cases r; rfl
  | .fn .., c, _, r => by cases r; rfl
  | .er _, c, _, r => by cases r; rfl
  | .ref .., c, _, r => by cases r; assumption
  | .rref .., c, _, r => by cases r; assumption
  | .osl .., c, _, r => by cases r; assumption
  | .osp .., c, _, r => by cases r; assumption
  | .map _, c, _, r => by cases r; assumption

theorem cells_of_one {c : Value} (h : c.oneCell' = true) : c.cells = #[c] := by
  cases c <;> simp [Value.oneCell'] at h <;> rfl

theorem scells_reps {v : V} {cs : List V} {c : Value} (h : v.scells = some cs) (r : Rep E v c) : Reps E cs c.cells.toList ∧ ∀ u ∈ c.cells.toList, u.oneCell' = true := by
  unfold V.scells at h
  split at h
  · split at h
    · rename_i ds hs
      cases h
      cases r with
      | agg h1 h2 =>
        rename_i a
        have hr : Reps E cs a.toList := ⟨by simpa using h1, fun j hj => by simpa [Array.getD_eq_getD_getElem?, List.getD_eq_getElem?_getD] using h2 j hj⟩
        refine ⟨hr, fun u hu => ?_⟩
        change u ∈ a.toList at hu
        obtain ⟨j, hj, rfl⟩ := List.getElem_of_mem hu
        have hj' : j < cs.length := by rw [← hr.1]; exact hj
        have := hr.2 j hj'
        simp only [List.getD_eq_getElem?_getD, List.getElem?_eq_getElem hj, List.getElem?_eq_getElem hj', Option.getD_some] at this
        exact solid_one (List.all_eq_true.1 hs _ (List.getElem_mem hj')) this
    · cases h
  · split at h
    · rename_i hs
      cases h
      have h1 := solid_one hs r
      rw [cells_of_one h1]
      refine ⟨.cons r .nil, fun u hu => ?_⟩
      simp at hu; subst hu; exact h1
    · cases h
end inv
end Go.Proofs.Ytlncingakpelbaa
