/- Part of a proof that a law of the program holds for every input: how abstract states follow the program (part O). No conditions. -/
import Derived.Test.YtlncingakpelbaaFwN
namespace Go.Proofs.Ytlncingakpelbaa
open Go
set_option linter.unusedVariables false

/-! ## The table of types -/
def zeroOf : Ty → List Value
  | .int k => [.int k 0]
  | .bool => [.bool false]
  | .str => [.string ByteArray.empty]
  | .sl _ => [.slice none 0 0]
  | .pair a b => zeroOf a ++ zeroOf b
  | .unit => []

theorem cells_dflt (w : World) (S : Nat → Prop) : ∀ T : Ty, Cells w S T T.dflt (zeroOf T)
  | .int _ => rfl
  | .bool => rfl
  | .str => rfl
  | .sl _ => ⟨none, 0, rfl, ⟨Nat.le_refl _, Nat.zero_le _⟩, fun h => absurd rfl h⟩
  | .pair a b => ⟨_, _, rfl, cells_dflt w S a, cells_dflt w S b⟩
  | .unit => rfl

def lookT (t : Nat) : List (Nat × TI) → Option TI
  | [] => none
  | (u, i) :: r => match Nat.beq u t with
    | true => some i
    | false => lookT t r

theorem tabOk_of {P : Program} {l : List (Nat × TI)} (h : ∀ p ∈ l, p.2.Ok P p.1) : TabOk P (fun t => lookT t l) := by
  intro t i ht
  induction l with
  | nil => simp [lookT] at ht
  | cons p l ih =>
    obtain ⟨u, j⟩ := p
    simp only [lookT] at ht
    split at ht
    · rename_i e
      cases ht
      have := Nat.eq_of_beq_eq_true e
      subst this
      exact h (u, i) (by simp)
    · exact ih (fun p hp => h p (by simp [hp])) ht

theorem TI.ok_mk {P : Program} {t : TypeId} {ti : TI} (h : (P.info? t).map (fun i => (i.size, i.bytes, i.zero.map fun z => (z.cells.toList, z.cells.size))) = some (ti.size, ti.bytes, some (ti.zero, ti.size)))
    (hk : match ti.k with
    | .int k => P.underlying t = some (.int k)
    | .bool => P.underlying t = some .bool
    | .str => P.underlying t = some .string
    | .sl e => P.underlying t = some (.slice e)
    | .arr n e => P.underlying t = some (.array n e)
    | .st offs => ∃ fs, P.underlying t = some (.struct fs) ∧ fs.toList.map (fun f => (f.offset, P.cellsOf f.type)) = offs ∧ ∀ p ∈ offs, p.2 ≠ 0
    | .ptr => ∃ e, P.underlying t = some (.pointer e)
    | .map k e => P.underlying t = some (.map k e)
    | .fn => ∃ ps rs v, P.underlying t = some (.func ps rs v)
    | .other => True) (hc : match ti.code with | some T => T.size = ti.size ∧ 0 < ti.size ∧ zeroOf T = ti.zero | none => True) : ti.Ok P t := by
  obtain ⟨k, size, bytes, zero, code⟩ := ti
  refine ⟨?_, hk, fun T hT => ?_⟩
  · simp only [Option.map_eq_some_iff, Prod.mk.injEq] at h
    obtain ⟨i, hi, h1, h2, h3⟩ := h
    obtain ⟨z, hz, h4, h5⟩ := h3
    exact ⟨i, z, hi, h1, h2, hz, h4, h5⟩
  · simp only at hT
    subst hT
    obtain ⟨h1, h2, h3⟩ := hc
    exact ⟨h1, h2, fun w S => by simp only at h3; rw [← h3]; exact cells_dflt w S T⟩

/-! ## Parts of a function's code, by a path -/
def subC : List Nat → Code → Code
  | [], c => c
  | 0 :: p, .seq a _ => subC p a
  | 1 :: p, .seq _ b => subC p b
  | 0 :: p, .cond _ a _ => subC p a
  | 1 :: p, .cond _ _ b => subC p b
  | 0 :: p, .block _ c => subC p c
  | 0 :: p, .loop c => subC p c
  | 0 :: p, .scope c => subC p c
  | 0 :: p, .rangeFunc _ _ a _ => subC p a
  | 1 :: p, .rangeFunc _ _ _ b => subC p b
  | _, _ => .skip

def bodyOf (f : Func) : Code := f.body.getD .skip

def regOps : Code → Array Oper
  | .region _ ops _ => ops
  | _ => #[]
def regId : Code → Nat
  | .region id _ _ => id
  | _ => 0

end Go.Proofs.Ytlncingakpelbaa
