/- Part of a proof that a law of the program holds for every input: whole numbers as digits in base 65536, in plain Lean. No conditions. -/
import Derived.Test.YtlncingakpelbaaD0
namespace Go.Proofs.Ytlncingakpelbaa
open Go
set_option linter.unusedVariables false

/-! ## Digits, least first -/
/-- The value of digits. -/
def vl : List Int → Int
  | [] => 0
  | a :: l => a + 65536 * vl l
/-- All are digits. -/
def dig (l : List Int) : Prop := ∀ a ∈ l, 0 ≤ a ∧ a < 65536
/-- The digits of a number: no zero at the end. -/
def dg (n : Nat) : List Int := if h : n = 0 then [] else ((n % 65536 : Nat) : Int) :: dg (n / 65536)
termination_by n
decreasing_by omega
theorem dg_zero : dg 0 = [] := by rw [dg]; rfl
theorem dg_pos {n : Nat} (h : n ≠ 0) : dg n = ((n % 65536 : Nat) : Int) :: dg (n / 65536) := by rw [dg, dif_neg h]
/-- The digits of a number that is not negative. -/
def dz (x : Int) : List Int := dg x.toNat

theorem vl_nonneg : ∀ {l : List Int}, dig l → 0 ≤ vl l
  | [], _ => Int.le_refl 0
  | a :: l, h => by
    have h1 := h a List.mem_cons_self
    have h2 := vl_nonneg (l := l) fun b hb => h b (List.mem_cons_of_mem _ hb)
    simp only [vl]; omega
theorem vl_dg (n : Nat) : vl (dg n) = n := by
  induction n using Nat.strongRecOn with
  | ind n ih =>
    by_cases h : n = 0
    · subst h; rw [dg_zero]; rfl
    · rw [dg_pos h, vl, ih (n / 65536) (by omega)]; omega
theorem dig_dg (n : Nat) : dig (dg n) := by
  induction n using Nat.strongRecOn with
  | ind n ih =>
    by_cases h : n = 0
    · subst h; rw [dg_zero]; intro a ha; cases ha
    · rw [dg_pos h]
      intro a ha
      rcases List.mem_cons.1 ha with e | e
      · subst e; omega
      · exact ih (n / 65536) (by omega) a e
theorem vl_dz {x : Int} (h : 0 ≤ x) : vl (dz x) = x := by rw [dz, vl_dg]; omega
theorem dig_dz (x : Int) : dig (dz x) := dig_dg _
theorem dz_nil {x : Int} (h : 0 ≤ x) : dz x = [] ↔ x = 0 := by
  refine ⟨fun e => ?_, fun e => by subst e; exact dg_zero⟩
  have := vl_dz h; rw [e] at this; exact this.symm
theorem dz_neg {x : Int} (h : x ≤ 0) : dz x = [] := by
  have : x.toNat = 0 := by omega
  rw [dz, this, dg_zero]
theorem dz_pos {x : Int} (h : 0 < x) : dz x = x % 65536 :: dz (x / 65536) := by
  rw [dz, dg_pos (by omega), dz]
  congr 1
  · omega
  · congr 1; omega

theorem vl_append : ∀ (l m : List Int), vl (l ++ m) = vl l + 65536 ^ l.length * vl m
  | [], m => by simp [vl]
  | a :: l, m => by
    simp only [List.cons_append, vl, vl_append l m, List.length_cons, Int.pow_succ]
    generalize vl m = v
    generalize (65536 : Int) ^ l.length = p
    rw [Int.mul_add, Int.mul_comm p 65536, Int.mul_assoc]
    omega
theorem dig_append {l m : List Int} (h1 : dig l) (h2 : dig m) : dig (l ++ m) := fun a ha => by
  rcases List.mem_append.1 ha with e | e
  · exact h1 a e
  · exact h2 a e
theorem dig_sub {l m : List Int} (h : dig m) (hs : ∀ a ∈ l, a ∈ m) : dig l := fun a ha => h a (hs a ha)
theorem dig_nil : dig [] := fun a ha => by cases ha
theorem dig_one {a : Int} (h : 0 ≤ a) (h' : a < 65536) : dig [a] := fun b hb => by
  rw [List.mem_singleton] at hb; subst hb; exact ⟨h, h'⟩
theorem vl_lt : ∀ {l : List Int}, dig l → vl l < 65536 ^ l.length
  | [], _ => by simp [vl]
  | a :: l, h => by
    have h1 := h a List.mem_cons_self
    have h2 := vl_lt (l := l) fun b hb => h b (List.mem_cons_of_mem _ hb)
    simp only [vl, List.length_cons, Int.pow_succ]
    omega

/-- The digits of a value are those that one has, but for zeros at the end. -/
theorem dg_of : ∀ {l : List Int}, dig l → (l = [] ∨ l.getLast? ≠ some 0) → dz (vl l) = l
  | [], _, _ => dz_neg (Int.le_refl 0)
  | a :: l, h, hl => by
    have h1 := h a List.mem_cons_self
    have hd : dig l := fun b hb => h b (List.mem_cons_of_mem _ hb)
    have h2 := vl_nonneg hd
    have hl' : l = [] ∨ l.getLast? ≠ some 0 := by
      rcases hl with e | e
      · cases e
      · cases l with
        | nil => exact Or.inl rfl
        | cons b l => right; rw [List.getLast?_cons_cons] at e; exact e
    have ih := dg_of hd hl'
    have hpos : 0 < vl (a :: l) := by
      simp only [vl]
      by_cases e : vl l = 0
      · have hn : l = [] := by rw [e] at ih; rw [← ih]; exact dz_neg (Int.le_refl 0)
        subst hn
        rcases hl with e' | e'
        · cases e'
        · simp at e'; omega
      · omega
    rw [dz_pos hpos]
    simp only [vl]
    have e1 : (a + 65536 * vl l) % 65536 = a := by omega
    have e2 : (a + 65536 * vl l) / 65536 = vl l := by omega
    rw [e1, e2, ih]
theorem dz_last {x : Int} : dz x = [] ∨ (dz x).getLast? ≠ some 0 := by
  by_cases hx : x ≤ 0
  · exact Or.inl (dz_neg hx)
  · right
    have hx' : 0 < x := by omega
    generalize hn : x.toNat = n
    induction n using Nat.strongRecOn generalizing x with
    | ind n ih =>
      rw [dz_pos hx']
      by_cases e : x / 65536 = 0
      · rw [e, dz_neg (Int.le_refl 0)]
        simp; omega
      · have hp : 0 < x / 65536 := by omega
        have := ih (x / 65536).toNat (by omega) (by omega) hp rfl
        rw [dz_pos hp] at this ⊢
        rw [List.getLast?_cons_cons]; exact this
/-- Lists without a zero at the end. -/
def can (l : List Int) : Prop := dig l ∧ dz (vl l) = l
theorem can_dz (x : Int) : can (dz x) := ⟨dig_dz x, dg_of (dig_dz x) dz_last⟩
theorem can_nil : can [] := ⟨dig_nil, dz_neg (Int.le_refl 0)⟩
theorem can.nil_iff {l : List Int} (h : can l) : l = [] ↔ vl l = 0 := by
  refine ⟨fun e => by rw [e]; rfl, fun e => ?_⟩
  rw [← h.2, e]; exact dz_neg (Int.le_refl 0)

/-- Zeros at the end taken away. -/
def trimI (l : List Int) : List Int := dz (vl l)
theorem vl_snoc0 (l : List Int) : vl (l ++ [0]) = vl l := by rw [vl_append]; simp [vl]

/-- More digits: a greater number. -/
theorem dz_len {x : Int} {k : Nat} (h : 0 ≤ x) (hk : x < 65536 ^ k) : (dz x).length ≤ k := by
  induction k generalizing x with
  | zero => have : x = 0 := by simp at hk; omega
            subst this; rw [dz_neg (Int.le_refl 0)]; exact Nat.le_refl 0
  | succ k ih =>
    by_cases e : x = 0
    · subst e; rw [dz_neg (Int.le_refl 0)]; exact Nat.zero_le _
    · rw [dz_pos (by omega), List.length_cons]
      have := ih (x := x / 65536) (by omega) (by rw [Int.pow_succ] at hk; omega)
      omega
theorem can.len_lt {a b : List Int} (ha : can a) (hb : can b) (h : a.length < b.length) : vl a < vl b := by
  have h1 := vl_lt ha.1
  have h2 := vl_nonneg hb.1
  by_cases e : vl b < 65536 ^ a.length
  · have := dz_len h2 e
    rw [hb.2] at this; omega
  · omega
end Go.Proofs.Ytlncingakpelbaa
