/- Part of a proof that a law of the program holds for every input: the rational point satisfies all rows, in plain Lean. No conditions. -/
import Derived.Test.YtlncingakpelbaaSL2
namespace Go.Proofs.Ytlncingakpelbaa
open Go
set_option linter.unusedVariables false

/-- The value of a row at a point, times its denominator. -/
def rowS (a : farkas_point) (n : Int) (r : farkas_row) : Int := gI r.2 n * a.2 + dotI r.2 a.1
def holdsR (a : farkas_point) (n : Int) (r : farkas_row) : Prop := (r.1 = true → rowS a n r = 0) ∧ 0 ≤ rowS a n r
theorem rowS_mul {a : farkas_point} {n g : Int} {r o : farkas_row} (h : r.2 = o.2.map fun x => g * x) : rowS a n r = g * rowS a n o := by
  unfold rowS; rw [h, gI_map_mul, dotI_mulL]; grind
theorem holds_reduced {a : farkas_point} {n : Int} {r : farkas_row} (h : holdsR a n (farkas_row_reduced.fn r)) : holdsR a n r := by
  obtain ⟨g, hg, hr, he⟩ := reduced_mul r
  unfold holdsR at h ⊢
  rw [rowS_mul hr, ← he]
  exact ⟨fun h1 => by rw [h.1 h1]; simp, Int.mul_nonneg (by omega) h.2⟩
theorem rowS_take {a : farkas_point} {n : Int} {r o : farkas_row} (hn : 0 ≤ n) (ha : (a.1.length : Int) ≤ n) (h : r.2.take (Int.toNat (n + 1)) = o.2.take (Int.toNat (n + 1))) : rowS a n r = rowS a n o := by
  have e1 : ∀ x : farkas_row, gI x.2 n = (x.2.take (Int.toNat (n + 1))).getD n.toNat 0 := fun x => by
    simp only [List.getD_eq_getElem?_getD, List.getElem?_take]; rw [if_pos (by omega)]
  have e2 : ∀ x : farkas_row, dotI x.2 a.1 = dotI (x.2.take (Int.toNat (n + 1))) a.1 := fun x => by
    rw [← dotI_take x.2, ← dotI_take (x.2.take (Int.toNat (n + 1))), List.take_take, Nat.min_eq_left (by omega)]
  unfold rowS; rw [e1 r, e2 r, h, ← e1 o, ← e2 o]
theorem holds_list {a : farkas_point} {n : Int} {l : List farkas_row} (hn : 0 ≤ n) (ha : (a.1.length : Int) ≤ n) (h : ∀ r ∈ dedupR n l, holdsR a n r) : ∀ r ∈ l, holdsR a n r := by
  intro r hr
  obtain ⟨j, hj, rfl⟩ := List.getElem_of_mem hr
  have e : l[j] = l.getD j d_farkas_row := by simp [List.getD_eq_getElem?_getD, hj]
  rw [e]
  obtain ⟨o, ho, h1, h2⟩ := dedup_has (n := n) l l.length (Nat.le_refl _) j hj
  rw [List.take_of_length_le (Nat.le_refl _)] at ho
  have := h o ho
  refine holds_reduced ?_
  unfold holdsR at this ⊢
  rw [← rowS_take hn ha h2, ← h1]; exact this

/-! ## Which value is chosen -/
def fle (x y : farkas_fraction) : Prop := x.1 * y.2 ≤ y.1 * x.2
theorem fle_refl (x : farkas_fraction) : fle x x := Int.le_refl _
theorem fle_trans {x y z : farkas_fraction} (hx : 1 ≤ x.2) (hy : 1 ≤ y.2) (hz : 1 ≤ z.2) (h1 : fle x y) (h2 : fle y z) : fle x z := by
  unfold fle at *
  have a1 := Int.mul_le_mul_of_nonneg_right h1 (show 0 ≤ z.2 by omega)
  have a2 := Int.mul_le_mul_of_nonneg_right h2 (show 0 ≤ x.2 by omega)
  have : y.2 * (x.1 * z.2) ≤ y.2 * (z.1 * x.2) := by
    have e1 : y.2 * (x.1 * z.2) = x.1 * y.2 * z.2 := by grind
    have e2 : y.1 * x.2 * z.2 = y.1 * z.2 * x.2 := by grind
    have e3 : y.2 * (z.1 * x.2) = z.1 * y.2 * x.2 := by grind
    omega
  exact Int.le_of_mul_le_mul_left this (by omega)
theorem less_fle {x y : farkas_fraction} : (farkas_fraction_less.fn x y = true → fle x y) ∧ (farkas_fraction_less.fn x y = false → fle y x) := by
  unfold farkas_fraction_less.fn fle
  simp only [decide_eq_true_eq, decide_eq_false_iff_not]
  exact ⟨fun h => by omega, fun h => by omega⟩

section
variable (a : farkas_point) (n : Int)
/-- The coefficient of the next variable, and the bound that a row gives. -/
abbrev cf (r : farkas_row) : Int := gI r.2 a.1.length
abbrev bd (r : farkas_row) : farkas_fraction := farkas_point_bound.fn a r n
theorem bd_eq {r : farkas_row} (h0 : cf a r ≠ 0) : (bd a n r).1 * cf a r = -(rowS a n r * (bd a n r).2) ∧ (bd a n r).2 = (if cf a r < 0 then -(cf a r) else cf a r) := by
  unfold bd farkas_point_bound.fn rowS
  by_cases h : gI r.2 a.1.length < 0
  · rw [if_pos h, if_pos h]; exact ⟨by simp only []; grind, rfl⟩
  · rw [if_neg h, if_neg h]; exact ⟨by simp only []; grind, rfl⟩
theorem bd_pos {r : farkas_row} (h0 : cf a r ≠ 0) : 1 ≤ (bd a n r).2 := by
  rw [(bd_eq a n h0).2]; split <;> omega

theorem valueL_eq : ∀ (l : List farkas_row) (lo hi : Option farkas_fraction), (∃ r ∈ l, r.1 = true ∧ cf a r ≠ 0) → ∃ r ∈ l, r.1 = true ∧ cf a r ≠ 0 ∧ valueL a n l lo hi = bd a n r
  | [], _, _, h => by obtain ⟨r, hr, _⟩ := h; cases hr
  | x :: l, lo, hi, h => by
    have tl : (x.1 = true → cf a x = 0) → ∃ r ∈ l, r.1 = true ∧ cf a r ≠ 0 := fun hx => by
      obtain ⟨r, hr, h1, h2⟩ := h
      rcases List.mem_cons.1 hr with e | e
      · subst e; exact absurd (hx h1) h2
      · exact ⟨r, e, h1, h2⟩
    unfold valueL
    split
    · rename_i h0
      obtain ⟨r, hr, h'⟩ := valueL_eq l lo hi (tl fun _ => h0)
      exact ⟨r, List.mem_cons_of_mem _ hr, h'⟩
    · rename_i h0
      split
      · rename_i h1; exact ⟨x, List.mem_cons_self, h1, h0, rfl⟩
      · rename_i h1
        split
        · obtain ⟨r, hr, h'⟩ := valueL_eq l _ hi (tl fun h => absurd h h1)
          exact ⟨r, List.mem_cons_of_mem _ hr, h'⟩
        · obtain ⟨r, hr, h'⟩ := valueL_eq l lo _ (tl fun h => absurd h h1)
          exact ⟨r, List.mem_cons_of_mem _ hr, h'⟩

/-- The greatest lower bound so far. -/
theorem valueL_low : ∀ (l : List farkas_row) (lo hi : Option farkas_fraction), (∀ r ∈ l, cf a r ≠ 0 → r.1 = false) → (∀ g, lo = some g → 1 ≤ g.2) → ((∃ g, lo = some g) ∨ ∃ r ∈ l, cf a r > 0) →
    1 ≤ (valueL a n l lo hi).2 ∧ (∀ g, lo = some g → fle g (valueL a n l lo hi)) ∧ (∀ r ∈ l, cf a r > 0 → fle (bd a n r) (valueL a n l lo hi)) ∧ (lo = some (valueL a n l lo hi) ∨ ∃ r ∈ l, cf a r > 0 ∧ valueL a n l lo hi = bd a n r)
  | [], lo, hi, _, hp, he => by
    rcases he with ⟨g, rfl⟩ | ⟨r, hr, _⟩
    · have e : valueL a n [] (some g) hi = g := rfl
      rw [e]
      exact ⟨hp g rfl, fun g' h => by cases h; exact fle_refl _, (fun r hr => by cases hr), Or.inl rfl⟩
    · cases hr
  | x :: l, lo, hi, hq, hp, he => by
    have hq' : ∀ r ∈ l, cf a r ≠ 0 → r.1 = false := fun r hr => hq r (List.mem_cons_of_mem _ hr)
    unfold valueL
    split
    · rename_i h0
      obtain ⟨i0, i1, i2, i3⟩ := valueL_low l lo hi hq' hp (by
        rcases he with h | ⟨r, hr, h⟩
        · exact Or.inl h
        · rcases List.mem_cons.1 hr with e | e
          · subst e; have h0 : cf a r = 0 := h0; omega
          · exact Or.inr ⟨r, e, h⟩)
      refine ⟨i0, i1, fun r hr h => ?_, ?_⟩
      · rcases List.mem_cons.1 hr with e | e
        · subst e; have h0 : cf a r = 0 := h0; omega
        · exact i2 r e h
      · rcases i3 with h | ⟨r, hr, h⟩
        · exact Or.inl h
        · exact Or.inr ⟨r, List.mem_cons_of_mem _ hr, h⟩
    · rename_i h0
      have hx1 : x.1 = false := hq x List.mem_cons_self h0
      rw [if_neg (by rw [hx1]; simp)]
      split
      · rename_i hc
        have hbp := bd_pos a n h0
        have key : ∀ lo' : farkas_fraction, (fle (bd a n x) lo' ∧ (∀ g, lo = some g → fle g lo') ∧ (lo' = bd a n x ∨ lo = some lo')) → 1 ≤ lo'.2 →
            1 ≤ (valueL a n l (some lo') hi).2 ∧ (∀ g, lo = some g → fle g (valueL a n l (some lo') hi)) ∧ (∀ r ∈ x :: l, cf a r > 0 → fle (bd a n r) (valueL a n l (some lo') hi)) ∧ (lo = some (valueL a n l (some lo') hi) ∨ ∃ r ∈ x :: l, cf a r > 0 ∧ valueL a n l (some lo') hi = bd a n r) := by
          rintro lo' ⟨k1, k2, k3⟩ hlo
          obtain ⟨i0, i1, i2, i3⟩ := valueL_low l (some lo') hi hq' (fun g hg => by cases hg; exact hlo) (Or.inl ⟨_, rfl⟩)
          have h1 := i1 lo' rfl
          refine ⟨i0, fun g hg => fle_trans (hp g hg) hlo i0 (k2 g hg) h1, fun r hr h => ?_, ?_⟩
          · rcases List.mem_cons.1 hr with e | e
            · subst e; exact fle_trans hbp hlo i0 k1 h1
            · exact i2 r e h
          · rcases i3 with h | ⟨r, hr, h⟩
            · injection h with h
              rcases k3 with k3 | k3
              · exact Or.inr ⟨x, List.mem_cons_self, hc, by rw [← h]; exact k3⟩
              · exact Or.inl (by rw [← h]; exact k3)
            · exact Or.inr ⟨r, List.mem_cons_of_mem _ hr, h⟩
        cases lo with
        | none => exact key _ ⟨fle_refl _, (fun g hg => by cases hg), Or.inl rfl⟩ hbp
        | some g =>
          show _ ∧ _
          simp only []
          split
          · rename_i hl
            exact key _ ⟨fle_refl _, fun g' hg => by cases hg; exact less_fle.1 hl, Or.inl rfl⟩ hbp
          · rename_i hl
            exact key _ ⟨less_fle.2 (Bool.eq_false_iff.2 hl), fun g' hg => by cases hg; exact fle_refl _, Or.inr rfl⟩ (hp _ rfl)
      · rename_i hc
        obtain ⟨i0, i1, i2, i3⟩ := valueL_low l lo (match hi with | none => some (farkas_point_bound.fn a x n) | some f => if farkas_fraction_less.fn (farkas_point_bound.fn a x n) f then some (farkas_point_bound.fn a x n) else some f) hq' hp (by
          rcases he with h | ⟨r, hr, h⟩
          · exact Or.inl h
          · rcases List.mem_cons.1 hr with e | e
            · subst e; exact absurd h hc
            · exact Or.inr ⟨r, e, h⟩)
        refine ⟨i0, i1, fun r hr h => ?_, ?_⟩
        · rcases List.mem_cons.1 hr with e | e
          · subst e; exact absurd h hc
          · exact i2 r e h
        · rcases i3 with h | ⟨r, hr, h⟩
          · exact Or.inl h
          · exact Or.inr ⟨r, List.mem_cons_of_mem _ hr, h⟩

/-- The least upper bound so far. -/
theorem valueL_high : ∀ (l : List farkas_row) (hi : Option farkas_fraction), (∀ r ∈ l, cf a r ≠ 0 → r.1 = false) → (∀ r ∈ l, ¬ cf a r > 0) → (∀ g, hi = some g → 1 ≤ g.2) → ((∃ g, hi = some g) ∨ ∃ r ∈ l, cf a r < 0) →
    1 ≤ (valueL a n l none hi).2 ∧ (∀ g, hi = some g → fle (valueL a n l none hi) g) ∧ (∀ r ∈ l, cf a r < 0 → fle (valueL a n l none hi) (bd a n r))
  | [], hi, _, _, hp, he => by
    rcases he with ⟨g, rfl⟩ | ⟨r, hr, _⟩
    · have e : valueL a n [] none (some g) = g := rfl
      rw [e]
      exact ⟨hp g rfl, fun g' h => by cases h; exact fle_refl _, fun r hr => by cases hr⟩
    · cases hr
  | x :: l, hi, hq, hng, hp, he => by
    have hq' : ∀ r ∈ l, cf a r ≠ 0 → r.1 = false := fun r hr => hq r (List.mem_cons_of_mem _ hr)
    have hng' : ∀ r ∈ l, ¬ cf a r > 0 := fun r hr => hng r (List.mem_cons_of_mem _ hr)
    unfold valueL
    split
    · rename_i h0
      obtain ⟨i0, i1, i2⟩ := valueL_high l hi hq' hng' hp (by
        rcases he with h | ⟨r, hr, h⟩
        · exact Or.inl h
        · rcases List.mem_cons.1 hr with e | e
          · subst e; have h0 : cf a r = 0 := h0; omega
          · exact Or.inr ⟨r, e, h⟩)
      refine ⟨i0, i1, fun r hr h => ?_⟩
      rcases List.mem_cons.1 hr with e | e
      · subst e; have h0 : cf a r = 0 := h0; omega
      · exact i2 r e h
    · rename_i h0
      have hx1 : x.1 = false := hq x List.mem_cons_self h0
      have hxn := hng x List.mem_cons_self
      rw [if_neg (by rw [hx1]; simp), if_neg hxn]
      have hbp := bd_pos a n h0
      have key : ∀ hi' : farkas_fraction, (fle hi' (bd a n x) ∧ (∀ g, hi = some g → fle hi' g)) → 1 ≤ hi'.2 →
          1 ≤ (valueL a n l none (some hi')).2 ∧ (∀ g, hi = some g → fle (valueL a n l none (some hi')) g) ∧ (∀ r ∈ x :: l, cf a r < 0 → fle (valueL a n l none (some hi')) (bd a n r)) := by
        rintro hi' ⟨k1, k2⟩ hlo
        obtain ⟨i0, i1, i2⟩ := valueL_high l (some hi') hq' hng' (fun g hg => by cases hg; exact hlo) (Or.inl ⟨_, rfl⟩)
        have h1 := i1 hi' rfl
        refine ⟨i0, fun g hg => fle_trans i0 hlo (hp g hg) h1 (k2 g hg), fun r hr h => ?_⟩
        rcases List.mem_cons.1 hr with e | e
        · subst e; exact fle_trans i0 hlo hbp h1 k1
        · exact i2 r e h
      cases hi with
      | none => exact key _ ⟨fle_refl _, fun g hg => by cases hg⟩ hbp
      | some g =>
        simp only []
        split
        · rename_i hl
          exact key _ ⟨fle_refl _, fun g' hg => by cases hg; exact less_fle.1 hl⟩ hbp
        · rename_i hl
          exact key _ ⟨less_fle.2 (Bool.eq_false_iff.2 hl), fun g' hg => by cases hg; exact fle_refl _⟩ (hp _ rfl)

theorem valueL_none : ∀ (l : List farkas_row), (∀ r ∈ l, cf a r = 0) → valueL a n l none none = (0, 1)
  | [], _ => rfl
  | x :: l, h => by
    unfold valueL
    rw [if_pos (h x List.mem_cons_self)]
    exact valueL_none l fun r hr => h r (List.mem_cons_of_mem _ hr)
end
end Go.Proofs.Ytlncingakpelbaa
