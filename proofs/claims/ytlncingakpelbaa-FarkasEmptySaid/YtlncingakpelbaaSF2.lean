/- Part of a proof that a law of the program holds for every input: what the elimination of variables answers, in plain Lean. No conditions. -/
import Derived.Test.YtlncingakpelbaaSF1
namespace Go.Proofs.Ytlncingakpelbaa
open Go
set_option linter.unusedVariables false

/-! ## Lists made place by place -/
theorem fill_step (z : List Int) (k : Nat) (hk : k < z.length) :
    (z.take k ++ List.replicate (z.length - k) 0).set k (z.getD k 0) = z.take (k + 1) ++ List.replicate (z.length - (k + 1)) 0 := by
  have h1 : (z.take k).length = k := by rw [List.length_take]; omega
  rw [List.set_append_right _ _ (by omega), h1, Nat.sub_self, show z.length - k = z.length - (k + 1) + 1 from by omega, List.replicate_succ, List.set_cons_zero, take_get 0 hk]
  simp
theorem fill_len (z : List Int) (k : Nat) (hk : k ≤ z.length) : (z.take k ++ List.replicate (z.length - k) 0).length = z.length := by
  rw [List.length_append, List.length_take, List.length_replicate]; omega
theorem flatMap_take {α β : Type} (f : α → List β) (d : α) {l : List α} {k : Nat} (hk : k < l.length) : (l.take (k + 1)).flatMap f = (l.take k).flatMap f ++ f (l.getD k d) := by
  rw [take_get d hk, List.flatMap_append]; simp
theorem gather_snoc {α β : Type} (f : Nat → α → List β) : ∀ (l : List α) (i : Nat) (x : α), gather f (l ++ [x]) i = gather f l i ++ f (i + l.length) x
  | [], i, x => by simp [gather]
  | y :: l, i, x => by simp only [List.cons_append, gather, gather_snoc f l, List.length_cons, List.append_assoc, Nat.add_assoc, Nat.add_comm 1]
theorem gather_take {α β : Type} (f : Nat → α → List β) (d : α) {l : List α} {k : Nat} (hk : k < l.length) : gather f (l.take (k + 1)) 0 = gather f (l.take k) 0 ++ f k (l.getD k d) := by
  rw [take_get d hk, gather_snoc, List.length_take]
  congr 2; omega
theorem gather_mem {α β : Type} (f : Nat → α → List β) {y : β} : ∀ (l : List α) (i : Nat), y ∈ gather f l i → ∃ j x, x ∈ l ∧ y ∈ f j x
  | [], i, h => by simp [gather] at h
  | x :: l, i, h => by
    rcases List.mem_append.1 h with e | e
    · exact ⟨i, x, List.mem_cons_self, e⟩
    · obtain ⟨j, z, hz, hy⟩ := gather_mem f l (i + 1) e
      exact ⟨j, z, List.mem_cons_of_mem _ hz, hy⟩
theorem gather_len {α β : Type} (f : Nat → α → List β) (hf : ∀ i x, (f i x).length ≤ 1) : ∀ (l : List α) (i : Nat), (gather f l i).length ≤ l.length
  | [], i => by simp [gather]
  | x :: l, i => by
    have h1 := hf i x
    have h2 := gather_len f hf l (i + 1)
    simp only [gather, List.length_append, List.length_cons]; omega
theorem flatMap_len {α β : Type} (f : α → List β) (c : Nat) : ∀ (l : List α), (∀ x ∈ l, (f x).length ≤ c) → (l.flatMap f).length ≤ c * l.length
  | [], _ => by simp
  | x :: l, h => by
    have h1 := h x List.mem_cons_self
    have h2 := flatMap_len f c l fun y hy => h y (List.mem_cons_of_mem _ hy)
    simp only [List.flatMap_cons, List.length_append, List.length_cons, Nat.mul_add, Nat.mul_one]; omega

theorem zipWith_getD (f : Int → Int → Int) : ∀ (x y : List Int) (k : Nat), k < x.length → k < y.length → (List.zipWith f x y).getD k 0 = f (x.getD k 0) (y.getD k 0)
  | [], _, _, h, _ => by simp at h
  | _ :: _, [], _, _, h => by simp at h
  | a :: x, b :: y, 0, _, _ => by simp
  | a :: x, b :: y, k + 1, h1, h2 => by
    simpa using zipWith_getD f x y k (by simpa using h1) (by simpa using h2)

theorem farkas_vector_int_sum.spec (x : List Int) (a b : Int) (y : List Int) (h : farkas_vector_int_sum.pre x a b y) : farkas_vector_int_sum.wp x a b y (fun z => z = farkas_vector_int_sum.fn x a b y) := by
  obtain ⟨hl, hl2, hx, hy, ha, hb⟩ := h
  refine ⟨⟨by omega, by omega, by omega, by omega⟩, ?_⟩
  rintro z rfl
  intro _ _
  have hz : (farkas_vector_int_sum.fn x a b y).length = x.length := by unfold farkas_vector_int_sum.fn; rw [List.length_zipWith]; omega
  generalize hzz : farkas_vector_int_sum.fn x a b y = z at hz
  rw [Int.toNat_natCast]
  refine ⟨fun n i o => ∃ k : Nat, i = (k : Int) ∧ n + k = x.length ∧ o = z.take k ++ List.replicate (z.length - k) 0, ⟨x.length, 0, rfl, rfl, by simp [hz]⟩, ?_⟩
  rintro n i o ⟨k, rfl, hn, rfl⟩
  refine ⟨fun hi => ?_, fun hi => ?_⟩
  · have hk : k < x.length := by omega
    rw [fill_len _ _ (by omega), gI_nat, gI_nat, Int.toNat_natCast]
    have bx := hx _ (getD_mem 0 hk)
    have bY := hy _ (getD_mem 0 (by omega : k < y.length))
    have m1 := mul_bound ha.1 ha.2 bx.1 bx.2
    have m2 := mul_bound hb.1 hb.2 bY.1 bY.2
    have hzk : z.getD k 0 = a * x.getD k 0 + b * y.getD k 0 := by
      rw [← hzz]; exact zipWith_getD (fun p q => a * p + b * q) x y k hk (by omega)
    refine ⟨⟨by omega, hi⟩, ⟨by omega, by omega⟩, ⟨by omega, by omega⟩, ⟨by omega, by omega⟩, ⟨by omega, by omega⟩, ⟨by omega, by omega⟩, by omega, ?_⟩
    rintro w rfl
    refine ⟨⟨by omega, by omega⟩, n - 1, by omega, k + 1, by omega, by omega, ?_⟩
    rw [← hzk]; exact fill_step z k (by omega)
  · have hk : k = x.length := by omega
    rw [List.take_of_length_le (by omega), show z.length - k = 0 from by omega]; simp
theorem sum_inB {x : List Int} {a b : Int} {y : List Int} (h : farkas_vector_int_sum.pre x a b y) : (farkas_vector_int_sum.fn x a b y).length = x.length ∧ inB 4611686018427387904 (farkas_vector_int_sum.fn x a b y) := by
  obtain ⟨hl, hl2, hx, hy, ha, hb⟩ := h
  have hz : (farkas_vector_int_sum.fn x a b y).length = x.length := by unfold farkas_vector_int_sum.fn; rw [List.length_zipWith]; omega
  refine ⟨hz, fun w hw => ?_⟩
  obtain ⟨k, hk, rfl⟩ := List.getElem_of_mem hw
  have e : (farkas_vector_int_sum.fn x a b y)[k] = (farkas_vector_int_sum.fn x a b y).getD k 0 := by simp [List.getD_eq_getElem?_getD, hk]
  rw [e, farkas_vector_int_sum.fn, zipWith_getD _ x y k (by omega) (by omega)]
  have bx := hx _ (getD_mem 0 (by omega : k < x.length))
  have bY := hy _ (getD_mem 0 (by omega : k < y.length))
  have m1 := mul_bound ha.1 ha.2 bx.1 bx.2
  have m2 := mul_bound hb.1 hb.2 bY.1 bY.2
  omega

/-! ## Which row solves -/
theorem solveI_mem : ∀ (l : List (Bool × Int)) (i best a : Int), solveI l i best a = best ∨ ∃ j, j < l.length ∧ solveI l i best a = i + (j : Int) ∧ (l.getD j (false, 0)).1 = true ∧ (l.getD j (false, 0)).2 ≠ 0
  | [], _, _, _ => Or.inl rfl
  | r :: l, i, best, a => by
    unfold solveI
    split
    · rename_i hc
      simp only [Bool.and_eq_true, bne_iff_ne] at hc
      rcases solveI_mem l (i + 1) i (absI r.2) with h | ⟨j, h1, h2, h3, h4⟩
      · right; exact ⟨0, by simp, by rw [h]; simp, by simpa using hc.1.1, by simpa using hc.1.2⟩
      · right; exact ⟨j + 1, by simpa using h1, by rw [h2]; omega, by simpa using h3, by simpa using h4⟩
    · rcases solveI_mem l (i + 1) best a with h | ⟨j, h1, h2, h3, h4⟩
      · exact Or.inl h
      · right; exact ⟨j + 1, by simpa using h1, by rw [h2]; omega, by simpa using h3, by simpa using h4⟩
theorem solveI_none : ∀ (l : List (Bool × Int)) (i best a : Int), 0 ≤ i → solveI l i best a < 0 → best < 0 ∧ ∀ r ∈ l, r.1 = true → r.2 = 0
  | [], i, best, a, _, h => ⟨h, fun r hr => by cases hr⟩
  | r :: l, i, best, a, hi, h => by
    unfold solveI at h
    split at h
    · have := (solveI_none l (i + 1) i _ (by omega) h).1; omega
    · rename_i hc
      obtain ⟨h1, h2⟩ := solveI_none l (i + 1) best a (by omega) h
      refine ⟨h1, fun x hx hx1 => ?_⟩
      rcases List.mem_cons.1 hx with e | e
      · subst e
        apply Classical.byContradiction
        intro hne
        apply hc
        simp [hx1, hne, h1]
      · exact h2 x e hx1

theorem solver_cases {t : farkas_table} {v : Int} : (farkas_table_solver.fn t v < 0 ∧ ∀ r ∈ t.2, r.1 = true → gI r.2 v = 0) ∨
    ∃ k : Nat, k < t.2.length ∧ farkas_table_solver.fn t v = (k : Int) ∧ (t.2.getD k d_farkas_row).1 = true ∧ gI (t.2.getD k d_farkas_row).2 v ≠ 0 := by
  unfold farkas_table_solver.fn
  rcases solveI_mem (t.2.map fun r => (r.1, gI r.2 v)) 0 (-1) 0 with h | ⟨j, h1, h2, h3, h4⟩
  · left
    refine ⟨by omega, fun r hr hr1 => ?_⟩
    have := (solveI_none (t.2.map fun r => (r.1, gI r.2 v)) 0 (-1) 0 (Int.le_refl 0) (by omega)).2 (r.1, gI r.2 v) (List.mem_map.2 ⟨r, hr, rfl⟩) hr1
    exact this
  · right
    rw [List.length_map] at h1
    have e : (t.2.map fun r => (r.1, gI r.2 v)).getD j (false, 0) = ((t.2.getD j d_farkas_row).1, gI (t.2.getD j d_farkas_row).2 v) := by
      simp [List.getD_eq_getElem?_getD, h1]
    rw [e] at h3 h4
    exact ⟨j, h1, by rw [h2]; omega, h3, h4⟩

theorem farkas_table_solver.spec (t : farkas_table) (v : Int) (h : farkas_table_solver.pre t v) : farkas_table_solver.wp t v (fun x => x = farkas_table_solver.fn t v) := by
  obtain ⟨hv, L, hL, hr⟩ := h
  intro _
  refine ⟨fun n b i => ∃ (k : Nat) (a : Int), i = (k : Int) ∧ n + k = t.2.length ∧ (b = -1 ∨ ((0 ≤ b ∧ b < (t.2.length : Int)) ∧ a = absI (gI (t.2.getD b.toNat d_farkas_row).2 v))) ∧
    farkas_table_solver.fn t v = solveI ((t.2.drop k).map fun r => (r.1, gI r.2 v)) k b a, ⟨t.2.length, 0, 0, rfl, rfl, Or.inl rfl, rfl⟩, ?_⟩
  rintro n b i ⟨k, a, rfl, hn, hb, hs⟩
  have hgb : ∀ {j : Nat}, j < t.2.length → (0 ≤ v ∧ v < ((t.2.getD j d_farkas_row).2.length : Int)) ∧ -1073741824 ≤ gI (t.2.getD j d_farkas_row).2 v ∧ gI (t.2.getD j d_farkas_row).2 v ≤ 1073741824 := fun {j} hj => by
    have := hr _ (getD_mem d_farkas_row hj)
    exact ⟨⟨hv, by rw [this.1]; exact hL⟩, this.2 _ (getD_mem 0 (by rw [this.1]; omega))⟩
  refine ⟨fun hi => ?_, fun hi => ?_⟩
  · have hk : k < t.2.length := by omega
    refine ⟨⟨by omega, hi⟩, ?_⟩
    rintro r hre
    rw [Int.toNat_natCast] at hre
    have g1 := hgb hk
    rw [← hre] at g1
    rw [drop_get d_farkas_row hk, List.map_cons, ← hre] at hs
    have g2 : ∀ (_ : ((r.1 && (gI r.2 v != 0)) && (!(decide (b < 0)))) = true), (0 ≤ b ∧ b < (t.2.length : Int)) ∧ (0 ≤ v ∧ v < ((t.2.getD b.toNat d_farkas_row).2.length : Int)) ∧ -1073741824 ≤ gI (t.2.getD b.toNat d_farkas_row).2 v ∧ gI (t.2.getD b.toNat d_farkas_row).2 v ≤ 1073741824 := fun hc => by
      simp only [Bool.and_eq_true, Bool.not_eq_true', decide_eq_false_iff_not] at hc
      rcases hb with hb | hb
      · omega
      · exact ⟨hb.1, hgb (by omega)⟩
    refine ⟨fun _ => g1.1, fun _ => g1.1, fun _ => g1.1, fun _ => ⟨by omega, by omega⟩, fun hc => (g2 hc).1, fun hc => (g2 hc).2.1, fun hc => (g2 hc).1, fun hc => (g2 hc).2.1, fun hc => ?_, ?_⟩
    · have := (g2 hc).2.2; exact ⟨by omega, by omega⟩
    rintro w hw
    have hcond : ((r.1 && (gI r.2 v != 0)) && (decide (b < 0) || decide (absI (gI r.2 v) < w))) = ((r.1 && (gI r.2 v != 0)) && (decide (b < 0) || decide (absI (gI r.2 v) < a))) := by
      rcases hb with hb | hb
      · simp [hb]
      · rw [hw, hb.2]; rfl
    refine (?_ : (((r.1 && (gI r.2 v != 0)) && (decide (b < 0) || decide (absI (gI r.2 v) < w))) = true → _) ∧ (((r.1 && (gI r.2 v != 0)) && (decide (b < 0) || decide (absI (gI r.2 v) < w))) = false → _))
    rw [hcond]
    unfold solveI at hs
    refine ⟨fun hc => ⟨⟨by omega, by omega⟩, n - 1, by omega, k + 1, absI (gI r.2 v), by omega, by omega, Or.inr ⟨⟨by omega, by omega⟩, by rw [Int.toNat_natCast, ← hre]⟩, ?_⟩, fun hc => ⟨⟨by omega, by omega⟩, n - 1, by omega, k + 1, a, by omega, by omega, hb, ?_⟩⟩
    · rw [if_pos hc] at hs; rw [hs]; rfl
    · rw [if_neg (by rw [hc]; simp)] at hs; rw [hs]; rfl
  · have hk : k = t.2.length := by omega
    subst hk
    rw [List.drop_of_length_le (Nat.le_refl _)] at hs
    exact hs.symm

/-! ## A variable eliminated -/
theorem rowsB.mono {A B : Int} {L : Nat} {l : List farkas_row} (h : rowsB A L l) (hB : A ≤ B) : rowsB B L l := fun r hr => ⟨(h r hr).1, (h r hr).2.mono hB⟩
theorem rowsB.at {B : Int} {L : Nat} {l : List farkas_row} (h : rowsB B L l) {k : Nat} (hk : k < l.length) : (l.getD k d_farkas_row).2.length = L ∧ inB B (l.getD k d_farkas_row).2 := h _ (getD_mem _ hk)
theorem gI_inB {B : Int} {l : List Int} (h : inB B l) {v : Int} (h1 : 0 ≤ v) (h2 : v < (l.length : Int)) : -B ≤ gI l v ∧ gI l v ≤ B := h _ (getD_mem 0 (by omega))

theorem wEq_len (v k : Int) (e : farkas_row) (i : Nat) (r : farkas_row) : (wEq v k e i r).length ≤ 1 := by
  unfold wEq; split
  · simp
  · split <;> simp
theorem wEq_ok {v k : Int} {L : Nat} {e : farkas_row} (hv : 0 ≤ v) (hvL : v < (L : Int)) (hL : L ≤ 1048576) (he : e.2.length = L ∧ inB 1073741824 e.2) (i : Nat) {r : farkas_row} (hr : r.2.length = L ∧ inB 1073741824 r.2) :
    farkas_vector_int_sum.pre r.2 (if gI e.2 v < 0 then -(gI e.2 v) else gI e.2 v) (-(if gI e.2 v < 0 then (-1 : Int) else 1) * gI r.2 v) e.2 ∧ rowsB 4611686018427387904 L (wEq v k e i r) ∧ (wEq v k e i r).length ≤ 1 := by
  have b1 := gI_inB he.2 hv (by rw [he.1]; exact hvL)
  have b2 := gI_inB hr.2 hv (by rw [hr.1]; exact hvL)
  have hp : farkas_vector_int_sum.pre r.2 (if gI e.2 v < 0 then -(gI e.2 v) else gI e.2 v) (-(if gI e.2 v < 0 then (-1 : Int) else 1) * gI r.2 v) e.2 := by
    refine ⟨by rw [hr.1, he.1], by omega, hr.2, he.2, ?_, ?_⟩
    · split <;> omega
    · split
      · rw [show -(-1 : Int) = 1 from rfl, Int.one_mul]; omega
      · rw [Int.neg_mul, Int.one_mul]; omega
  refine ⟨hp, ?_, ?_⟩
  · unfold wEq
    split
    · intro x hx; cases hx
    · split
      · intro x hx; rw [List.mem_singleton] at hx; subst hx; exact ⟨hr.1, hr.2.mono (by decide)⟩
      · intro x hx; rw [List.mem_singleton] at hx; subst hx
        have := sum_inB hp
        exact ⟨by rw [this.1]; exact hr.1, this.2⟩
  · unfold wEq; split
    · simp
    · split <;> simp

theorem wPair_ok {v : Int} {L : Nat} (hv : 0 ≤ v) (hvL : v < (L : Int)) (hL : L ≤ 1048576) {l u : farkas_row} (hl : l.2.length = L ∧ inB 1073741824 l.2) (hu : u.2.length = L ∧ inB 1073741824 u.2) :
    farkas_vector_int_sum.pre l.2 (-(gI u.2 v)) (gI l.2 v) u.2 ∧ rowsB 4611686018427387904 L (wPair v l u) ∧ (wPair v l u).length ≤ 1 := by
  have b1 := gI_inB hl.2 hv (by rw [hl.1]; exact hvL)
  have b2 := gI_inB hu.2 hv (by rw [hu.1]; exact hvL)
  have hp : farkas_vector_int_sum.pre l.2 (-(gI u.2 v)) (gI l.2 v) u.2 := ⟨by rw [hl.1, hu.1], by omega, hl.2, hu.2, ⟨by omega, by omega⟩, b1⟩
  refine ⟨hp, ?_, ?_⟩
  · unfold wPair
    split
    · intro x hx; rw [List.mem_singleton] at hx; subst hx
      have := sum_inB hp
      exact ⟨by rw [this.1]; exact hl.1, this.2⟩
    · intro x hx; cases hx
  · unfold wPair; split <;> simp

theorem wIneq_ok {v : Int} {L : Nat} {l : List farkas_row} (hv : 0 ≤ v) (hvL : v < (L : Int)) (hL : L ≤ 1048576) (hl : rowsB 1073741824 L l) (h4 : l.length ≤ 400) : rowsB 4611686018427387904 L (wIneq v l) ∧ (wIneq v l).length ≤ 1048576 := by
  constructor
  · intro r hr
    rcases List.mem_append.1 hr with e | e
    · have := hl r (List.mem_filter.1 e).1; exact ⟨this.1, this.2.mono (by decide)⟩
    · obtain ⟨x, hx, e⟩ := List.mem_flatMap.1 e
      obtain ⟨y, hy, e⟩ := List.mem_flatMap.1 e
      exact (wPair_ok hv hvL hL (hl x hx) (hl y hy)).2.1 r e
  · unfold wIneq
    rw [List.length_append]
    have h1 := List.length_filter_le (fun r : farkas_row => gI r.2 v == 0) l
    have h2 := flatMap_len (fun x => l.flatMap fun y => wPair v x y) 400 l fun x hx => by
      have := flatMap_len (fun y => wPair v x y) 1 l fun y hy => (wPair_ok hv hvL hL (hl x hx) (hl y hy)).2.2
      omega
    have h3 : 400 * l.length ≤ 400 * 400 := Nat.mul_le_mul_left _ h4
    omega

theorem farkas_table_without.spec (t : farkas_table) (v : Int) (h : farkas_table_without.pre t v) : farkas_table_without.wp t v (fun x => x = farkas_table_without.fn t v) := by
  obtain ⟨hv, hvt, L, ⟨ht, htL, hL⟩, h4, hr⟩ := h
  have hvL : v < (L : Int) := by omega
  refine ⟨⟨hv, L, hvL, hr⟩, ?_⟩
  rintro s hs
  have hcs := solver_cases (t := t) (v := v)
  rw [← hs] at hcs
  unfold farkas_table_without.fn
  rw [← hs]
  refine ⟨fun hs0 => ?_, fun hs0 _ => ?_⟩
  · rw [if_pos hs0]
    rcases hcs with hc | ⟨kk, hkk, rfl, _, _⟩
    · omega
    rw [Int.toNat_natCast]
    have he := hr.at hkk
    refine ⟨⟨by omega, by omega⟩, ?_⟩
    rintro e hee
    rw [← hee] at he ⊢
    have be := gI_inB he.2 hv (by rw [he.1]; exact hvL)
    refine ⟨⟨hv, by rw [he.1]; exact hvL⟩, fun s a => s = (if gI e.2 v < 0 then (-1 : Int) else 1) ∧ a = (if gI e.2 v < 0 then -(gI e.2 v) else gI e.2 v), ⟨fun hn => ⟨⟨by omega, by omega⟩, by rw [if_pos hn], by rw [if_pos hn]⟩, fun hn => ⟨by rw [if_neg hn], by rw [if_neg hn]⟩⟩, ?_⟩
    rintro s a ⟨rfl, rfl⟩
    intro _
    refine ⟨fun n i o => ∃ k : Nat, i = (k : Int) ∧ n + k = t.2.length ∧ o = gather (wEq v kk e) (t.2.take k) 0, ⟨t.2.length, 0, rfl, rfl, rfl⟩, ?_⟩
    rintro n i o ⟨k, rfl, hn, rfl⟩
    refine ⟨fun hi => ?_, fun hi => ?_⟩
    · have hk : k < t.2.length := by omega
      have hrk := hr.at hk
      refine ⟨⟨by omega, hi⟩, ?_⟩
      rintro r hre
      rw [Int.toNat_natCast] at hre
      rw [← hre] at hrk
      have hw := wEq_ok (k := kk) hv hvL hL he k hrk
      have hgt := gather_take (wEq v kk e) d_farkas_row hk
      rw [← hre] at hgt
      have hgl := gather_len (wEq v kk e) (wEq_len _ _ _) (t.2.take k) 0
      rw [List.length_take] at hgl
      have br := gI_inB hrk.2 hv (by rw [hrk.1]; exact hvL)
      refine ⟨fun hkk' => ⟨⟨by omega, by omega⟩, n - 1, by omega, k + 1, by omega, by omega, ?_⟩, fun hkk' => ⟨⟨hv, by rw [hrk.1]; exact hvL⟩, fun hz => ⟨⟨?_, ?_⟩, ⟨by omega, by omega⟩, n - 1, by omega, k + 1, by omega, by omega, ?_⟩, fun hz => ⟨?_, ⟨hv, by rw [hrk.1]; exact hvL⟩, ?_, hw.1, ⟨?_, ?_⟩, ?_⟩⟩⟩
      · rw [hgt, wEq, if_pos hkk', List.append_nil]
      · rw [List.length_singleton]; omega
      · rw [List.length_singleton]; omega
      · rw [hgt, wEq, if_neg hkk', if_pos hz]
      · split <;> omega
      · have := hw.1.2.2.2.2.2; omega
      · rw [List.length_singleton]; omega
      · rw [List.length_singleton]; omega
      · rintro o' rfl
        refine ⟨⟨by omega, by omega⟩, n - 1, by omega, k + 1, by omega, by omega, ?_⟩
        rw [hgt, wEq, if_neg hkk', if_neg hz]
    · have hk : k = t.2.length := by omega
      subst hk
      rw [List.take_of_length_le (Nat.le_refl _)]
      have hgl := gather_len (wEq v kk e) (wEq_len _ _ _) t.2 0
      refine ⟨⟨ht, by omega, L, htL, hL, fun r hr' => ?_⟩, ?_⟩
      · obtain ⟨j, x, hx, hy⟩ := gather_mem _ _ _ hr'
        exact (wEq_ok (k := kk) hv hvL hL he j (hr x hx)).2.1 r hy
      · rintro q rfl
        rintro x rfl
        rintro y rfl
        rfl
  · rw [if_neg hs0]
    refine ⟨fun n i o => ∃ k : Nat, i = (k : Int) ∧ n + k = t.2.length ∧ o = (t.2.take k).filter (fun r => gI r.2 v == 0), ⟨t.2.length, 0, rfl, rfl, rfl⟩, ?_⟩
    rintro n i o ⟨k, rfl, hn, rfl⟩
    refine ⟨fun hi => ?_, fun hi _ => ?_⟩
    · have hk : k < t.2.length := by omega
      have hrk := hr.at hk
      refine ⟨⟨by omega, hi⟩, ?_⟩
      rintro r hre
      rw [Int.toNat_natCast] at hre
      rw [← hre] at hrk
      have hfl := List.length_filter_le (fun r : farkas_row => gI r.2 v == 0) (t.2.take k)
      rw [List.length_take] at hfl
      refine ⟨⟨hv, by rw [hrk.1]; exact hvL⟩, fun hz => ⟨⟨?_, ?_⟩, ⟨by omega, by omega⟩, n - 1, by omega, k + 1, by omega, by omega, ?_⟩, fun hz => ⟨⟨by omega, by omega⟩, n - 1, by omega, k + 1, by omega, by omega, ?_⟩⟩
      · rw [List.length_singleton]; omega
      · rw [List.length_singleton]; omega
      · have hz' : (gI r.2 v == 0) = true := by rw [hz]; rfl
        rw [take_get d_farkas_row hk, List.filter_append, ← hre]
        simp only [List.filter_cons, List.filter_nil, hz', if_true]
      · have hz' : (gI r.2 v == 0) = false := beq_eq_false_iff_ne.2 hz
        rw [take_get d_farkas_row hk, List.filter_append, ← hre]
        simp only [List.filter_cons, List.filter_nil, hz', Bool.false_eq_true, if_false, List.append_nil]
    · have hk : k = t.2.length := by omega
      subst hk
      rw [List.take_of_length_le (Nat.le_refl _)]
      have hfl := List.length_filter_le (fun r : farkas_row => gI r.2 v == 0) t.2
      refine ⟨fun n i o => ∃ k : Nat, i = (k : Int) ∧ n + k = t.2.length ∧ o = t.2.filter (fun r => gI r.2 v == 0) ++ (t.2.take k).flatMap (fun x => t.2.flatMap fun y => wPair v x y), ⟨t.2.length, 0, rfl, rfl, by simp⟩, ?_⟩
      rintro n i o ⟨k, rfl, hn, rfl⟩
      have hpl : ∀ k, k ≤ t.2.length → ((t.2.take k).flatMap (fun x => t.2.flatMap fun y => wPair v x y)).length ≤ 160000 := fun k hk => by
        have := flatMap_len (fun x => t.2.flatMap fun y => wPair v x y) 400 (t.2.take k) fun x hx => by
          have := flatMap_len (fun y => wPair v x y) 1 t.2 fun y hy => (wPair_ok hv hvL hL (hr x (List.mem_of_mem_take hx)) (hr y hy)).2.2
          omega
        rw [List.length_take] at this
        have h3 : 400 * min k t.2.length ≤ 400 * 400 := Nat.mul_le_mul_left _ (by omega)
        omega
      refine ⟨fun hi => ?_, fun hi => ?_⟩
      · have hk : k < t.2.length := by omega
        have hlk := hr.at hk
        refine ⟨⟨by omega, hi⟩, ?_⟩
        rintro l hle
        rw [Int.toNat_natCast] at hle
        have hft := flatMap_take (fun x => t.2.flatMap fun y => wPair v x y) d_farkas_row hk
        rw [← hle] at hlk hft
        intro _
        generalize hO : t.2.filter (fun r => gI r.2 v == 0) ++ (t.2.take k).flatMap (fun x => t.2.flatMap fun y => wPair v x y) = O at *
        have hOl : O.length ≤ 160400 := by
          rw [← hO, List.length_append]
          have := hpl k (by omega)
          omega
        refine ⟨fun m i o => ∃ j : Nat, i = (j : Int) ∧ m + j = t.2.length ∧ o = O ++ (t.2.take j).flatMap (fun y => wPair v l y), ⟨t.2.length, 0, rfl, rfl, by simp⟩, ?_⟩
        rintro m i o ⟨j, rfl, hm, rfl⟩
        refine ⟨fun hi => ?_, fun hi => ?_⟩
        · have hj : j < t.2.length := by omega
          have huk := hr.at hj
          refine ⟨⟨by omega, hi⟩, ?_⟩
          rintro u hue
          rw [Int.toNat_natCast] at hue
          have hft2 := flatMap_take (fun y => wPair v l y) d_farkas_row hj
          rw [← hue] at huk hft2
          have bl := gI_inB hlk.2 hv (by rw [hlk.1]; exact hvL)
          have bu := gI_inB huk.2 hv (by rw [huk.1]; exact hvL)
          have hw := wPair_ok hv hvL hL hlk huk
          have hlen : ((t.2.take j).flatMap (fun y => wPair v l y)).length ≤ 400 := by
            have := flatMap_len (fun y => wPair v l y) 1 (t.2.take j) fun y hy => (wPair_ok hv hvL hL hlk (hr y (List.mem_of_mem_take hy))).2.2
            rw [List.length_take] at this
            omega
          refine ⟨⟨hv, by rw [hlk.1]; exact hvL⟩, fun _ => ⟨hv, by rw [huk.1]; exact hvL⟩, fun hc => ⟨⟨hv, by rw [huk.1]; exact hvL⟩, ⟨by omega, by omega⟩, ⟨hv, by rw [hlk.1]; exact hvL⟩, hw.1, ⟨?_, ?_⟩, ?_⟩, fun hc => ⟨⟨by omega, by omega⟩, m - 1, by omega, j + 1, by omega, by omega, ?_⟩⟩
          · rw [List.length_singleton, List.length_append]; omega
          · rw [List.length_singleton, List.length_append]; omega
          · rintro o' rfl
            refine ⟨⟨by omega, by omega⟩, m - 1, by omega, j + 1, by omega, by omega, ?_⟩
            simp only [Bool.and_eq_true, decide_eq_true_eq] at hc
            rw [hft2, wPair, if_pos hc, List.append_assoc]
          · simp only [Bool.and_eq_false_iff, decide_eq_false_iff_not] at hc
            rw [hft2, wPair, if_neg (fun h => by rcases hc with hc | hc; · exact hc h.1
                                                 · exact hc h.2), List.append_nil]
        · have hj : j = t.2.length := by omega
          subst hj
          rw [List.take_of_length_le (Nat.le_refl _)]
          refine ⟨⟨by omega, by omega⟩, n - 1, by omega, k + 1, by omega, by omega, ?_⟩
          rw [← hO, hft, List.append_assoc]
      · have hk : k = t.2.length := by omega
        subst hk
        rw [List.take_of_length_le (Nat.le_refl _)]
        obtain ⟨w1, w2⟩ := wIneq_ok hv hvL hL hr h4
        refine ⟨⟨ht, w2, L, htL, hL, w1⟩, ?_⟩
        rintro q rfl
        rintro x rfl
        rintro y rfl
        rintro z rfl
        rfl
end Go.Proofs.Ytlncingakpelbaa
