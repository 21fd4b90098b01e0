/- Part of a proof that a law of the program holds for every input: the rows of a table are sums of the conditions, in plain Lean. No conditions. -/
import Derived.Test.YtlncingakpelbaaSF5
namespace Go.Proofs.Ytlncingakpelbaa
open Go
set_option linter.unusedVariables false

/-! ## Rows times a number, and sums of rows -/
theorem getD_map_mul (g : Int) (l : List Int) (k : Nat) : (l.map fun x => g * x).getD k 0 = g * l.getD k 0 := by
  simp only [List.getD_eq_getElem?_getD, List.getElem?_map]
  cases l[k]? <;> simp
theorem gI_map_mul (g : Int) (l : List Int) (v : Int) : gI (l.map fun x => g * x) v = g * gI l v := getD_map_mul g l v.toNat
theorem dotI_mulL (g : Int) : ∀ (l x : List Int), dotI (l.map fun y => g * y) x = g * dotI l x
  | [], _ => by simp [dotI]
  | _ :: _, [] => by simp [dotI]
  | a :: l, b :: x => by simp only [List.map_cons, dotI, dotI_mulL g l x]; grind
theorem dotI_mulR (g : Int) : ∀ (l x : List Int), dotI l (x.map fun y => g * y) = g * dotI l x
  | [], _ => by simp [dotI]
  | _ :: _, [] => by simp [dotI]
  | a :: l, b :: x => by simp only [List.map_cons, dotI, dotI_mulR g l x]; grind
theorem dotI_mulR' (g : Int) : ∀ (l x : List Int), dotI l (x.map fun y => y * g) = g * dotI l x
  | [], _ => by simp [dotI]
  | _ :: _, [] => by simp [dotI]
  | a :: l, b :: x => by simp only [List.map_cons, dotI, dotI_mulR' g l x]; grind
theorem dotI_zipR (a b : Int) : ∀ (l x y : List Int), x.length = y.length → dotI l (List.zipWith (fun p q => a * p + b * q) x y) = a * dotI l x + b * dotI l y
  | [], _, _, _ => by simp [dotI]
  | _ :: _, [], [], _ => by simp [dotI]
  | _ :: _, [], _ :: _, h => by simp at h
  | _ :: _, _ :: _, [], h => by simp at h
  | c :: l, p :: x, q :: y, h => by
    simp only [List.zipWith_cons_cons, dotI, dotI_zipR a b l x y (by simpa using h)]; grind
theorem dotI_zipL (a b : Int) : ∀ (x y l : List Int), x.length = y.length → dotI (List.zipWith (fun p q => a * p + b * q) x y) l = a * dotI x l + b * dotI y l
  | [], [], _, _ => by simp [dotI]
  | [], _ :: _, _, h => by simp at h
  | _ :: _, [], _, h => by simp at h
  | _ :: _, _ :: _, [], _ => by simp [dotI]
  | p :: x, q :: y, c :: l, h => by
    simp only [List.zipWith_cons_cons, dotI, dotI_zipL a b x y l (by simpa using h)]; grind
theorem zip_getD (a b : Int) (x y : List Int) (h : x.length = y.length) (k : Nat) : (List.zipWith (fun p q => a * p + b * q) x y).getD k 0 = a * x.getD k 0 + b * y.getD k 0 := by
  by_cases hk : k < x.length
  · exact zipWith_getD _ x y k hk (by omega)
  · rw [getD_ge (by rw [List.length_zipWith]; omega), getD_ge (by omega), getD_ge (by omega)]; simp
theorem reduced_mul (r : farkas_row) : ∃ g, 1 ≤ g ∧ (r.2 = (farkas_row_reduced.fn r).2.map fun x => g * x) ∧ (farkas_row_reduced.fn r).1 = r.1 := by
  unfold farkas_row_reduced.fn
  split
  · rename_i hg
    refine ⟨gcdL r.2, by omega, ?_, rfl⟩
    simp only [farkas_vector_int_by.fn, List.map_map]
    refine (List.map_congr_left (g := id) fun x hx => ?_).trans (List.map_id _) |>.symm
    have := tdiv_mul (gcdL_dvd hx)
    simp only [Function.comp, id]
    rw [Int.mul_comm]; exact this
  · exact ⟨1, by decide, by simp, rfl⟩

theorem foldl_gcd_mul (A : Int) (hA : 0 ≤ A) : ∀ (l : List Int) (a : Int), 0 ≤ a → (l.map fun x => A * x).foldl num_Gcd_1.fn (A * a) = A * l.foldl num_Gcd_1.fn a
  | [], a, _ => rfl
  | x :: l, a, ha => by
    have e : num_Gcd_1.fn (A * a) (A * x) = A * num_Gcd_1.fn a x := by
      unfold num_Gcd_1.fn
      rw [Int.natAbs_mul, Int.natAbs_mul, Nat.gcd_mul_left, Int.natCast_mul]
      congr 1; omega
    simp only [List.map_cons, List.foldl_cons, e]
    exact foldl_gcd_mul A hA l _ (num_Gcd_1.nonneg _ _)
theorem gcdL_scale {A : Int} (hA : 0 ≤ A) (l : List Int) : gcdL (l.map fun x => A * x) = A * gcdL l := by
  have := foldl_gcd_mul A hA l 0 (Int.le_refl 0)
  rw [Int.mul_zero] at this; exact this

/-! ## What holds for the rows of a table holds for those of the next -/
theorem dedup_all {n : Int} {P : farkas_row → Prop} (hR : ∀ r, P r → P (farkas_row_reduced.fn r)) : ∀ (l : List farkas_row), (∀ r ∈ l, P r) → ∀ k, k ≤ l.length → ∀ r ∈ dedupR n (l.take k), P r
  | l, _, 0, _, r, hr => by simp [dedupR] at hr
  | l, h, k + 1, hk, r, hr => by
    rw [dedup_step n l k (by omega)] at hr
    unfold addRow at hr
    split at hr
    · exact dedup_all hR l h k (by omega) r hr
    · rcases List.mem_append.1 hr with e | e
      · exact dedup_all hR l h k (by omega) r e
      · rw [List.mem_singleton] at e; subst e
        exact hR _ (h _ (getD_mem _ (by omega)))
/-- Each row is there, reduced, but for its weights. -/
theorem dedup_has {n : Int} : ∀ (l : List farkas_row) (k : Nat), k ≤ l.length → ∀ j, j < k → ∃ o ∈ dedupR n (l.take k), o.1 = (farkas_row_reduced.fn (l.getD j d_farkas_row)).1 ∧ o.2.take (Int.toNat (n + 1)) = (farkas_row_reduced.fn (l.getD j d_farkas_row)).2.take (Int.toNat (n + 1))
  | l, 0, _, j, hj => by omega
  | l, k + 1, hk, j, hj => by
    rw [dedup_step n l k (by omega)]
    by_cases e : j = k
    · subst e
      unfold addRow
      split
      · rename_i hc
        obtain ⟨o, ho, h⟩ := List.any_eq_true.1 hc
        simp only [farkas_table_kept_1.fn, Bool.and_eq_true, beq_iff_eq] at h
        exact ⟨o, ho, h⟩
      · exact ⟨_, List.mem_append_right _ (List.mem_singleton.2 rfl), rfl, rfl⟩
    · obtain ⟨o, ho, h⟩ := dedup_has (n := n) l k (by omega) j (by omega)
      refine ⟨o, ?_, h⟩
      unfold addRow; split
      · exact ho
      · exact List.mem_append_left _ ho
/-- The list of rows that is kept. -/
def wList (t : farkas_table) (v : Int) : List farkas_row :=
  if farkas_table_solver.fn t v ≥ 0 then gather (wEq v (farkas_table_solver.fn t v) (t.2.getD (farkas_table_solver.fn t v).toNat d_farkas_row)) t.2 0 else wIneq v t.2
theorem without_list {t : farkas_table} {v : Int} (h0 : (farkas_table_without.fn t v).2 = 0) : (farkas_table_without.fn t v).1 = (t.1, dedupR t.1 (wList t v)) := by
  have e : farkas_table_without.fn t v = farkas_table_kept.fn t (wList t v) := by unfold farkas_table_without.fn wList; split <;> rfl
  rw [e] at h0 ⊢
  unfold farkas_table_kept.fn at h0 ⊢
  split at h0
  · simp at h0
  · rename_i h1
    split at h0
    · simp at h0
    · rename_i h2; rw [if_neg h1, if_neg h2]
abbrev sgnE (e : farkas_row) (v : Int) : Int := if gI e.2 v < 0 then -1 else 1
abbrev absE (e : farkas_row) (v : Int) : Int := if gI e.2 v < 0 then -(gI e.2 v) else gI e.2 v
theorem wList_all {t : farkas_table} {v : Int} {P P' : farkas_row → Prop} (hP : ∀ r ∈ t.2, P r) (h0 : ∀ r, P r → gI r.2 v = 0 → P' r)
    (hE : ∀ r e, P r → P e → e.1 = true → gI e.2 v ≠ 0 → P' (r.1, farkas_vector_int_sum.fn r.2 (absE e v) (-(sgnE e v) * gI r.2 v) e.2))
    (hI : ∀ l u, P l → P u → l.1 = false → u.1 = false → gI l.2 v > 0 → gI u.2 v < 0 → P' (false, farkas_vector_int_sum.fn l.2 (-(gI u.2 v)) (gI l.2 v) u.2)) :
    ∀ r ∈ wList t v, P' r := by
  intro r hr
  unfold wList at hr
  rcases solver_cases (t := t) (v := v) with ⟨hc, hne⟩ | ⟨k, hk, hk2, hk3, hk4⟩
  · rw [if_neg (by omega)] at hr
    have hf : ∀ x ∈ t.2, gI x.2 v ≠ 0 → x.1 = false := fun x hx h => by
      cases h1 : x.1 with
      | false => rfl
      | true => exact absurd (hne x hx h1) h
    rcases List.mem_append.1 hr with e | e
    · obtain ⟨e1, e2⟩ := List.mem_filter.1 e
      exact h0 r (hP r e1) (by simpa using e2)
    · obtain ⟨x, hx, e⟩ := List.mem_flatMap.1 e
      obtain ⟨y, hy, e⟩ := List.mem_flatMap.1 e
      unfold wPair at e
      split at e
      · rename_i h
        rw [List.mem_singleton] at e; subst e
        exact hI x y (hP x hx) (hP y hy) (hf x hx (by omega)) (hf y hy (by omega)) h.1 h.2
      · cases e
  · rw [if_pos (by omega), hk2, Int.toNat_natCast] at hr
    obtain ⟨j, x, hx, hy⟩ := gather_mem _ _ _ hr
    unfold wEq at hy
    split at hy
    · cases hy
    · split at hy
      · rename_i hz
        rw [List.mem_singleton] at hy; subst hy
        exact h0 r (hP r hx) hz
      · rw [List.mem_singleton] at hy; subst hy
        exact hE x _ (hP x hx) (hP _ (getD_mem _ hk)) hk3 hk4
theorem without_all {t : farkas_table} {v : Int} {P P' : farkas_row → Prop} (hok : (farkas_table_without.fn t v).2 = 0) (hP : ∀ r ∈ t.2, P r) (h0 : ∀ r, P r → gI r.2 v = 0 → P' r)
    (hE : ∀ r e, P r → P e → e.1 = true → gI e.2 v ≠ 0 → P' (r.1, farkas_vector_int_sum.fn r.2 (absE e v) (-(sgnE e v) * gI r.2 v) e.2))
    (hI : ∀ l u, P l → P u → l.1 = false → u.1 = false → gI l.2 v > 0 → gI u.2 v < 0 → P' (false, farkas_vector_int_sum.fn l.2 (-(gI u.2 v)) (gI l.2 v) u.2))
    (hR : ∀ r, P' r → P' (farkas_row_reduced.fn r)) : ∀ r ∈ (farkas_table_without.fn t v).1.2, P' r := by
  rw [without_list hok]
  intro r hr
  have := dedup_all (n := t.1) hR (wList t v) (wList_all hP h0 hE hI) _ (Nat.le_refl _) r
  rw [List.take_of_length_le (Nat.le_refl _)] at this
  exact this hr

/-! ## Each row is a sum of the conditions -/
/-- What is added up in a place: the coefficients of a variable, or the constants. -/
def plc (n v : Nat) (c : api_Cond) : Int := if v < n then gI c.2.2.1 (v : Int) else c.2.2.2
structure RowOK (p : List api_Cond) (N : Nat) (r : farkas_row) : Prop where
  len : r.2.length = N + 1 + p.length
  lin : ∀ v, v ≤ N → r.2.getD v 0 = dotI (p.map (plc N v)) (r.2.drop (N + 1))
  div : ∀ i, i < p.length → (p.getD i d_api_Cond).1 = 2 → r.2.getD (N + 1 + i) 0 = 0
  eq : ∀ i, i < p.length → (p.getD i d_api_Cond).1 ≠ 1 → r.1 = true → r.2.getD (N + 1 + i) 0 = 0
  ge : ∀ i, i < p.length → (p.getD i d_api_Cond).1 ≠ 1 → 0 ≤ r.2.getD (N + 1 + i) 0
theorem pos_mul {g x : Int} (hg : 1 ≤ g) (h : 0 ≤ g * x) : 0 ≤ x := by
  apply Classical.byContradiction
  intro hx
  have : 0 < g * -x := Int.mul_pos (by omega) (by omega)
  rw [Int.mul_neg] at this; omega
theorem mul_cancel {g x y : Int} (hg : 1 ≤ g) (h : g * x = g * y) : x = y := Int.eq_of_mul_eq_mul_left (by omega) h
theorem mul_zero_cancel {g x : Int} (hg : 1 ≤ g) (h : g * x = 0) : x = 0 := by
  rcases Int.mul_eq_zero.1 h with e | e
  · omega
  · exact e
theorem RowOK.reduced {p : List api_Cond} {N : Nat} {r : farkas_row} (h : RowOK p N r) : RowOK p N (farkas_row_reduced.fn r) := by
  obtain ⟨g, hg, hr, he⟩ := reduced_mul r
  generalize farkas_row_reduced.fn r = o at *
  obtain ⟨h1, h2, h3, h4, h5⟩ := h
  rw [hr] at h1 h2 h3 h4 h5
  refine ⟨by rw [List.length_map] at h1; exact h1, fun v hv => ?_, fun i hi hc => ?_, fun i hi hc hq => ?_, fun i hi hc => ?_⟩
  · have := h2 v hv
    rw [getD_map_mul, ← List.map_drop, dotI_mulR] at this
    exact mul_cancel hg this
  · have := h3 i hi hc
    rw [getD_map_mul] at this
    exact mul_zero_cancel hg this
  · have := h4 i hi hc (by rw [← he]; exact hq)
    rw [getD_map_mul] at this
    exact mul_zero_cancel hg this
  · have := h5 i hi hc
    rw [getD_map_mul] at this
    exact pos_mul hg this
theorem RowOK.sum {p : List api_Cond} {N : Nat} {r e : farkas_row} {a b : Int} {q : Bool} (h : RowOK p N r) (k : RowOK p N e) (ha : 0 ≤ a) (hq : q = r.1) (hb : e.1 = true ∨ (0 ≤ b ∧ r.1 = false)) :
    RowOK p N (q, farkas_vector_int_sum.fn r.2 a b e.2) := by
  have hl : r.2.length = e.2.length := by rw [h.len, k.len]
  unfold farkas_vector_int_sum.fn
  refine ⟨by rw [List.length_zipWith, ← hl, Nat.min_self]; exact h.len, fun v hv => ?_, fun i hi hc => ?_, fun i hi hc hq' => ?_, fun i hi hc => ?_⟩
  · rw [zip_getD _ _ _ _ hl, List.drop_zipWith, dotI_zipR _ _ _ _ _ (by simp [hl]), ← h.lin v hv, ← k.lin v hv]
  · rw [zip_getD _ _ _ _ hl, h.div i hi hc, k.div i hi hc]; simp
  · have hr1 : r.1 = true := by rw [← hq]; exact hq'
    rw [zip_getD _ _ _ _ hl, h.eq i hi hc hr1]
    rcases hb with hb | hb
    · rw [k.eq i hi hc hb]; simp
    · rw [hb.2] at hr1; cases hr1
  · rw [zip_getD _ _ _ _ hl]
    have g1 := Int.mul_nonneg ha (h.ge i hi hc)
    rcases hb with hb | hb
    · rw [k.eq i hi hc hb]; simpa using g1
    · have g2 := Int.mul_nonneg hb.1 (k.ge i hi hc); omega

theorem dotI_unit (f : api_Cond → Int) : ∀ (p : List api_Cond) (i : Nat), i < p.length → dotI (p.map f) ((List.replicate p.length 0).set i 1) = f (p.getD i d_api_Cond)
  | [], _, h => by simp at h
  | c :: p, 0, _ => by
    have : ∀ (p : List api_Cond), dotI (p.map f) (List.replicate p.length 0) = 0 := by
      intro p
      induction p with
      | nil => rfl
      | cons c p ih => simp [List.replicate_succ, dotI, ih]
    simp [List.replicate_succ, dotI, this p]
  | c :: p, i + 1, h => by
    have := dotI_unit f p i (by simpa using h)
    simp only [List.length_cons, List.replicate_succ, List.set_cons_succ, List.map_cons, dotI, this, List.getD_cons_succ]
    simp
theorem gather_at {α β : Type} (f : Nat → α → List β) (d : α) {y : β} : ∀ (l : List α) (i : Nat), y ∈ gather f l i → ∃ j, j < l.length ∧ y ∈ f (i + j) (l.getD j d)
  | [], i, h => by simp [gather] at h
  | x :: l, i, h => by
    rcases List.mem_append.1 h with e | e
    · exact ⟨0, by simp, by simpa using e⟩
    · obtain ⟨j, hj, hy⟩ := gather_at f d l (i + 1) e
      exact ⟨j + 1, by simpa using hj, by simpa [Nat.add_assoc, Nat.add_comm 1] using hy⟩
theorem gather_in {α β : Type} (f : Nat → α → List β) (d : α) {y : β} : ∀ (l : List α) (i j : Nat), j < l.length → y ∈ f (i + j) (l.getD j d) → y ∈ gather f l i
  | [], i, j, hj, _ => by simp at hj
  | x :: l, i, 0, _, h => List.mem_append_left _ (by simpa using h)
  | x :: l, i, j + 1, hj, h => List.mem_append_right _ (gather_in f d l (i + 1) j (by simpa using hj) (by simpa [Nat.add_assoc, Nat.add_comm 1] using h))

theorem first_row_ok {p : List api_Cond} {n : Int} (h : farkas_asked.fn p n = 0) : ∀ r ∈ (farkas_first.fn p n).2, RowOK p n.toNat r := by
  obtain ⟨hn, h96, hv⟩ := asked_ok h
  intro r hr
  obtain ⟨j, hj, hy⟩ := gather_at _ d_api_Cond _ _ hr
  rw [Nat.zero_add] at hy
  have hc := (hv _ (getD_mem d_api_Cond hj)).2
  unfold firstRow at hy
  split at hy
  · cases hy
  · rename_i h2
    rw [List.mem_singleton] at hy
    subst hy
    have hcl : (p.getD j d_api_Cond).2.2.1.length = n.toNat := by omega
    have hdu : ∀ f : api_Cond → Int, dotI (p.map f) ((List.replicate p.length 0).set j 1) = f (p.getD j d_api_Cond) := fun f => dotI_unit f p j hj
    clear hr hc
    generalize hcj : p.getD j d_api_Cond = c at *
    have hw : ∀ i, ((c.2.2.1 ++ c.2.2.2 :: (List.replicate p.length (0 : Int)).set j 1)).getD (n.toNat + 1 + i) 0 = if i = j then 1 else 0 := fun i => by
      simp only [List.getD_eq_getElem?_getD]
      rw [List.getElem?_append_right (by omega), hcl, show n.toNat + 1 + i - n.toNat = i + 1 from by omega, List.getElem?_cons_succ]
      have := getD_set (List.replicate p.length (0 : Int)) j i 1
      simp only [List.getD_eq_getElem?_getD, List.length_replicate] at this
      rw [this]
      by_cases e : i = j
      · rw [if_pos ⟨e, hj⟩, if_pos e]
      · rw [if_neg (fun h => e h.1), if_neg e, List.getElem?_replicate]; split <;> rfl
    refine ⟨?_, fun v hv' => ?_, fun i hi hc2 => ?_, fun i hi hc2 hq => ?_, fun i hi hc2 => ?_⟩
    · simp only [List.length_append, List.length_cons, List.length_set, List.length_replicate]; omega
    · simp only []
      rw [List.drop_append, List.drop_of_length_le (by omega), hcl, show n.toNat + 1 - n.toNat = 1 from by omega]
      simp only [List.nil_append, List.drop_succ_cons, List.drop_zero]
      rw [hdu]
      unfold plc
      simp only [List.getD_eq_getElem?_getD]
      split
      · rename_i hlt
        rw [List.getElem?_append_left (by omega), Int.toNat_natCast]
      · rw [List.getElem?_append_right (by omega), hcl, show v - n.toNat = 0 from by omega]; rfl
    · rw [hw]
      by_cases e : i = j
      · subst e; rw [hcj] at hc2; exact absurd hc2 h2
      · rw [if_neg e]
    · rw [hw]
      by_cases e : i = j
      · subst e; rw [hcj] at hc2; exact absurd (by simpa using hq) hc2
      · rw [if_neg e]
    · rw [hw]; split <;> omega

/-- In the table j all rows are sums of conditions, and have no variable from j on. -/
structure TabOK (p : List api_Cond) (N j : Nat) (r : farkas_row) : Prop where
  row : RowOK p N r
  zero : ∀ v, j ≤ v → v < N → r.2.getD v 0 = 0
theorem gI_toNat {v : Int} (l : List Int) (h : 0 ≤ v) : gI l v = l.getD v.toNat 0 := rfl
theorem absE_sgn (e : farkas_row) (v : Int) : absE e v = sgnE e v * gI e.2 v := by
  unfold absE sgnE; split
  · omega
  · omega
theorem absE_pos {e : farkas_row} {v : Int} (h : gI e.2 v ≠ 0) : 1 ≤ absE e v := by unfold absE; split <;> omega
theorem tab_step {p : List api_Cond} {N j : Nat} {t : farkas_table} (hj : j < N) (hok : (farkas_table_without.fn t (j : Int)).2 = 0) (ht : ∀ r ∈ t.2, TabOK p N (j + 1) r) : ∀ r ∈ (farkas_table_without.fn t (j : Int)).1.2, TabOK p N j r := by
  refine without_all hok ht (fun r hr hz => ⟨hr.row, fun v h1 h2 => ?_⟩) (fun r e hr he h1 h2 => ⟨hr.row.sum he.row (by have := absE_pos h2; omega) rfl (Or.inl h1), fun v hv1 hv2 => ?_⟩)
    (fun l u hl hu h1 h2 h3 h4 => ⟨hl.row.sum hu.row (by omega) h1.symm (Or.inr ⟨by omega, h1⟩), fun v hv1 hv2 => ?_⟩) fun r hr => ⟨hr.row.reduced, fun v h1 h2 => ?_⟩
  · by_cases e : v = j
    · subst e; rw [← gI_nat]; exact hz
    · exact hr.zero v (by omega) h2
  · have hl : r.2.length = e.2.length := by rw [hr.row.len, he.row.len]
    unfold farkas_vector_int_sum.fn
    rw [zip_getD _ _ _ _ hl]
    by_cases ev : v = j
    · subst ev; rw [gI_nat, absE_sgn, gI_nat]; grind
    · rw [hr.zero v (by omega) hv2, he.zero v (by omega) hv2]; simp
  · have hll : l.2.length = u.2.length := by rw [hl.row.len, hu.row.len]
    unfold farkas_vector_int_sum.fn
    rw [zip_getD _ _ _ _ hll]
    by_cases ev : v = j
    · subst ev; rw [gI_nat, gI_nat]; grind
    · rw [hl.zero v (by omega) hv2, hu.zero v (by omega) hv2]; simp
  · obtain ⟨g, hg, hr2, he⟩ := reduced_mul r
    have := hr.zero v h1 h2
    rw [hr2, getD_map_mul] at this
    exact mul_zero_cancel hg this
theorem tab_all {p : List api_Cond} {n : Int} (h : farkas_asked.fn p n = 0) (h0 : (farkas_eliminated.fn p n).2 = 0) : ∀ k, k ≤ n.toNat → ∀ r ∈ ((farkas_eliminated.fn p n).1.getD (n.toNat - k) d_farkas_table).2, TabOK p n.toNat (n.toNat - k) r
  | 0, _, r, hr => by
    obtain ⟨e1, e2, e3, e4⟩ := eliminated_ok h h0
    rw [Nat.sub_zero, e2] at hr
    exact ⟨first_row_ok h r hr, fun v h1 h2 => by omega⟩
  | k + 1, hk, r, hr => by
    obtain ⟨e1, e2, e3, e4⟩ := eliminated_ok h h0
    obtain ⟨f1, f2⟩ := e4 (n.toNat - (k + 1)) (by omega)
    have e : n.toNat - (k + 1) + 1 = n.toNat - k := by omega
    rw [e] at f1 f2
    rw [f2] at hr
    exact tab_step (by omega) f1 (by rw [e]; exact tab_all h h0 k (by omega)) r hr
end Go.Proofs.Ytlncingakpelbaa
