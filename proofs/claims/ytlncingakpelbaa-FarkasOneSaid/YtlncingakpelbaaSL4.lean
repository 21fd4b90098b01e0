/- Part of a proof that a law of the program holds for every input: the rational point lies in the piece, in lowest terms, in plain Lean. No conditions. -/
import Derived.Test.YtlncingakpelbaaSL3
namespace Go.Proofs.Ytlncingakpelbaa
open Go
set_option linter.unusedVariables false

/-- A row that the chosen value satisfies. -/
def satR (a : farkas_point) (n : Int) (f : farkas_fraction) (r : farkas_row) : Prop := (r.1 = true → rowS a n r * f.2 + cf a r * f.1 = 0) ∧ 0 ≤ rowS a n r * f.2 + cf a r * f.1

theorem rowS_sum {a : farkas_point} {n u w : Int} {q : Bool} {r e : farkas_row} (hl : r.2.length = e.2.length) : rowS a n (q, farkas_vector_int_sum.fn r.2 u w e.2) = u * rowS a n r + w * rowS a n e := by
  unfold rowS farkas_vector_int_sum.fn
  have h1 : gI (List.zipWith (fun p q => u * p + w * q) r.2 e.2) n = u * gI r.2 n + w * gI e.2 n := zip_getD u w r.2 e.2 hl n.toNat
  simp only []
  rw [h1, dotI_zipL _ _ _ _ _ hl]; grind

theorem sat_zero {a : farkas_point} {n : Int} {f : farkas_fraction} {r : farkas_row} (hf : 1 ≤ f.2) (h0 : cf a r = 0) (h : holdsR a n r) : satR a n f r := by
  unfold satR
  rw [h0, Int.zero_mul, Int.add_zero]
  exact ⟨fun h1 => by rw [h.1 h1]; simp, Int.mul_nonneg h.2 (by omega)⟩

/-- The bound of a row, between two rows of different signs. -/
theorem sat_of_le {a : farkas_point} {n : Int} {f : farkas_fraction} {r : farkas_row} (hq : r.1 = false) (h0 : cf a r ≠ 0) (hf : 1 ≤ f.2) (h : if cf a r > 0 then fle (bd a n r) f else fle f (bd a n r)) : satR a n f r := by
  obtain ⟨b1, b2⟩ := bd_eq a n h0
  have bp := bd_pos a n h0
  refine ⟨fun h1 => by rw [hq] at h1; (cases h1), ?_⟩
  generalize bd a n r = b at *
  generalize rowS a n r = S at *
  generalize cf a r = c at *
  unfold fle at h
  by_cases hc : c > 0
  · rw [if_pos hc] at h
    rw [if_neg (by omega)] at b2
    -- b.2 = c, b.1 * c = -(S * c)
    rw [b2] at b1 h
    have : b.1 = -S := Int.eq_of_mul_eq_mul_right (a := c) (by omega) (by rw [b1]; grind)
    rw [this] at h
    grind
  · rw [if_neg hc] at h
    have hc' : c < 0 := by omega
    rw [if_pos hc'] at b2
    rw [b2] at b1 h
    have : b.1 = S := Int.eq_of_mul_eq_mul_right (a := c) (by omega) (by rw [b1]; grind)
    rw [this] at h
    grind

theorem sat_all {a : farkas_point} {n : Int} {t : farkas_table} (htn : t.1 = n) (hl : ∀ r ∈ t.2, ∀ e ∈ t.2, r.2.length = e.2.length) (h : ∀ r ∈ wList t (a.1.length : Int), holdsR a n r) :
    1 ≤ (farkas_point_value.fn a t).2 ∧ ∀ r ∈ t.2, satR a n (farkas_point_value.fn a t) r := by
  unfold farkas_point_value.fn
  rw [htn]
  unfold wList at h
  rcases solver_cases (t := t) (v := (a.1.length : Int)) with ⟨hc, hne⟩ | ⟨k, hk, hk2, hk3, hk4⟩
  · rw [if_neg (by omega)] at h
    have hq : ∀ r ∈ t.2, cf a r ≠ 0 → r.1 = false := fun x hx h => by
      cases h1 : x.1 with
      | false => rfl
      | true => exact absurd (hne x hx h1) h
    have hz : ∀ r ∈ t.2, cf a r = 0 → holdsR a n r := fun r hr h0 => h r (List.mem_append_left _ (List.mem_filter.2 ⟨hr, by rw [show gI r.2 a.1.length = 0 from h0]; rfl⟩))
    have hp : ∀ x ∈ t.2, ∀ y ∈ t.2, cf a x > 0 → cf a y < 0 → 0 ≤ -(cf a y) * rowS a n x + cf a x * rowS a n y := fun x hx y hy h1 h2 => by
      have := h _ (List.mem_append_right _ (List.mem_flatMap.2 ⟨x, hx, List.mem_flatMap.2 ⟨y, hy, by unfold wPair; rw [if_pos ⟨h1, h2⟩]; exact List.mem_singleton.2 rfl⟩⟩))
      have h3 := this.2
      rw [rowS_sum (hl x hx y hy)] at h3
      exact h3
    by_cases hlo : ∃ r ∈ t.2, cf a r > 0
    · obtain ⟨i0, i1, i2, i3⟩ := valueL_low a n t.2 none none hq (fun g hg => by cases hg) (Or.inr hlo)
      generalize valueL a n t.2 none none = f at *
      refine ⟨i0, fun r hr => ?_⟩
      by_cases h0 : cf a r = 0
      · exact sat_zero i0 h0 (hz r hr h0)
      · refine sat_of_le (hq r hr h0) h0 i0 ?_
        by_cases hpos : cf a r > 0
        · rw [if_pos hpos]; exact i2 r hr hpos
        · rw [if_neg hpos]
          rcases i3 with h3 | ⟨x, hx, hx2, rfl⟩
          · cases h3
          · have hpp := hp x hx r hr hx2 (by omega)
            obtain ⟨b1, b2⟩ := bd_eq a n (show cf a x ≠ 0 by omega)
            obtain ⟨c1, c2⟩ := bd_eq a n h0
            rw [if_neg (by omega)] at b2
            rw [if_pos (by omega)] at c2
            unfold fle
            generalize bd a n x = b at *
            generalize bd a n r = g at *
            generalize rowS a n x = S at *
            generalize rowS a n r = T at *
            generalize cf a x = c at *
            generalize cf a r = d at *
            rw [b2] at b1 ⊢
            rw [c2] at c1 ⊢
            have eb : b.1 = -S := Int.eq_of_mul_eq_mul_right (a := c) (by omega) (by rw [b1]; grind)
            have ec : g.1 = T := Int.eq_of_mul_eq_mul_right (a := d) (by omega) (by rw [c1]; grind)
            rw [eb, ec]; grind
    · have hno : ∀ r ∈ t.2, ¬ cf a r > 0 := fun r hr h => hlo ⟨r, hr, h⟩
      by_cases hhi : ∃ r ∈ t.2, cf a r < 0
      · obtain ⟨i0, i1, i2⟩ := valueL_high a n t.2 none hq hno (fun g hg => by cases hg) (Or.inr hhi)
        generalize valueL a n t.2 none none = f at *
        refine ⟨i0, fun r hr => ?_⟩
        by_cases h0 : cf a r = 0
        · exact sat_zero i0 h0 (hz r hr h0)
        · have hn := hno r hr
          refine sat_of_le (hq r hr h0) h0 i0 ?_
          rw [if_neg hn]; exact i2 r hr (by omega)
      · have h0 : ∀ r ∈ t.2, cf a r = 0 := fun r hr => by
          have h1 := hno r hr
          apply Classical.byContradiction
          intro h2
          exact hhi ⟨r, hr, by omega⟩
        rw [valueL_none a n t.2 h0]
        exact ⟨by decide, fun r hr => sat_zero (by decide) (h0 r hr) (hz r hr (h0 r hr))⟩
  · rw [if_pos (by omega), hk2, Int.toNat_natCast] at h
    have hem : t.2.getD k d_farkas_row ∈ t.2 := getD_mem _ hk
    generalize hee : t.2.getD k d_farkas_row = e at *
    -- what the rows of the next table say
    have hz : ∀ r ∈ t.2, r = e ∨ (cf a r = 0 ∧ holdsR a n r) ∨ (cf a r ≠ 0 ∧ (r.1 = true → absE e a.1.length * rowS a n r + -(sgnE e a.1.length) * cf a r * rowS a n e = 0) ∧ 0 ≤ absE e a.1.length * rowS a n r + -(sgnE e a.1.length) * cf a r * rowS a n e) := fun r hr => by
      obtain ⟨j, hj, rfl⟩ := List.getElem_of_mem hr
      have ej : t.2[j] = t.2.getD j d_farkas_row := by simp [List.getD_eq_getElem?_getD, hj]
      by_cases ejk : j = k
      · left; rw [ej, ejk]; exact hee
      · right
        by_cases h0 : cf a t.2[j] = 0
        · left
          refine ⟨h0, h _ (gather_in _ d_farkas_row t.2 0 j hj ?_)⟩
          rw [Nat.zero_add, ← ej]
          unfold wEq
          rw [if_neg (by omega), if_pos h0]
          exact List.mem_singleton.2 rfl
        · right
          have := h _ (gather_in _ d_farkas_row t.2 0 j hj (by
            rw [Nat.zero_add, ← ej]
            unfold wEq
            rw [if_neg (by omega), if_neg h0]
            exact List.mem_singleton.2 rfl))
          unfold holdsR at this
          rw [rowS_sum (hl _ hr _ hem)] at this
          exact ⟨h0, this.1, this.2⟩
    have ha := absE_sgn e (a.1.length : Int)
    have hap := absE_pos hk4
    have hs : sgnE e a.1.length * sgnE e a.1.length = 1 := by unfold sgnE; split <;> rfl
    obtain ⟨r0, hr0, hr1, hr2, hrv⟩ := valueL_eq a n t.2 none none ⟨e, hem, hk3, hk4⟩
    rw [hrv]
    have bp := bd_pos a n hr2
    obtain ⟨b1, b2⟩ := bd_eq a n hr2
    refine ⟨bp, ?_⟩
    -- the bound is that of the row that solves
    have be : (bd a n r0).1 * cf a e = -(rowS a n e * (bd a n r0).2) := by
      rcases hz r0 hr0 with he | ⟨h0, _⟩ | ⟨h0, h1, _⟩
      · rw [← he]; exact b1
      · exact absurd h0 hr2
      · have h1 := h1 hr1
        have hce : cf a e = sgnE e a.1.length * absE e a.1.length := by rw [ha, ← Int.mul_assoc, hs, Int.one_mul]
        rw [hce]
        generalize bd a n r0 = b at *
        generalize rowS a n r0 = S at *
        generalize rowS a n e = T at *
        generalize cf a r0 = c at *
        generalize sgnE e a.1.length = s at *
        generalize absE e a.1.length = A at *
        refine Int.eq_of_mul_eq_mul_left (a := c) hr2 ?_
        have : s * (A * S) = s * (s * c * T) := by
          have : A * S = s * c * T := by grind
          rw [this]
        grind
    intro r hr
    rcases hz r hr with he | ⟨h0, h1⟩ | ⟨h0, h1, h2⟩
    · subst he
      have : rowS a n r * (bd a n r0).2 + cf a r * (bd a n r0).1 = 0 := by rw [Int.mul_comm (cf a r), be]; omega
      exact ⟨fun _ => this, by rw [this]; decide⟩
    · exact sat_zero bp h0 h1
    · have hce : cf a e = sgnE e a.1.length * absE e a.1.length := by rw [ha, ← Int.mul_assoc, hs, Int.one_mul]
      have key : absE e a.1.length * (rowS a n r * (bd a n r0).2 + cf a r * (bd a n r0).1) = (bd a n r0).2 * (absE e a.1.length * rowS a n r + -(sgnE e a.1.length) * cf a r * rowS a n e) := by
        rw [hce] at be
        generalize bd a n r0 = b at *
        generalize rowS a n r = S at *
        generalize rowS a n e = T at *
        generalize cf a r = c at *
        generalize sgnE e a.1.length = s at *
        generalize absE e a.1.length = A at *
        have : s * (b.1 * (s * A)) = s * -(T * b.2) := by rw [be]
        grind
      refine ⟨fun hq => ?_, ?_⟩
      · rw [h1 hq, Int.mul_zero] at key
        exact mul_zero_cancel hap key
      · refine pos_mul hap ?_
        rw [key]
        exact Int.mul_nonneg (by omega) h2

/-- A row that the value satisfies holds at the new point. -/
theorem sat_holds {a : farkas_point} {n : Int} {f : farkas_fraction} {r : farkas_row} (h : farkas_point_with.pre a f) (h0 : (farkas_point_with.fn a f).2 = 0) (hlen : a.1.length < r.2.length) (hs : satR a n f r) : holdsR (farkas_point_with.fn a f).1 n r := by
  obtain ⟨w1, w2, w3, w4⟩ := with_ok h h0
  obtain ⟨⟨h12, hx, d1, d2⟩, hf⟩ := h
  have L := low hf ⟨d1, d2⟩
  obtain ⟨k1, k2, k3, k4, k5⟩ := lcm_ok L.D.1 d1
  rw [w1]
  have mA := tdiv_mul k5
  have mB := tdiv_mul k4
  have g1 := tdiv_mul (x := f.1) (g := gcdL [f.1, f.2]) (gcdL_dvd (by simp))
  have g2 := tdiv_mul (x := f.2) (g := gcdL [f.1, f.2]) (gcdL_dvd (by simp))
  have g3 := tdiv_mul (x := Int.tdiv f.1 (gcdL [f.1, f.2])) (g := gcdL [Int.tdiv f.1 (gcdL [f.1, f.2]), a.2]) (gcdL_dvd (by simp))
  have g4 := tdiv_mul (x := a.2) (g := gcdL [Int.tdiv f.1 (gcdL [f.1, f.2]), a.2]) (gcdL_dvd (by simp))
  have hND : lowN f a.2 * (f.2 * a.2) = f.1 * lowD f a.2 := by
    unfold lowN lowD
    generalize gcdL [Int.tdiv f.1 (gcdL [f.1, f.2]), a.2] = h at *
    generalize Int.tdiv f.1 (gcdL [f.1, f.2]) = n0 at *
    generalize Int.tdiv f.2 (gcdL [f.1, f.2]) = d0 at *
    generalize gcdL [f.1, f.2] = g at *
    generalize Int.tdiv a.2 h = q at *
    generalize Int.tdiv n0 h = m at *
    rw [← g1, ← g2, ← g4]
    have : n0 = m * h := g3.symm
    rw [this]; grind
  have hS : rowS (a.1.map (fun x => x * Int.tdiv (lcmI (lowD f a.2) a.2) a.2) ++ [lowN f a.2 * Int.tdiv (lcmI (lowD f a.2) a.2) (lowD f a.2)], lcmI (lowD f a.2) a.2) n r =
      Int.tdiv (lcmI (lowD f a.2) a.2) a.2 * rowS a n r + cf a r * (lowN f a.2 * Int.tdiv (lcmI (lowD f a.2) a.2) (lowD f a.2)) := by
    unfold rowS
    simp only []
    generalize Int.tdiv (lcmI (lowD f a.2) a.2) (lowD f a.2) = B at *
    generalize Int.tdiv (lcmI (lowD f a.2) a.2) a.2 = A at *
    have hd : dotI r.2 (a.1.map (fun x => x * A) ++ [lowN f a.2 * B]) = A * dotI r.2 a.1 + cf a r * (lowN f a.2 * B) := by
      have h1 := dotI_succ r.2 (a.1.map (fun x => x * A) ++ [lowN f a.2 * B]) a.1.length hlen (by simp)
      have e1 : (a.1.map (fun x => x * A) ++ [lowN f a.2 * B]).take (a.1.length + 1) = a.1.map (fun x => x * A) ++ [lowN f a.2 * B] := List.take_of_length_le (by simp)
      have e2 : (a.1.map (fun x => x * A) ++ [lowN f a.2 * B]).take a.1.length = a.1.map (fun x => x * A) := by rw [List.take_append_of_le_length (by simp)]; exact List.take_of_length_le (by simp)
      have e3 : (a.1.map (fun x => x * A) ++ [lowN f a.2 * B]).getD a.1.length 0 = lowN f a.2 * B := by simp [List.getD_eq_getElem?_getD]
      have e4 := dotI_take r.2 (a.1.map (fun x => x * A) ++ [lowN f a.2 * B])
      rw [List.length_append, List.length_map, List.length_singleton] at e4
      have e5 := dotI_take r.2 (a.1.map (fun x => x * A))
      rw [List.length_map] at e5
      rw [e1, e2, e3, e4, e5, dotI_mulR'] at h1
      rw [h1, ← gI_nat]
    rw [hd, ← mA]; grind
  unfold holdsR
  rw [hS]
  have hA : 1 ≤ Int.tdiv (lcmI (lowD f a.2) a.2) a.2 := tdiv_pos k3 d1 k5
  generalize Int.tdiv (lcmI (lowD f a.2) a.2) a.2 = A at *
  generalize Int.tdiv (lcmI (lowD f a.2) a.2) (lowD f a.2) = B at *
  generalize lcmI (lowD f a.2) a.2 = D at *
  obtain ⟨s1, s2⟩ := hs
  have hf2 := hf.2.1
  generalize rowS a n r = S at *
  generalize cf a r = c at *
  have key : f.2 * (A * S + c * (lowN f a.2 * B)) = A * (S * f.2 + c * f.1) := by
    have hB : lowN f a.2 * f.2 * B = f.1 * A := by
      refine Int.eq_of_mul_eq_mul_right (a := a.2) (by omega) ?_
      generalize lowN f a.2 = N at *
      generalize lowD f a.2 = Q at *
      have : N * (f.2 * a.2) * B = f.1 * Q * B := by rw [hND]
      grind
    grind
  refine ⟨fun hq => ?_, ?_⟩
  · rw [s1 hq, Int.mul_zero] at key
    exact mul_zero_cancel hf2 key
  · refine pos_mul hf2 ?_
    rw [key]; exact Int.mul_nonneg (by omega) s2

/-! ## All values -/
theorem innerL_ok {p : List api_Cond} {n : Int} (h : farkas_asked.fn p n = 0) (h0 : (farkas_eliminated.fn p n).2 = 0) : ∀ (m k : Nat) (a : farkas_point), m + k = n.toNat → ptB a → a.1.length = k → Prim a →
    (∀ r ∈ ((farkas_eliminated.fn p n).1.getD k d_farkas_table).2, holdsR a n r) → (innerL (farkas_eliminated.fn p n).1 m k a).2.2 = 0 →
    ∃ b : farkas_point, innerL (farkas_eliminated.fn p n).1 m k a = (b.1, b.2, 0) ∧ ptB b ∧ b.1.length = n.toNat ∧ Prim b ∧ ∀ r ∈ (farkas_first.fn p n).2, holdsR b n r
  | 0, k, a, hm, ha, hl, hp, hr, _ => by
    obtain ⟨e1, e2, e3, e4⟩ := eliminated_ok h h0
    refine ⟨a, rfl, ha, by omega, hp, ?_⟩
    rw [Nat.zero_add] at hm
    rw [hm, e2] at hr
    exact hr
  | m + 1, k, a, hm, ha, hl, hp, hr, hz => by
    obtain ⟨hn, h96, hv⟩ := asked_ok h
    obtain ⟨e1, e2, e3, e4⟩ := eliminated_ok h h0
    have T := e3 (k + 1) (by omega)
    obtain ⟨s1, s2⟩ := inner_step (a := a) (n := n) (k := k) (by omega) hn.2 T ha hl
    obtain ⟨f1, f2⟩ := e4 k (by omega)
    unfold innerL at hz ⊢
    split at hz
    · rename_i hne; exact absurd hz hne
    · rename_i hne
      rw [if_neg hne]
      have hok := Classical.byContradiction hne
      obtain ⟨w1, w2, w3, w4⟩ := with_ok s2 hok
      rw [f2, without_list f1] at hr
      have hlist := holds_list (a := a) (n := n) (l := wList ((farkas_eliminated.fn p n).1.getD (k + 1) d_farkas_table) (k : Int)) hn.1 (by omega) (by rw [T.2] at hr; exact hr)
      rw [show (k : Int) = (a.1.length : Int) by rw [hl]] at hlist
      have hrow := T.1.2.2
      obtain ⟨v1, v2⟩ := sat_all (a := a) T.2 (fun r hr e he => by rw [(hrow r hr).1, (hrow e he).1]) hlist
      refine innerL_ok h h0 m (k + 1) _ (by omega) ⟨by rw [w4]; omega, w2, w3⟩ (by rw [w4, hl]) (with_prim s2 hp hok) (fun r hr => ?_) hz
      exact sat_holds s2 hok (by rw [(hrow r hr).1]; omega) (v2 r hr)

theorem inner_ok {p : List api_Cond} {n : Int} (h : farkas_asked.fn p n = 0) (h0 : (farkas_eliminated.fn p n).2 = 0) (hr : (farkas_table_refuted.fn ((farkas_eliminated.fn p n).1.getD 0 d_farkas_table)).2 = false)
    (hz : (innerL (farkas_eliminated.fn p n).1 n.toNat 0 ([], 1)).2.2 = 0) :
    ∃ b : farkas_point, innerL (farkas_eliminated.fn p n).1 n.toNat 0 ([], 1) = (b.1, b.2, 0) ∧ ptB b ∧ b.1.length = n.toNat ∧ Prim b ∧ ∀ r ∈ (farkas_first.fn p n).2, holdsR b n r := by
  obtain ⟨e1, e2, e3, e4⟩ := eliminated_ok h h0
  refine innerL_ok h h0 n.toNat 0 ([], 1) rfl ⟨by decide, by decide, by decide, by decide⟩ rfl rfl (fun r hr' => ?_) hz
  have hn0 := (e3 0 (Nat.zero_le _)).2
  have := refuteL_false _ _ hr r hr'
  rw [hn0] at this
  unfold holdsR rowS
  have e : dotI r.2 ([] : List Int) = 0 := by cases r.2 <;> rfl
  simp only [e, Int.mul_one, Int.add_zero]
  refine ⟨fun h1 => ?_, this.1⟩
  rcases this.2 with h2 | h2
  · rw [h1] at h2; cases h2
  · exact h2
theorem innerL_err {ts : List farkas_table} : ∀ (m k : Nat) (a : farkas_point), (innerL ts m k a).2.2 = 0 ∨ (innerL ts m k a).2.2 = 3
  | 0, _, _ => Or.inl rfl
  | m + 1, k, a => by
    unfold innerL
    split
    · rename_i h
      rcases with_err a (farkas_point_value.fn a (ts.getD (k + 1) d_farkas_table)) with e | e
      · exact absurd e h
      · exact Or.inr e
    · exact innerL_err m (k + 1) _
end Go.Proofs.Ytlncingakpelbaa
