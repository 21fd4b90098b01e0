/- Part of a proof that a law of the program holds for every input: what the tables of a piece and a refutation are, in plain Lean. No conditions. -/
import Derived.Test.YtlncingakpelbaaSF2
namespace Go.Proofs.Ytlncingakpelbaa
open Go
set_option linter.unusedVariables false

theorem without_ok {L : Nat} {t : farkas_table} {v : Int} (ht : tabB L t) (hv : 0 ≤ v ∧ v < t.1) (h0 : (farkas_table_without.fn t v).2 = 0) : tabB L (farkas_table_without.fn t v).1 ∧ (farkas_table_without.fn t v).1.1 = t.1 := by
  obtain ⟨⟨ht0, htL, hL⟩, h4, hr⟩ := ht
  have hvL : v < (L : Int) := by omega
  have fin : ∀ l : List farkas_row, l.length ≤ 1048576 → rowsB 4611686018427387904 L l → (farkas_table_kept.fn t l).2 = 0 → tabB L (farkas_table_kept.fn t l).1 ∧ (farkas_table_kept.fn t l).1.1 = t.1 := fun l h1 h2 h3 => by
    obtain ⟨e, hk⟩ := kept_ok ⟨ht0, h1, L, htL, hL, h2⟩ L ⟨htL, hL⟩ h2 h3
    rw [e]; exact ⟨hk, rfl⟩
  unfold farkas_table_without.fn at h0 ⊢
  split at h0
  · rename_i hs
    rw [if_pos hs]
    rcases solver_cases (t := t) (v := v) with hc | ⟨kk, hkk, hk2, _, _⟩
    · omega
    rw [hk2, Int.toNat_natCast] at h0 ⊢
    refine fin _ ?_ (fun r hr' => ?_) h0
    · have := gather_len (wEq v kk (t.2.getD kk d_farkas_row)) (wEq_len _ _ _) t.2 0
      omega
    · obtain ⟨j, x, hx, hy⟩ := gather_mem _ _ _ hr'
      exact (wEq_ok (k := kk) (by omega) hvL hL (hr.at hkk) j (hr x hx)).2.1 r hy
  · rename_i hs
    rw [if_neg hs]
    obtain ⟨w1, w2⟩ := wIneq_ok hv.1 hvL hL hr h4
    exact fin _ w2 w1 h0
theorem kept_err (t : farkas_table) (l : List farkas_row) : ((farkas_table_kept.fn t l).2 = 0) ∨ ((farkas_table_kept.fn t l).2 = 3) := by
  unfold farkas_table_kept.fn; split
  · exact Or.inr rfl
  · split
    · exact Or.inr rfl
    · exact Or.inl rfl
theorem without_err (t : farkas_table) (v : Int) : ((farkas_table_without.fn t v).2 = 0) ∨ ((farkas_table_without.fn t v).2 = 3) := by
  unfold farkas_table_without.fn; split <;> exact kept_err _ _
theorem elimAll_err : ∀ (v : Nat) (t : farkas_table), ((elimAll t v).2 = 0) ∨ ((elimAll t v).2 = 3 ∧ (elimAll t v).1 = [])
  | 0, t => Or.inl rfl
  | v + 1, t => by
    unfold elimAll
    split
    · rename_i h
      rcases without_err t v with e | e
      · exact absurd e h
      · exact Or.inr ⟨e, rfl⟩
    · split
      · rename_i h
        rcases elimAll_err v (farkas_table_without.fn t v).1 with e | e
        · exact absurd e h
        · exact Or.inr ⟨e.1, rfl⟩
      · exact Or.inl rfl

/-! ## The first rows -/
theorem firstRow_ok {p : List api_Cond} {n : Int} (h : farkas_asked.fn p n = 0) {c : api_Cond} (hc : c ∈ p) (i : Nat) :
    rowsB 1048576 (n.toNat + 1 + p.length) (firstRow n.toNat p.length i c) := by
  obtain ⟨hn, h96, hv⟩ := asked_ok h
  obtain ⟨hv1, hv2⟩ := hv c hc
  obtain ⟨l1, l2, l3⟩ := lin_coef (valid_lin hv1)
  unfold firstRow
  split
  · intro x hx; cases hx
  · intro x hx; rw [List.mem_singleton] at hx; subst hx
    refine ⟨?_, fun y hy => ?_⟩
    · simp only [List.length_append, List.length_cons, List.length_set, List.length_replicate]; omega
    · rcases List.mem_append.1 hy with e | e
      · have := l1 y e
        simp only [num_Fits.fn, Bool.and_eq_true, decide_eq_true_eq] at this; omega
      · rcases List.mem_cons.1 e with e | e
        · subst e
          simp only [num_Fits.fn, Bool.and_eq_true, decide_eq_true_eq] at l3; omega
        · rcases List.mem_or_eq_of_mem_set e with e | e
          · have := (List.mem_replicate.1 e).2; omega
          · omega
theorem firstRow_len (n m i : Nat) (c : api_Cond) : (firstRow n m i c).length ≤ 1 := by unfold firstRow; split <;> simp

theorem farkas_first.spec (p : List api_Cond) (n : Int) (h : farkas_first.pre p n) : farkas_first.wp p n (fun x => x = farkas_first.fn p n) := by
  have h : farkas_asked.fn p n = 0 := h
  obtain ⟨hn, h96, hv⟩ := asked_ok h
  obtain ⟨N, rfl⟩ : ∃ N : Nat, n = (N : Int) := ⟨n.toNat, by omega⟩
  intro _
  refine ⟨fun m i o => ∃ k : Nat, i = (k : Int) ∧ m + k = p.length ∧ o = gather (firstRow N p.length) (p.take k) 0, ⟨p.length, 0, rfl, rfl, rfl⟩, ?_⟩
  rintro m i o ⟨k, rfl, hm, rfl⟩
  refine ⟨fun hi => ?_, fun hi => ?_⟩
  · have hk : k < p.length := by omega
    have hgt := gather_take (firstRow N p.length) d_api_Cond hk
    have hgl := gather_len (firstRow N p.length) (fun i x => firstRow_len _ _ _ _) (p.take k) 0
    rw [List.length_take] at hgl
    refine ⟨⟨by omega, hi⟩, ?_⟩
    rintro c hce
    rw [Int.toNat_natCast] at hce
    rw [← hce] at hgt
    have hcm : c ∈ p := by rw [hce]; exact getD_mem _ hk
    have hcl := (hv c hcm).2
    refine ⟨fun h2 => ⟨⟨by omega, by omega⟩, m - 1, by omega, k + 1, by omega, by omega, ?_⟩, fun h2 => ⟨⟨by omega, by omega⟩, ⟨by omega, by omega⟩, ⟨by omega, by omega, by omega, by omega⟩, ?_⟩⟩
    · rw [hgt, firstRow, if_pos h2, List.append_nil]
    · rintro x hx
      intro _
      have e1 : Int.toNat ((N : Int) + 1 + (p.length : Int)) = N + 1 + p.length := by omega
      rw [e1] at hx
      rintro y hy
      have hclN : c.2.2.1.length = N := by omega
      have hy' : y = c.2.2.1 ++ 0 :: List.replicate p.length 0 := by
        rw [hy, hx, List.length_replicate, Nat.min_eq_left (by omega), List.take_of_length_le (Nat.le_refl _), hclN, List.drop_replicate]
        congr 1
        rw [show N + 1 + p.length - N = p.length + 1 from by omega, List.replicate_succ]
      have e2 : Int.toNat ((N : Int) + 1 + (k : Int)) = N + 1 + k := by omega
      have ylen : y.length = N + 1 + p.length := by rw [hy']; simp only [List.length_append, List.length_cons, List.length_replicate]; omega
      rw [Int.toNat_natCast, e2, List.length_set, ylen]
      refine ⟨⟨by omega, by omega⟩, ⟨by omega, by omega⟩, ⟨by omega, by omega⟩, by omega, ⟨by omega, by omega⟩, by omega, ?_⟩
      rintro z hz
      have hz' : z = c.2.2.1 ++ c.2.2.2 :: (List.replicate p.length 0).set k 1 := by
        rw [hz, hy', List.set_append_right _ _ (by omega), hclN, Nat.sub_self, List.set_cons_zero, List.set_append_right _ _ (by omega), hclN, show N + 1 + k - N = k + 1 from by omega, List.set_cons_succ]
      refine ⟨⟨?_, ?_⟩, ?_⟩
      · rw [List.length_singleton]; omega
      · rw [List.length_singleton]; omega
      rintro o' rfl
      refine ⟨⟨by omega, by omega⟩, m - 1, by omega, k + 1, by omega, by omega, ?_⟩
      rw [hgt, firstRow, if_neg h2, hz']
  · have hk : k = p.length := by omega
    subst hk
    rw [List.take_of_length_le (Nat.le_refl _)]
    rfl
theorem first_ok {p : List api_Cond} {n : Int} (h : farkas_asked.fn p n = 0) : tabB (n.toNat + 1 + p.length) (farkas_first.fn p n) ∧ (farkas_first.fn p n).1 = n := by
  obtain ⟨hn, h96, hv⟩ := asked_ok h
  have hgl := gather_len (firstRow n.toNat p.length) (fun i x => firstRow_len _ _ _ _) p 0
  refine ⟨⟨⟨hn.1, ?_, ?_⟩, ?_, fun r hr => ?_⟩, rfl⟩
  · show n + 1 ≤ _; omega
  · omega
  · show (gather (firstRow n.toNat p.length) p 0).length ≤ _; omega
  · obtain ⟨j, x, hx, hy⟩ := gather_mem _ _ _ hr
    have := firstRow_ok h hx j r hy
    exact ⟨this.1, this.2.mono (by decide)⟩

/-! ## All tables -/
/-- Tables ahead of others. -/
def comb (q : List farkas_table × Int) (l : List farkas_table) : List farkas_table × Int := if q.2 ≠ 0 then ([], q.2) else (q.1 ++ l, 0)
theorem comb_nil (v : Nat) (t : farkas_table) : comb (elimAll t v) [] = elimAll t v := by
  unfold comb
  rcases elimAll_err v t with e | e
  · rw [if_neg (by rw [e]; simp), List.append_nil, ← e]
  · rw [if_pos (by rw [e.1]; decide), ← e.2]
theorem comb_step {t : farkas_table} {v : Nat} (h : (farkas_table_without.fn t v).2 = 0) (l : List farkas_table) : comb (elimAll t (v + 1)) l = comb (elimAll (farkas_table_without.fn t v).1 v) (t :: l) := by
  have e1 : elimAll t (v + 1) = if (elimAll (farkas_table_without.fn t v).1 v).2 ≠ 0 then ([], (elimAll (farkas_table_without.fn t v).1 v).2) else ((elimAll (farkas_table_without.fn t v).1 v).1 ++ [t], 0) := by
    conv => lhs; unfold elimAll
    rw [if_neg (by rw [h]; simp)]
  rw [e1]
  unfold comb
  by_cases hz : (elimAll (farkas_table_without.fn t v).1 v).2 = 0
  · rw [if_neg (by rw [hz]; simp)]
    simp [hz]
  · rw [if_pos hz]
    simp [hz]
theorem comb_err {t : farkas_table} {v : Nat} (h : (farkas_table_without.fn t v).2 ≠ 0) (l : List farkas_table) : comb (elimAll t (v + 1)) l = ([], (farkas_table_without.fn t v).2) := by
  unfold comb elimAll
  rw [if_pos h]
  simp [h]

theorem farkas_eliminated.spec (p : List api_Cond) (n : Int) (h : farkas_eliminated.pre p n) : farkas_eliminated.wp p n (fun x => x = farkas_eliminated.fn p n) := by
  have h : farkas_asked.fn p n = 0 := h
  obtain ⟨hn, h96, hv⟩ := asked_ok h
  obtain ⟨hT, hTn⟩ := first_ok h
  unfold farkas_eliminated.wp farkas_eliminated.fn
  obtain ⟨N, rfl⟩ : ∃ N : Nat, n = (N : Int) := ⟨n.toNat, by omega⟩
  refine ⟨⟨by omega, by omega⟩, ⟨by omega, by omega, by omega, by omega⟩, ?_⟩
  rintro x hx
  have e1 : Int.toNat ((N : Int) + 1) = N + 1 := by omega
  rw [e1] at hx
  have hxl : x.length = N + 1 := by rw [hx]; exact List.length_replicate
  rw [Int.toNat_natCast]
  refine ⟨h, ⟨by omega, by omega⟩, by omega, ?_⟩
  rintro T hTe
  rw [← hTe] at hT hTn ⊢
  rintro y hy
  have hy' : y = List.replicate N d_farkas_table ++ T :: [] := by
    rw [hy, hx, List.replicate_succ', List.set_append_right _ _ (by simp)]; simp
  refine ⟨⟨by omega, by omega⟩, ?_⟩
  refine ⟨fun m i o => ∃ (v : Nat) (t : farkas_table) (l : List farkas_table), i = (v : Int) - 1 ∧ m = v ∧ v + 1 + l.length = N + 1 ∧ o = List.replicate v d_farkas_table ++ t :: l ∧ (tabB (N + 1 + p.length) t ∧ t.1 = (N : Int)) ∧ elimAll T N = comb (elimAll t v) l, ⟨N, N, T, [], rfl, rfl, rfl, hy', ⟨hT, hTn⟩, (comb_nil _ _).symm⟩, ?_⟩
  rintro m i o ⟨v, t, l, rfl, hm, hl, rfl, ⟨ht, htn⟩, hc⟩
  refine ⟨fun hi => ?_, fun hi => ?_⟩
  · obtain ⟨u, rfl⟩ : ∃ u, v = u + 1 := ⟨v - 1, by omega⟩
    have e2 : Int.toNat (((u + 1 : Nat) : Int) - 1 + 1) = u + 1 := by omega
    have e3 : Int.toNat (((u + 1 : Nat) : Int) - 1) = u := by omega
    have e4 : ((u + 1 : Nat) : Int) - 1 = (u : Int) := by omega
    have olen : (List.replicate (u + 1) d_farkas_table ++ t :: l).length = N + 1 := by rw [List.length_append, List.length_replicate, List.length_cons]; omega
    have oget : (List.replicate (u + 1) d_farkas_table ++ t :: l).getD (u + 1) d_farkas_table = t := by simp [List.getD_eq_getElem?_getD]
    rw [e2, e3, e4, olen, oget]
    refine ⟨⟨by omega, by omega⟩, ⟨by omega, by omega⟩, by omega, ⟨by omega, by omega, _, ht⟩, ⟨by omega, by omega⟩, by omega, ?_⟩
    rintro w rfl
    rintro e he
    rintro o' ho'
    refine ⟨fun hne => ?_, fun heq => ⟨⟨by omega, by omega⟩, m - 1, by omega, u, (farkas_table_without.fn t u).1, t :: l, rfl, by omega, by rw [List.length_cons]; omega, ?_, ?_, ?_⟩⟩
    · rw [hc, comb_err (by rw [← he]; exact hne), he]
    · rw [ho', List.replicate_succ', List.append_assoc, List.set_append_right _ _ (by simp)]; simp
    · have := without_ok (v := (u : Int)) ht ⟨by omega, by omega⟩ (by rw [← he]; exact heq)
      exact ⟨this.1, by rw [this.2]; exact htn⟩
    · rw [hc]; exact comb_step (by rw [← he]; exact heq) l
  · have hv0 : v = 0 := by omega
    subst hv0
    rw [hc]; rfl

/-- The tables, one after the other. -/
theorem elimAll_ok {L : Nat} : ∀ (v : Nat) (t : farkas_table), tabB L t → (v : Int) ≤ t.1 → (elimAll t v).2 = 0 →
    (elimAll t v).1.length = v + 1 ∧ (elimAll t v).1.getD v d_farkas_table = t ∧ (∀ j, j ≤ v → tabB L ((elimAll t v).1.getD j d_farkas_table) ∧ ((elimAll t v).1.getD j d_farkas_table).1 = t.1) ∧
    ∀ j, j < v → (farkas_table_without.fn ((elimAll t v).1.getD (j + 1) d_farkas_table) j).2 = 0 ∧ (elimAll t v).1.getD j d_farkas_table = (farkas_table_without.fn ((elimAll t v).1.getD (j + 1) d_farkas_table) j).1
  | 0, t, ht, _, _ => ⟨rfl, rfl, fun j hj => by
      have : j = 0 := by omega
      subst this; exact ⟨ht, rfl⟩, fun j hj => by omega⟩
  | v + 1, t, ht, hv, h => by
    unfold elimAll at h ⊢
    split at h
    · rename_i h1; exact absurd h h1
    · rename_i h1
      have h1 : (farkas_table_without.fn t v).2 = 0 := Classical.byContradiction h1
      split at h
      · rename_i h2; exact absurd h h2
      · rename_i h2
        have h2 : (elimAll (farkas_table_without.fn t v).1 v).2 = 0 := Classical.byContradiction h2
        rw [if_neg (by rw [h1]; simp), if_neg (by rw [h2]; simp)]
        have hw := without_ok ht ⟨by omega, by omega⟩ h1
        obtain ⟨i1, i2, i3, i4⟩ := elimAll_ok v (farkas_table_without.fn t v).1 hw.1 (by rw [hw.2]; omega) h2
        generalize hl : (elimAll (farkas_table_without.fn t v).1 v).1 = l at *
        have glt : ∀ j, j ≤ v → (l ++ [t]).getD j d_farkas_table = l.getD j d_farkas_table := fun j hj => by
          simp only [List.getD_eq_getElem?_getD]; rw [List.getElem?_append_left (by omega)]
        have gge : (l ++ [t]).getD (v + 1) d_farkas_table = t := by
          simp only [List.getD_eq_getElem?_getD]; rw [List.getElem?_append_right (by omega), i1]; simp
        refine ⟨by rw [List.length_append, i1]; rfl, gge, fun j hj => ?_, fun j hj => ?_⟩
        · by_cases e : j = v + 1
          · subst e; simp only [gge]; exact ⟨ht, trivial⟩
          · simp only [glt j (by omega)]
            have := i3 j (by omega)
            exact ⟨this.1, by rw [this.2, hw.2]⟩
        · by_cases e : j = v
          · subst e; simp only [gge, glt j (Nat.le_refl _)]; exact ⟨h1, i2⟩
          · simp only [glt j (by omega), glt (j + 1) (by omega)]; exact i4 j (by omega)

/-! ## The row that is false -/
theorem neg_map_bound {B : Int} {l : List Int} (h : inB B l) : inB B (l.map fun x => -x) := fun x hx => by
  obtain ⟨y, hy, rfl⟩ := List.mem_map.1 hx
  have := h y hy; exact ⟨by omega, by omega⟩
theorem farkas_table_refuted.spec (t : farkas_table) (h : farkas_table_refuted.pre t) : farkas_table_refuted.wp t (fun x => x = farkas_table_refuted.fn t) := by
  obtain ⟨L, ⟨ht, htL, hL⟩, h4, hr⟩ := h
  unfold farkas_table_refuted.wp farkas_table_refuted.fn
  intro _
  generalize hR : refuteL t.1 t.2 = R
  refine ⟨fun m i => ∃ k : Nat, i = (k : Int) ∧ m + k = t.2.length ∧ R = refuteL t.1 (t.2.drop k), ⟨t.2.length, 0, rfl, rfl, hR.symm⟩, ?_⟩
  rintro m i ⟨k, rfl, hm, hq⟩
  refine ⟨fun hi => ?_, fun hi => ?_⟩
  · have hk : k < t.2.length := by omega
    have hrk := hr.at hk
    refine ⟨⟨by omega, hi⟩, ?_⟩
    rintro r hre
    rw [Int.toNat_natCast] at hre
    rw [drop_get d_farkas_row hk, ← hre] at hq
    rw [← hre] at hrk
    unfold refuteL at hq
    have hb : ((decide (gI r.2 t.1 ≥ 0) && ((!r.1) || (gI r.2 t.1 == 0))) = true) ↔ (gI r.2 t.1 ≥ 0 ∧ (r.1 = false ∨ gI r.2 t.1 = 0)) := by
      simp only [Bool.and_eq_true, Bool.or_eq_true, decide_eq_true_eq, Bool.not_eq_true', beq_iff_eq]
    refine ⟨⟨ht, by rw [hrk.1]; omega⟩, fun hc => ⟨⟨by omega, by omega⟩, m - 1, by omega, k + 1, by omega, by omega, ?_⟩, fun hc => ⟨⟨by omega, by omega⟩, ⟨by omega, by rw [hrk.1]; omega⟩, ?_, ?_⟩⟩
    · rw [hb] at hc; rw [if_pos hc] at hq; exact hq
    · show (r.2.drop (Int.toNat (t.1 + 1))).length * 8 ≤ _
      rw [List.length_drop]; omega
    · have hc' : ¬ (gI r.2 t.1 ≥ 0 ∧ (r.1 = false ∨ gI r.2 t.1 = 0)) := fun e => by rw [← hb] at e; rw [e] at hc; cases hc
      rw [if_neg hc'] at hq
      rintro w hw
      have hw' : w = r.2.drop (Int.toNat (t.1 + 1)) := hw
      have hwl : w.length ≤ L := by rw [hw', List.length_drop]; omega
      have hwb : inB 1073741824 w := fun x hx => hrk.2 x (List.mem_of_mem_drop (by rw [← hw']; exact hx))
      rw [← hw'] at hq
      refine ⟨fun hp => ?_, fun hp => ?_⟩
      · rw [if_pos hp] at hq
        refine ⟨fun n i o => ∃ k : Nat, i = (k : Int) ∧ n + k = w.length ∧ o = (w.take k).map (fun x => -x) ++ w.drop k, ⟨w.length, 0, rfl, rfl, by simp⟩, ?_⟩
        rintro n i o ⟨k, rfl, hn, rfl⟩
        rw [len_step, Int.toNat_natCast]
        refine ⟨fun hi => ?_, fun hi => ?_⟩
        · have hk : k < w.length := by omega
          rw [map_get_step _ _ _ hk]
          have := hwb _ (getD_mem 0 hk)
          refine ⟨⟨by omega, hi⟩, hk, ⟨by omega, by omega⟩, ⟨by omega, hi⟩, hk, ?_⟩
          rintro z rfl
          exact ⟨⟨by omega, by omega⟩, n - 1, by omega, k + 1, by omega, by omega, map_set_step (α := Int) _ _ _ hk⟩
        · have hk : k = w.length := by omega
          subst hk
          rw [hq]; simp
      · rw [if_neg hp] at hq; exact hq.symm
  · rw [List.drop_of_length_le (by omega)] at hq
    exact hq.symm

/-- What the tables of a piece are. -/
theorem eliminated_ok {p : List api_Cond} {n : Int} (h : farkas_asked.fn p n = 0) (h0 : (farkas_eliminated.fn p n).2 = 0) :
    (farkas_eliminated.fn p n).1.length = n.toNat + 1 ∧ (farkas_eliminated.fn p n).1.getD n.toNat d_farkas_table = farkas_first.fn p n ∧
    (∀ j, j ≤ n.toNat → tabB (n.toNat + 1 + p.length) ((farkas_eliminated.fn p n).1.getD j d_farkas_table) ∧ ((farkas_eliminated.fn p n).1.getD j d_farkas_table).1 = n) ∧
    ∀ j, j < n.toNat → (farkas_table_without.fn ((farkas_eliminated.fn p n).1.getD (j + 1) d_farkas_table) j).2 = 0 ∧ (farkas_eliminated.fn p n).1.getD j d_farkas_table = (farkas_table_without.fn ((farkas_eliminated.fn p n).1.getD (j + 1) d_farkas_table) j).1 := by
  obtain ⟨hn, h96, hv⟩ := asked_ok h
  obtain ⟨hT, hTn⟩ := first_ok h
  obtain ⟨a, b, c, d⟩ := elimAll_ok n.toNat (farkas_first.fn p n) hT (by rw [hTn]; omega) h0
  exact ⟨a, b, fun j hj => ⟨(c j hj).1, by have := (c j hj).2; rw [hTn] at this; exact this⟩, d⟩

theorem farkas_Prove.spec (p : List api_Cond) (n : Int) : farkas_Prove.wp p n (fun x => x = farkas_Prove.fn p n) := by
  unfold farkas_Prove.wp farkas_Prove.fn
  rintro e rfl
  refine ⟨fun he => by rw [if_pos he], fun he => ⟨he, ?_⟩⟩
  rw [if_neg (by rw [he]; simp)]
  rintro q rfl
  refine ⟨fun hq => by rw [if_pos hq], fun hq => ?_⟩
  rw [if_neg (by rw [hq]; simp)]
  obtain ⟨e1, e2, e3, e4⟩ := eliminated_ok he hq
  refine ⟨⟨by omega, by omega⟩, ⟨_, (e3 0 (Nat.zero_le _)).1⟩, ?_⟩
  rintro r rfl
  rintro w rfl
  simp only [Int.toNat_zero]
  refine ⟨fun h => by rw [if_neg (by rw [h]; simp)], fun h => by rw [if_pos h]⟩
end Go.Proofs.Ytlncingakpelbaa
