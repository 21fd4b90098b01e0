/- Part of a proof that a law of the program holds for every input: a refutation is accepted; a rational point lies in the piece, in lowest terms; in plain Lean. No conditions. -/
import Derived.Test.YtlncingakpelbaaSL1
namespace Go.Proofs.Ytlncingakpelbaa
open Go
set_option linter.unusedVariables false

/-! ## The refutation -/
theorem refuteL_true (n : Int) : ∀ (l : List farkas_row), (refuteL n l).2 = true → ∃ r ∈ l, ¬ (gI r.2 n ≥ 0 ∧ (r.1 = false ∨ gI r.2 n = 0)) ∧ (refuteL n l).1 = if gI r.2 n > 0 then (r.2.drop (Int.toNat (n + 1))).map (fun x => -x) else r.2.drop (Int.toNat (n + 1))
  | [], h => by cases h
  | r :: l, h => by
    unfold refuteL at h ⊢
    split at h
    · rename_i hc
      rw [if_pos hc]
      obtain ⟨x, hx, hr⟩ := refuteL_true n l h
      exact ⟨x, List.mem_cons_of_mem _ hx, hr⟩
    · rename_i hc
      rw [if_neg hc]
      exact ⟨r, List.mem_cons_self, hc, rfl⟩
theorem refuteL_false (n : Int) : ∀ (l : List farkas_row), (refuteL n l).2 = false → ∀ r ∈ l, gI r.2 n ≥ 0 ∧ (r.1 = false ∨ gI r.2 n = 0)
  | [], _, r, hr => by cases hr
  | x :: l, h, r, hr => by
    unfold refuteL at h
    split at h
    · rename_i hc
      rcases List.mem_cons.1 hr with e | e
      · subst e; exact hc
      · exact refuteL_false n l h r e
    · cases h
theorem badWs_of : ∀ (p : List api_Cond) (w : List Int), p.length = w.length → (∀ i, i < p.length → badW (p.getD i d_api_Cond) (w.getD i 0) = false) → badWs p w = false
  | [], _, _, _ => by simp [badWs]
  | _ :: _, [], _, _ => by simp [badWs]
  | c :: p, a :: w, h, hb => by
    have h0 := hb 0 (by simp)
    have ih := badWs_of p w (by simpa using h) fun i hi => by simpa using hb (i + 1) (by simpa using hi)
    simp only [badWs, Bool.or_eq_false_iff]
    exact ⟨by simpa using h0, ih⟩
theorem getD_drop (l : List Int) (k i : Nat) : (l.drop k).getD i 0 = l.getD (k + i) 0 := by simp [List.getD_eq_getElem?_getD]
theorem getD_map_neg (l : List Int) (i : Nat) : (l.map fun x => -x).getD i 0 = -(l.getD i 0) := by
  simp only [List.getD_eq_getElem?_getD, List.getElem?_map]
  cases l[i]? <;> simp
theorem dotI_negR (l x : List Int) : dotI l (x.map fun y => -y) = -(dotI l x) := by
  have := dotI_mulR (-1) l x
  simp only [Int.neg_mul, Int.one_mul] at this
  exact this

/-- What the weights of a false row are. -/
theorem refuted_ok {p : List api_Cond} {n : Int} (h : farkas_asked.fn p n = 0) (h0 : (farkas_eliminated.fn p n).2 = 0) (hr : (farkas_table_refuted.fn ((farkas_eliminated.fn p n).1.getD 0 d_farkas_table)).2 = true) :
    ∃ w, (farkas_table_refuted.fn ((farkas_eliminated.fn p n).1.getD 0 d_farkas_table)).1 = w ∧ w.length = p.length ∧
      (∀ i, i < p.length → ((p.getD i d_api_Cond).1 = 2 → w.getD i 0 = 0) ∧ ((p.getD i d_api_Cond).1 ≠ 1 → 0 ≤ w.getD i 0)) ∧ farkas_Check.fn p n w = (true, 0) := by
  obtain ⟨hn, h96, hv⟩ := asked_ok h
  obtain ⟨e1, e2, e3, e4⟩ := eliminated_ok h h0
  have hT := tab_all h h0 n.toNat (Nat.le_refl _)
  rw [Nat.sub_self] at hT
  have hn0 := (e3 0 (Nat.zero_le _)).2
  generalize (farkas_eliminated.fn p n).1.getD 0 d_farkas_table = t at *
  obtain ⟨r, hrm, hf, hw⟩ := refuteL_true t.1 t.2 hr
  rw [hn0] at hf hw
  have hrow := hT r hrm
  have en : Int.toNat (n + 1) = n.toNat + 1 := by omega
  have egn : gI r.2 n = r.2.getD n.toNat 0 := rfl
  rw [en] at hw
  refine ⟨_, rfl, ?_⟩
  have hw' : (farkas_table_refuted.fn t).1 = if gI r.2 n > 0 then (r.2.drop (n.toNat + 1)).map (fun x => -x) else r.2.drop (n.toNat + 1) := by rw [← hw, ← hn0]; rfl
  rw [hw']
  have heq : gI r.2 n > 0 → r.1 = true := fun hp => by
    cases h1 : r.1 with
    | true => rfl
    | false => exact absurd ⟨by omega, Or.inl h1⟩ hf
  have hneg : ¬ gI r.2 n > 0 → gI r.2 n < 0 := fun hp => by
    apply Classical.byContradiction
    intro hq
    exact hf ⟨by omega, Or.inr (by omega)⟩
  have hlen : (if gI r.2 n > 0 then (r.2.drop (n.toNat + 1)).map (fun x => -x) else r.2.drop (n.toNat + 1)).length = p.length := by
    split <;> simp only [List.length_map, List.length_drop, hrow.row.len] <;> omega
  have hsgn : ∀ i, i < p.length → ((p.getD i d_api_Cond).1 = 2 → (if gI r.2 n > 0 then (r.2.drop (n.toNat + 1)).map (fun x => -x) else r.2.drop (n.toNat + 1)).getD i 0 = 0) ∧ ((p.getD i d_api_Cond).1 ≠ 1 → 0 ≤ (if gI r.2 n > 0 then (r.2.drop (n.toNat + 1)).map (fun x => -x) else r.2.drop (n.toNat + 1)).getD i 0) := by
    intro i hi
    refine ⟨fun h2 => ?_, fun h1 => ?_⟩
    · split
      · rw [getD_map_neg, getD_drop, hrow.row.div i hi h2]; rfl
      · rw [getD_drop, hrow.row.div i hi h2]
    · split
      · rename_i hp
        rw [getD_map_neg, getD_drop, hrow.row.eq i hi h1 (heq hp)]; decide
      · rw [getD_drop]; exact hrow.row.ge i hi h1
  have hdot : ∀ v, v ≤ n.toNat → dotI (p.map (plc n.toNat v)) (if gI r.2 n > 0 then (r.2.drop (n.toNat + 1)).map (fun x => -x) else r.2.drop (n.toNat + 1)) = if gI r.2 n > 0 then -(r.2.getD v 0) else r.2.getD v 0 := by
    intro v hv
    split
    · rw [dotI_negR, ← hrow.row.lin v hv]
    · exact (hrow.row.lin v hv).symm
  generalize (if gI r.2 n > 0 then (r.2.drop (n.toNat + 1)).map (fun x => -x) else r.2.drop (n.toNat + 1)) = w at *
  refine ⟨hlen, hsgn, ?_⟩
  unfold farkas_Check.fn
  rw [if_neg (by rw [h]; simp), if_neg (by rw [hlen]; simp), if_neg, if_neg]
  · have hc : dotI (p.map fun c => c.2.2.2) w < 0 := by
      have := hdot n.toNat (Nat.le_refl _)
      have e : (p.map fun c => c.2.2.2) = p.map (plc n.toNat n.toNat) := List.map_congr_left fun c _ => by unfold plc; rw [if_neg (by omega)]
      rw [e, this]
      split
      · omega
      · rename_i hp; have := hneg hp; omega
    rw [decide_eq_true hc]
  · intro ha
    obtain ⟨v, hv1, hv2⟩ := List.any_eq_true.1 ha
    have hvn := List.mem_range.1 hv1
    have := hdot v (by omega)
    have e : (p.map fun c => gI c.2.2.1 (v : Int)) = p.map (plc n.toNat v) := List.map_congr_left fun c _ => by unfold plc; rw [if_pos hvn]
    rw [e, this, hrow.zero v (Nat.zero_le _) hvn] at hv2
    simp at hv2
  · have := badWs_of p w (by omega) fun i hi => by
      obtain ⟨s1, s2⟩ := hsgn i hi
      unfold badW
      by_cases h0 : (p.getD i d_api_Cond).1 = 0
      · have := s2 (by rw [h0]; decide)
        rw [h0, decide_eq_false (by omega)]; rfl
      · by_cases h2 : (p.getD i d_api_Cond).1 = 2
        · rw [s1 h2]; simp
        · have b0 : ((p.getD i d_api_Cond).1 == 0) = false := beq_eq_false_iff_ne.2 h0
          have b2 : ((p.getD i d_api_Cond).1 == 2) = false := beq_eq_false_iff_ne.2 h2
          rw [b0, b2]; rfl
    rw [this]; simp

/-! ## Lowest terms -/
theorem foldl_gcd_mul (A : Int) (hA : 0 ≤ A) : ∀ (l : List Int) (a : Int), 0 ≤ a → (l.map fun x => A * x).foldl num_Gcd_1.fn (A * a) = A * l.foldl num_Gcd_1.fn a
  | [], a, _ => rfl
  | x :: l, a, ha => by
    have e : num_Gcd_1.fn (A * a) (A * x) = A * num_Gcd_1.fn a x := by
      unfold num_Gcd_1.fn
      rw [Int.natAbs_mul, Int.natAbs_mul, Nat.gcd_mul_left, Int.natCast_mul]
      congr 1; omega
    simp only [List.map_cons, List.foldl_cons, e]
    exact foldl_gcd_mul A hA l _ (num_Gcd_1.nonneg _ _)
theorem gcdL_mul {A : Int} (hA : 0 ≤ A) (l : List Int) : gcdL (l.map fun x => A * x) = A * gcdL l := by
  have := foldl_gcd_mul A hA l 0 (Int.le_refl 0)
  rw [Int.mul_zero] at this; exact this
theorem gcdL_pair (a b : Int) : gcdL [a, b] = (Nat.gcd a.natAbs b.natAbs : Nat) := by
  show ((Nat.gcd ((Nat.gcd (0 : Int).natAbs a.natAbs : Nat) : Int).natAbs b.natAbs : Nat) : Int) = _
  simp
theorem gcdL_div {a b : Int} (h : 1 ≤ gcdL [a, b]) : gcdL [Int.tdiv a (gcdL [a, b]), Int.tdiv b (gcdL [a, b])] = 1 := by
  have e1 := tdiv_mul (x := a) (g := gcdL [a, b]) (gcdL_dvd (by simp))
  have e2 := tdiv_mul (x := b) (g := gcdL [a, b]) (gcdL_dvd (by simp))
  have := gcdL_mul (A := gcdL [a, b]) (by omega) [Int.tdiv a (gcdL [a, b]), Int.tdiv b (gcdL [a, b])]
  simp only [List.map_cons, List.map_nil] at this
  rw [Int.mul_comm, e1, Int.mul_comm (gcdL [a, b]), e2] at this
  have h2 : gcdL [a, b] * 1 = gcdL [a, b] * gcdL [Int.tdiv a (gcdL [a, b]), Int.tdiv b (gcdL [a, b])] := by rw [← this]; simp
  exact (mul_cancel h h2).symm
theorem low_prime {f : farkas_fraction} {e : Int} (L : Low f e) : gcdL [lowN f e, lowD f e] = 1 := by
  have h1 := gcdL_div L.g
  have h2 := gcdL_div L.h
  have e1 := tdiv_mul (x := Int.tdiv f.1 (gcdL [f.1, f.2])) (g := gcdL [Int.tdiv f.1 (gcdL [f.1, f.2]), e]) (gcdL_dvd (by simp))
  unfold lowN lowD
  generalize gcdL [Int.tdiv f.1 (gcdL [f.1, f.2]), e] = h at *
  generalize Int.tdiv f.1 (gcdL [f.1, f.2]) = n0 at *
  generalize Int.tdiv f.2 (gcdL [f.1, f.2]) = d0 at *
  generalize Int.tdiv e h = q at *
  generalize Int.tdiv n0 h = n at *
  rw [gcdL_pair] at h1 h2 ⊢
  have c1 : Nat.Coprime n.natAbs d0.natAbs := by
    have : Nat.Coprime n0.natAbs d0.natAbs := by unfold Nat.Coprime; omega
    rw [← e1, Int.natAbs_mul] at this
    exact Nat.Coprime.coprime_mul_right this
  have c2 : Nat.Coprime n.natAbs q.natAbs := by unfold Nat.Coprime; omega
  have c3 := Nat.Coprime.mul_right c2 c1
  rw [Int.natAbs_mul]
  unfold Nat.Coprime at c3
  rw [c3]; rfl
/-- A point over its denominator in lowest terms. -/
def Prim (a : farkas_point) : Prop := gcdL (a.2 :: a.1) = 1
theorem prim_dvd {l : List Int} (h : gcdL l = 1) {A g : Int} (hA : 0 ≤ A) (hg : ∀ x ∈ l, g ∣ A * x) : g ∣ A := by
  have := dvd_gcdL (l := l.map fun x => A * x) (d := g) fun y hy => by
    obtain ⟨x, hx, rfl⟩ := List.mem_map.1 hy; exact hg x hx
  rw [gcdL_mul hA, h, Int.mul_one] at this; exact this
theorem with_prim {p : farkas_point} {f : farkas_fraction} (h : farkas_point_with.pre p f) (hp : Prim p) (h0 : (farkas_point_with.fn p f).2 = 0) : Prim (farkas_point_with.fn p f).1 := by
  obtain ⟨w1, w2, w3, w4⟩ := with_ok h h0
  obtain ⟨⟨h12, hx, d1, d2⟩, hf⟩ := h
  have L := low hf ⟨d1, d2⟩
  have lp := low_prime L
  obtain ⟨k1, k2, k3, k4, k5⟩ := lcm_ok L.D.1 d1
  rw [w1]
  unfold Prim
  have hk := gcdL_div k1
  have q1 := tdiv_mul (x := lowD f p.2) (g := gcdL [lowD f p.2, p.2]) (gcdL_dvd (by simp))
  have q2 := tdiv_mul (x := p.2) (g := gcdL [lowD f p.2, p.2]) (gcdL_dvd (by simp))
  have eA : Int.tdiv (lcmI (lowD f p.2) p.2) p.2 = Int.tdiv (lowD f p.2) (gcdL [lowD f p.2, p.2]) := by
    have := tdiv_mul k5
    refine Int.eq_of_mul_eq_mul_right (a := p.2) (by omega) (this.trans ?_)
    unfold lcmI
    generalize Int.tdiv (lowD f p.2) (gcdL [lowD f p.2, p.2]) = u at *
    generalize Int.tdiv p.2 (gcdL [lowD f p.2, p.2]) = w at *
    generalize gcdL [lowD f p.2, p.2] = g at *
    generalize lowD f p.2 = D at *
    grind
  have eB : Int.tdiv (lcmI (lowD f p.2) p.2) (lowD f p.2) = Int.tdiv p.2 (gcdL [lowD f p.2, p.2]) := by
    have := tdiv_mul k4
    refine Int.eq_of_mul_eq_mul_right (a := lowD f p.2) (by have := L.D.1; omega) (this.trans ?_)
    rfl
  have mA := tdiv_mul k5
  have mB := tdiv_mul k4
  rw [eA] at mA ⊢
  rw [eB] at mB ⊢
  have hA : 0 ≤ Int.tdiv (lowD f p.2) (gcdL [lowD f p.2, p.2]) := Int.tdiv_nonneg (by have := L.D.1; omega) (by omega)
  have hB : 0 ≤ Int.tdiv p.2 (gcdL [lowD f p.2, p.2]) := by omega
  generalize Int.tdiv (lowD f p.2) (gcdL [lowD f p.2, p.2]) = A at *
  generalize Int.tdiv p.2 (gcdL [lowD f p.2, p.2]) = B at *
  generalize hG : gcdL (lcmI (lowD f p.2) p.2 :: (p.1.map (fun x => x * A) ++ [lowN f p.2 * B])) = G
  have dD : G ∣ lcmI (lowD f p.2) p.2 := by rw [← hG]; exact gcdL_dvd (by simp)
  have dx : ∀ x ∈ p.1, G ∣ A * x := fun x hx => by
    rw [← hG, Int.mul_comm]; exact gcdL_dvd (List.mem_cons_of_mem _ (List.mem_append_left _ (List.mem_map.2 ⟨x, hx, Int.mul_comm ..⟩)))
  have dn : G ∣ B * lowN f p.2 := by rw [← hG, Int.mul_comm]; exact gcdL_dvd (by simp)
  have gA : G ∣ A := prim_dvd hp hA fun x hx => by
    rcases List.mem_cons.1 hx with e | e
    · subst e; rw [mA]; exact dD
    · exact dx x e
  have gB : G ∣ B := prim_dvd lp hB fun x hx => by
    simp only [List.mem_cons, List.not_mem_nil, or_false] at hx
    rcases hx with e | e
    · subst e; exact dn
    · subst e; rw [mB]; exact dD
  have g1 : G ∣ gcdL [A, B] := dvd_gcdL fun x hx => by
    simp only [List.mem_cons, List.not_mem_nil, or_false] at hx
    rcases hx with e | e <;> subst e
    · exact gA
    · exact gB
  rw [hk] at g1
  have g0 : 0 ≤ G := by rw [← hG]; exact gcdL_nonneg _
  exact Int.eq_one_of_dvd_one g0 g1
end Go.Proofs.Ytlncingakpelbaa
