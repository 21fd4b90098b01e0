/- Part of a proof that a law of the program holds for every input: the check of weights, as the document's answer reckons it, in plain Lean. No conditions. -/
import Derived.Test.YtlncingakpelbaaS9
namespace Go.Proofs.Ytlncingakpelbaa
open Go
set_option linter.unusedVariables false

/-- The number that a sign and digits mean. -/
def iv (x : ref09_Int) : Int := if x.1 = true then -(vl x.2) else vl x.2
theorem iv_nil : iv d_ref09_Int = 0 := rfl
theorem iv_of (n : Int) : iv (ref09_Of.fn n) = n ∧ can (ref09_Of.fn n).2 := by
  refine ⟨?_, by have := can_dz n.natAbs; rwa [dz, Int.toNat_natCast] at this⟩
  unfold iv ref09_Of.fn
  simp only [vl_dg, decide_eq_true_eq]
  split <;> omega
theorem iv_mul {x y : ref09_Int} (hx : can x.2) (hy : can y.2) : iv (ref09_Int_Mul.fn x y) = iv x * iv y ∧ can (ref09_Int_Mul.fn x y).2 := by
  refine ⟨?_, can_dz _⟩
  have h := Int.mul_nonneg (vl_nonneg hx.1) (vl_nonneg hy.1)
  unfold iv ref09_Int_Mul.fn
  rw [vl_dz h]
  cases hx1 : x.1 <;> cases hy1 : y.1 <;> simp [Int.neg_mul, Int.mul_neg]
theorem iv_add {x y : ref09_Int} (hx : can x.2) (hy : can y.2) : iv (ref09_Int_Add.fn x y) = iv x + iv y ∧ can (ref09_Int_Add.fn x y).2 := by
  have h1 := vl_nonneg hx.1
  have h2 := vl_nonneg hy.1
  unfold ref09_Int_Add.fn
  split
  · rename_i he
    refine ⟨?_, can_dz _⟩
    unfold iv
    simp only [vl_dz (Int.add_nonneg h1 h2), ← he]
    split <;> omega
  · rename_i he
    split
    · rename_i hg
      refine ⟨?_, can_dz _⟩
      unfold iv
      simp only [vl_dz (show 0 ≤ vl x.2 - vl y.2 by omega)]
      cases hx1 : x.1 <;> cases hy1 : y.1 <;> simp_all <;> omega
    · rename_i hg
      refine ⟨?_, can_dz _⟩
      unfold iv
      simp only [vl_dz (show 0 ≤ vl y.2 - vl x.2 by omega)]
      cases hx1 : x.1 <;> cases hy1 : y.1 <;> simp_all <;> omega
theorem sign_iv {x : ref09_Int} (hx : can x.2) : ref09_Int_Sign.fn x = sgn (iv x) := by
  have h1 := vl_nonneg hx.1
  unfold ref09_Int_Sign.fn iv sgn
  by_cases e : x.2 = []
  · rw [if_pos e, e]; simp [vl]
  · rw [if_neg e]
    have : vl x.2 ≠ 0 := fun h => e (hx.nil_iff.2 h)
    split
    · rw [if_pos (by omega)]
    · rw [if_neg (by omega), if_pos (by omega)]
theorem vl_iv (x : ref09_Int) (hx : can x.2) : vl x.2 = (iv x).natAbs := by
  have h1 := vl_nonneg hx.1
  unfold iv; split <;> omega
/-- Numbers of few digits. -/
theorem iv_len {x : ref09_Int} (hx : can x.2) {k : Nat} (h : ((iv x).natAbs : Int) < 65536 ^ k) : x.2.length ≤ k := by
  have := dz_len (x := vl x.2) (k := k) (vl_nonneg hx.1) (by rw [vl_iv x hx]; exact h)
  rwa [hx.2] at this

/-- What is added up in a place: the coefficients of a variable, or the constants. -/
def plc (n v : Nat) (c : api_Cond) : Int := if v < n then gI c.2.2.1 (v : Int) else c.2.2.2
def part (p : List api_Cond) (w : List Int) (n k v : Nat) : Int := dotI ((p.take k).map (plc n v)) (w.take k)
theorem part_succ (p : List api_Cond) (w : List Int) (n k v : Nat) (h1 : k < p.length) (h2 : k < w.length) : part p w n (k + 1) v = part p w n k v + w.getD k 0 * plc n v (p.getD k d_api_Cond) := by
  unfold part
  rw [List.map_take, List.map_take, dotI_succ _ _ _ (by simpa using h1) h2, map_getD (plc n v) d_api_Cond h1, Int.mul_comm]
theorem part_bound (p : List api_Cond) (w : List Int) (n v : Nat) (hw : ∀ x ∈ w, i64 x) (hp : ∀ c ∈ p, -1048576 ≤ plc n v c ∧ plc n v c ≤ 1048576) : ∀ k, k ≤ p.length → k ≤ w.length →
    -(k * (9223372036854775808 * 1048576)) ≤ part p w n k v ∧ part p w n k v ≤ k * (9223372036854775808 * 1048576)
  | 0, _, _ => by simp [part, dotI]
  | k + 1, h1, h2 => by
    have ih := part_bound p w n v hw hp k (by omega) (by omega)
    rw [part_succ p w n k v (by omega) (by omega)]
    have a := hw _ (getD_mem 0 (by omega : k < w.length))
    have b := hp _ (getD_mem d_api_Cond (by omega : k < p.length))
    have hm := mul_bound (A := 9223372036854775808) (B := 1048576) a.1 (by have := a.2; omega) b.1 b.2
    push_cast
    omega
theorem getD_setR (l : List ref09_Int) (k j : Nat) (x : ref09_Int) (hk : k < l.length) : (l.set k x).getD j d_ref09_Int = if j = k then x else l.getD j d_ref09_Int := by
  simp only [List.getD_eq_getElem?_getD, List.getElem?_set]
  by_cases e : k = j
  · subst e; simp [hk]
  · rw [if_neg e, if_neg (by omega)]

/-- The sums after k conditions, and of the next one the first j places. -/
structure Sums (p : List api_Cond) (w : List Int) (n k j : Nat) (s : List ref09_Int) : Prop where
  len : s.length = n + 1
  can : ∀ v, can (s.getD v d_ref09_Int).2
  val : ∀ v, v ≤ n → iv (s.getD v d_ref09_Int) = part p w n (if v < j then k + 1 else k) v

theorem Sums.step {p : List api_Cond} {w : List Int} {n k j : Nat} {s : List ref09_Int} (h : Sums p w n k j s) (hk : k < p.length) (hkw : k < w.length) (hj : j ≤ n) (h96 : p.length ≤ 96) (hw : ∀ x ∈ w, i64 x) (hp : ∀ v, ∀ c ∈ p, -1048576 ≤ plc n v c ∧ plc n v c ≤ 1048576)
    {a : Int} (ha : a = plc n j (p.getD k d_api_Cond)) :
    ref09_Of.pre a ∧ ref09_Int_Mul.pre (ref09_Of.fn (w.getD k 0)) (ref09_Of.fn a) ∧ ref09_Int_Add.pre (s.getD j d_ref09_Int) (ref09_Int_Mul.fn (ref09_Of.fn (w.getD k 0)) (ref09_Of.fn a)) ∧
      Sums p w n k (j + 1) (s.set j (ref09_Int_Add.fn (s.getD j d_ref09_Int) (ref09_Int_Mul.fn (ref09_Of.fn (w.getD k 0)) (ref09_Of.fn a)))) := by
  have hb := hp j _ (getD_mem d_api_Cond hk)
  rw [← ha] at hb
  have hwk := hw _ (getD_mem 0 hkw)
  simp only [i64] at hwk
  have o1 := iv_of (w.getD k 0)
  have o2 := iv_of a
  have l1 := iv_len (k := 4) o1.2 (by rw [o1.1]; have : (65536 : Int) ^ 4 = 18446744073709551616 := by decide
                                      omega)
  have l2 := iv_len (k := 4) o2.2 (by rw [o2.1]; have : (65536 : Int) ^ 4 = 18446744073709551616 := by decide
                                      omega)
  have om := iv_mul o1.2 o2.2
  have hm := mul_bound (A := 9223372036854775808) (B := 1048576) hwk.1 (by omega) hb.1 hb.2
  have l3 := iv_len (k := 8) om.2 (by rw [om.1, o1.1, o2.1]; have : (65536 : Int) ^ 8 = 340282366920938463463374607431768211456 := by decide
                                      omega)
  have hv := h.val j hj
  rw [if_neg (by omega)] at hv
  have hpb := part_bound p w n j hw (hp j) k (by omega) (by omega)
  have l4 := iv_len (k := 8) (h.can j) (by rw [hv]; have : (65536 : Int) ^ 8 = 340282366920938463463374607431768211456 := by decide
                                           omega)
  have oa := iv_add (h.can j) om.2
  refine ⟨⟨by omega, by omega⟩, ⟨o1.2.1, o2.2.1, by omega, by omega⟩, ⟨⟨h.can j, om.2⟩, by omega, by omega⟩, by rw [List.length_set]; exact h.len, fun v => ?_, fun v hv' => ?_⟩
  · rw [getD_setR _ _ _ _ (by rw [h.len]; omega)]
    split
    · exact oa.2
    · exact h.can v
  · rw [getD_setR _ _ _ _ (by rw [h.len]; omega)]
    split
    · rename_i e
      subst e
      rw [if_pos (by omega), part_succ p w n k v hk hkw, oa.1, hv, om.1, o1.1, o2.1, ha]
    · rename_i e
      rw [h.val v hv']
      have : (v < j + 1) = (v < j) := by simp only [eq_iff_iff]; omega
      simp only [this]

theorem ref09_Check.spec (p : List api_Cond) (n : Int) (w : List Int) (h : ref09_Check.pre p n w) : ref09_Check.wp p n w (fun x => x = ref09_Check.fn p n w) := by
  have hw : ∀ x ∈ w, i64 x := h
  unfold ref09_Check.wp ref09_Check.fn farkas_Check.fn
  rintro e rfl
  refine ⟨fun (he : farkas_asked.fn p n ≠ 0) => by rw [if_pos he]; rfl, fun (he : farkas_asked.fn p n = 0) _ _ => ?_⟩
  rw [if_neg (by simpa using he)]
  refine ⟨fun hl => by rw [if_pos hl], fun hl => ?_⟩
  rw [if_neg (by simpa using hl)]
  obtain ⟨hn, h96, hv⟩ := asked_ok he
  obtain ⟨N, rfl⟩ : ∃ N : Nat, n = (N : Int) := ⟨n.toNat, by omega⟩
  have hp : ∀ v, ∀ c ∈ p, -1048576 ≤ plc N v c ∧ plc N v c ≤ 1048576 := fun v c hc => by
    have h1 := lin_coef (valid_lin (hv c hc).1)
    unfold plc
    split
    · have := h1.1 _ (getD_mem 0 (by have := (hv c hc).2; omega : v < c.2.2.1.length))
      rw [gI_nat]
      simpa [num_Fits.fn] using this
    · simpa [num_Fits.fn] using h1.2.2
  have hN : Int.toNat ((N : Int) + 1) = N + 1 := by omega
  refine ⟨⟨by omega, by omega⟩, ⟨by omega, by omega, by omega, by omega⟩, ?_⟩
  rintro s rfl
  rw [hN]
  intro _
  refine ⟨fun m x s => ∃ k : Nat, x = (k : Int) ∧ m + k = p.length ∧ badWs (p.take k) (w.take k) = false ∧ Sums p w N k 0 s, ⟨p.length, 0, rfl, rfl, rfl, List.length_replicate, fun v => ?_, fun v hv => ?_⟩, ?_⟩
  · simp only [List.getD_eq_getElem?_getD, List.getElem?_replicate]; split <;> exact can_nil
  · simp only [List.getD_eq_getElem?_getD, List.getElem?_replicate]; split <;> simp [part, dotI, iv_nil]
  rintro m x s ⟨k, rfl, hm, hb, hS⟩
  refine ⟨fun hx => ⟨⟨by omega, hx⟩, ?_⟩, fun hx => ?_⟩
  · have hk : k < p.length := by omega
    have hkw : k < w.length := by omega
    rintro c rfl
    simp only [Int.toNat_natCast]
    refine ⟨⟨by omega, by omega⟩, by rw [gI_nat]; exact hw _ (getD_mem 0 hkw), ?_⟩
    rintro W rfl
    rintro g rfl
    have o1 := iv_of (gI w k)
    rw [sign_iv o1.2, o1.1]
    have hbad : ((((p.getD k d_api_Cond).1 == 0) && decide (sgn (gI w k) < 0)) || (((p.getD k d_api_Cond).1 == 2) && (sgn (gI w k) != 0))) = badW (p.getD k d_api_Cond) (w.getD k 0) := by
      rw [gI_nat]
      unfold badW
      have e1 : decide (sgn (w.getD k 0) < 0) = decide (w.getD k 0 < 0) := decide_eq_decide.2 sgn_lt
      have e2 : (sgn (w.getD k 0) != 0) = (w.getD k 0 != 0) := by rw [Bool.eq_iff_iff, bne_iff_ne, bne_iff_ne]; exact sgn_ne
      rw [e1, e2]
    rw [hbad]
    refine ⟨fun hbd => ?_, fun hgd _ => ?_⟩
    · rw [if_pos (badWs_mem p w k hk hkw hbd)]
    · have hlen : (p.getD k d_api_Cond).2.2.1.length = N := by have := (hv _ (getD_mem d_api_Cond hk)).2; omega
      refine ⟨fun m2 y s => ∃ j : Nat, y = (j : Int) ∧ m2 + j = N ∧ Sums p w N k j s, ⟨N, 0, rfl, rfl, hS⟩, ?_⟩
      rintro m2 y s ⟨j, rfl, hm2, hS⟩
      have hsl := hS.len
      rw [gI_nat w k]
      refine ⟨fun hy => ?_, fun hy => ?_⟩
      · have hj : j < N := by omega
        obtain ⟨s1, s2, s3, s4⟩ := hS.step hk hkw (by omega) h96 hw hp (a := gI (p.getD k d_api_Cond).2.2.1 (j : Int)) (by unfold plc; rw [if_pos hj])
        simp only [Int.toNat_natCast]
        refine ⟨⟨by omega, by omega⟩, ⟨by omega, by omega⟩, by omega, s1, s2, s3, ⟨by omega, by omega⟩, by omega, ?_⟩
        rintro x20 rfl
        rintro x21 rfl
        rintro x22 rfl
        rintro x23 rfl
        exact ⟨⟨by omega, by omega⟩, m2 - 1, by omega, j + 1, by omega, by omega, s4⟩
      · have hj : j = N := by omega
        subst hj
        obtain ⟨s1, s2, s3, s4⟩ := hS.step hk hkw (by omega) h96 hw hp (a := (p.getD k d_api_Cond).2.2.2) (by unfold plc; rw [if_neg (by omega)])
        refine ⟨⟨by omega, by omega⟩, by omega, s1, s2, s3, ⟨by omega, by omega⟩, by omega, ?_⟩
        rintro x20 rfl
        rintro x21 rfl
        rintro x22 rfl
        rintro x23 rfl
        refine ⟨⟨by omega, by omega⟩, m - 1, by omega, k + 1, by omega, by omega, ?_, s4.len, s4.can, fun v hv' => ?_⟩
        · rw [badWs_take p w k hk hkw, hb]; simpa using hgd
        · have := s4.val v hv'
          rw [if_pos (by omega)] at this
          rw [if_neg (by omega)]; exact this
  · have hk : k = p.length := by omega
    subst hk
    have hsl := hS.len
    rw [List.take_of_length_le (Nat.le_refl _), List.take_of_length_le (by omega)] at hb
    rw [if_neg (by rw [hb]; simp)]
    have hval : ∀ v, v ≤ N → iv (s.getD v d_ref09_Int) = dotI (p.map (plc N v)) w := fun v hv' => by
      have := hS.val v hv'
      rw [if_neg (by omega)] at this
      rw [this, part, List.take_of_length_le (Nat.le_refl _), List.take_of_length_le (by omega)]
    have hvar : ∀ v, v < N → dotI (p.map (plc N v)) w = dotI (p.map fun c => gI c.2.2.1 (v : Int)) w := fun v hv' => by
      unfold plc; simp only [if_pos hv']
    have hcon : dotI (p.map (plc N N)) w = dotI (p.map fun c => c.2.2.2) w := by
      unfold plc; simp
    simp only [Int.toNat_natCast]
    refine ⟨⟨by omega, by omega⟩, ?_⟩
    rintro len rfl
    intro _
    have htl : (s.take N).length = N := by rw [List.length_take]; omega
    rw [htl]
    refine ⟨fun m x => ∃ k : Nat, x = (k : Int) ∧ m + k = N ∧ ∀ v, v < k → dotI (p.map fun c => gI c.2.2.1 (v : Int)) w = 0, ⟨N, 0, rfl, rfl, fun v hv => by omega⟩, ?_⟩
    rintro m x ⟨k, rfl, hm, hz⟩
    refine ⟨fun hx => ⟨⟨by omega, hx⟩, ?_⟩, fun hx => ⟨⟨by omega, by omega⟩, ?_⟩⟩
    · have hk : k < N := by omega
      rintro x33 rfl
      rintro x34 rfl
      simp only [Int.toNat_natCast]
      have eg : (s.take N).getD k d_ref09_Int = s.getD k d_ref09_Int := by
        simp only [List.getD_eq_getElem?_getD, List.getElem?_take, if_pos hk]
      rw [eg, sign_iv (hS.can k), hval k (by omega), hvar k hk]
      refine ⟨fun ht => ?_, fun ht => ⟨⟨by omega, by omega⟩, m - 1, by omega, k + 1, by omega, by omega, fun v hv' => ?_⟩⟩
      · rw [if_pos]
        exact List.any_eq_true.2 ⟨k, List.mem_range.2 (by omega), by simpa using sgn_ne.1 ht⟩
      · by_cases e : v = k
        · subst e
          have : ¬ sgn _ ≠ 0 := fun hh => hh ht
          rw [sgn_ne] at this
          simpa using this
        · exact hz v (by omega)
    · rintro x35 rfl
      rw [sign_iv (hS.can N), hval N (Nat.le_refl _), hcon, if_neg]
      · congr 1
        exact decide_eq_decide.2 sgn_lt
      · intro hany
        obtain ⟨v, hv1, hv2⟩ := List.any_eq_true.1 hany
        have := hz v (by have := List.mem_range.1 hv1; omega)
        rw [this] at hv2
        simp at hv2
end Go.Proofs.Ytlncingakpelbaa
