/- Part of a proof that a law of the program holds for every input: what the functions on rational points answer, in plain Lean. No conditions. -/
import Derived.Test.YtlncingakpelbaaSF3
namespace Go.Proofs.Ytlncingakpelbaa
open Go
set_option linter.unusedVariables false

theorem mask32u (w : Int) : IntKind.wrap .u64 ((BitVec.ofInt 64 w &&& BitVec.ofInt 64 (4294967295 : Int)).toNat : Int) = w % 4294967296 := by
  have h : (BitVec.ofInt 64 w &&& BitVec.ofInt 64 (4294967295 : Int)).toNat = (w % 18446744073709551616).toNat % 4294967296 := by
    rw [BitVec.toNat_and, BitVec.toNat_ofInt, show (BitVec.ofInt 64 (4294967295 : Int)).toNat = 2 ^ 32 - 1 from by decide, Nat.and_two_pow_sub_one_eq_mod]
    rfl
  rw [h, wrap_u64]
  omega

theorem math_bits_Mul64.spec (a b : Int) (h : math_bits_Mul64.pre a b) : math_bits_Mul64.wp a b (fun x => x = math_bits_Mul64.fn a b) := by
  obtain ⟨⟨a0, a1⟩, b0, b1⟩ := h
  unfold math_bits_Mul64.wp math_bits_Mul64.fn
  simp only [mask32u, shr32]
  simp only [wrap_u64]
  have ha : a = a / 4294967296 * 4294967296 + a % 4294967296 := by omega
  have hb : b = b / 4294967296 * 4294967296 + b % 4294967296 := by omega
  have u1 : 0 ≤ a / 4294967296 ∧ a / 4294967296 ≤ 4294967295 := by omega
  have u2 : 0 ≤ a % 4294967296 ∧ a % 4294967296 ≤ 4294967295 := by omega
  have u3 : 0 ≤ b / 4294967296 ∧ b / 4294967296 ≤ 4294967295 := by omega
  have u4 : 0 ≤ b % 4294967296 ∧ b % 4294967296 ≤ 4294967295 := by omega
  generalize a / 4294967296 = x2 at *
  generalize a % 4294967296 = x1 at *
  generalize b / 4294967296 = x4 at *
  generalize b % 4294967296 = x3 at *
  have hab : a * b = (x2 * x4) * 18446744073709551616 + (x2 * x3 + x1 * x4) * 4294967296 + x1 * x3 := by rw [ha, hb]; grind
  have m1 := mul_bound (A := 4294967295) (B := 4294967295) (by omega) u1.2 (by omega) u3.2
  have m2 := mul_bound (A := 4294967295) (B := 4294967295) (by omega) u1.2 (by omega) u4.2
  have m3 := mul_bound (A := 4294967295) (B := 4294967295) (by omega) u2.2 (by omega) u3.2
  have m4 := mul_bound (A := 4294967295) (B := 4294967295) (by omega) u2.2 (by omega) u4.2
  have n1 := Int.mul_nonneg u1.1 u3.1
  have n2 := Int.mul_nonneg u1.1 u4.1
  have n3 := Int.mul_nonneg u2.1 u3.1
  have n4 := Int.mul_nonneg u2.1 u4.1
  rw [hab]
  rintro y1 e1
  refine ⟨by decide, ?_⟩
  rintro y2 e2
  rintro y3 e3
  refine ⟨by decide, ?_⟩
  rintro y4 e4
  refine ⟨by decide, ?_⟩
  rintro t ht
  rintro w hw
  refine ⟨by decide, ?_⟩
  rintro w2 hw2
  rintro w1 hw1
  refine ⟨by decide, ?_⟩
  rintro hi hhi
  rw [e1, e2, e3] at ht
  rw [e1, e4] at hw1
  rw [e2, e4] at hhi
  generalize x2 * x4 = P at *
  generalize x2 * x3 = Q at *
  generalize x1 * x4 = R at *
  generalize x1 * x3 = S at *
  have ht' : t = Q + S / 4294967296 := by omega
  have hw1' : w1 = t % 4294967296 + R := by omega
  have hhi' : hi = P + t / 4294967296 + w1 / 4294967296 := by omega
  refine Prod.ext ?_ rfl
  show hi = _
  omega

theorem farkas_fraction_less.spec (a b : farkas_fraction) (h : farkas_fraction_less.pre a b) : farkas_fraction_less.wp a b (fun x => x = farkas_fraction_less.fn a b) := by
  obtain ⟨⟨ha, hb⟩, ⟨a0, a1⟩, b0, b1⟩ := h
  simp only [i64] at ha hb
  unfold farkas_fraction_less.wp farkas_fraction_less.fn
  refine ⟨fun hne => ?_, fun he => ?_⟩
  · by_cases h1 : a.1 < 0
    · have h2 : ¬ b.1 < 0 := fun h2 => hne (by simp [h1, h2])
      have m1 := Int.mul_nonneg (show 0 ≤ -a.1 by omega) (show 0 ≤ b.2 by omega)
      have m2 := Int.mul_nonneg (show 0 ≤ b.1 by omega) (show 0 ≤ a.2 by omega)
      have m3 : 0 < -a.1 * b.2 := Int.mul_pos (by omega) b0
      rw [Int.neg_mul] at m3
      rw [decide_eq_true h1, decide_eq_true (by omega)]
    · have h2 : b.1 < 0 := Classical.byContradiction fun h2 => hne (by simp [h1, h2])
      have m1 := Int.mul_nonneg (show 0 ≤ a.1 by omega) (show 0 ≤ b.2 by omega)
      have m3 : 0 < -b.1 * a.2 := Int.mul_pos (by omega) a0
      rw [Int.neg_mul] at m3
      rw [decide_eq_false h1, decide_eq_false (by omega)]
  · have wa : IntKind.wrap .u64 a.2 = a.2 := by rw [wrap_u64]; omega
    have wb : IntKind.wrap .u64 b.2 = b.2 := by rw [wrap_u64]; omega
    rw [wa, wb]
    have sa : farkas_size.fn a.1 = a.1.natAbs := rfl
    have sb : farkas_size.fn b.1 = b.1.natAbs := rfl
    rw [sa, sb]
    refine ⟨ha, ⟨⟨by omega, by omega⟩, by omega, by omega⟩, ?_⟩
    rintro x rfl
    rintro y rfl
    rintro y1 hy1
    rintro y2 hy2
    refine ⟨hb, ⟨⟨by omega, by omega⟩, by omega, by omega⟩, ?_⟩
    rintro x5 rfl
    rintro z rfl
    rintro z1 hz1
    rintro z2 hz2
    simp only [math_bits_Mul64.fn] at hy1 hy2 hz1 hz2
    have key : ∀ X Y x1 x2 y1 y2 : Int, x1 = X / 18446744073709551616 → x2 = X % 18446744073709551616 → y1 = Y / 18446744073709551616 → y2 = Y % 18446744073709551616 →
        (decide (x1 < y1) || ((x1 == y1) && decide (x2 < y2))) = decide (X < Y) := by
      intro X Y x1 x2 y1 y2 h1 h2 h3 h4
      rw [Bool.eq_iff_iff]
      simp only [Bool.or_eq_true, Bool.and_eq_true, decide_eq_true_eq, beq_iff_eq]
      omega
    refine ⟨fun p q r s => (decide (p < r) || ((p == r) && decide (q < s))) = decide (a.1 * b.2 < b.1 * a.2), ⟨fun hn => ?_, fun hn => ?_⟩, fun p q r s h => h⟩
    · have hbn : b.1 < 0 := by
        by_cases h2 : b.1 < 0
        · exact h2
        · rw [decide_eq_true hn, decide_eq_false h2] at he; cases he
      refine (key _ _ _ _ _ _ hz1 hz2 hy1 hy2).trans ?_
      have e1 : (b.1.natAbs : Int) = -b.1 := by omega
      have e2 : (a.1.natAbs : Int) = -a.1 := by omega
      rw [e1, e2, Int.neg_mul, Int.neg_mul]
      exact decide_eq_decide.2 (by omega)
    · have hbn : ¬ b.1 < 0 := by
        intro h2
        rw [decide_eq_false hn, decide_eq_true h2] at he; cases he
      refine (key _ _ _ _ _ _ hy1 hy2 hz1 hz2).trans ?_
      have e1 : (b.1.natAbs : Int) = b.1 := by omega
      have e2 : (a.1.natAbs : Int) = a.1 := by omega
      rw [e1, e2]

theorem dotI_take : ∀ (l m : List Int), dotI (l.take m.length) m = dotI l m
  | [], _ => by simp
  | _ :: _, [] => by simp [dotI]
  | a :: l, b :: m => by simp only [List.length_cons, List.take_succ_cons, dotI, dotI_take l m]
theorem dotI_bound {A B : Int} (hA : 0 ≤ A) (hB : 0 ≤ B) : ∀ (l m : List Int), inB A l → inB B m → -(m.length * (A * B)) ≤ dotI l m ∧ dotI l m ≤ m.length * (A * B)
  | [], m, _, _ => by
    have := Int.mul_nonneg hA hB
    have := Int.mul_nonneg (show (0 : Int) ≤ m.length by omega) this
    simp only [dotI]; omega
  | a :: l, [], _, _ => by simp [dotI]
  | a :: l, b :: m, h1, h2 => by
    obtain ⟨i1, i2⟩ := dotI_bound hA hB l m (fun x hx => h1 x (List.mem_cons_of_mem _ hx)) fun x hx => h2 x (List.mem_cons_of_mem _ hx)
    have ba := h1 a List.mem_cons_self
    have bb := h2 b List.mem_cons_self
    have := mul_bound ba.1 ba.2 bb.1 bb.2
    simp only [dotI, List.length_cons]
    push_cast
    rw [Int.add_mul, Int.one_mul]
    omega

theorem farkas_point_bound.spec (p : farkas_point) (r : farkas_row) (n : Int) (h : farkas_point_bound.pre p r n) : farkas_point_bound.wp p r n (fun x => x = farkas_point_bound.fn p r n) := by
  obtain ⟨⟨h12, hx, d1, d2⟩, hn, hpl, hr⟩ := h
  intro _
  have bn := gI_inB hr hn.1 hn.2
  have m0 := mul_bound (A := 1073741824) (B := 268435456) bn.1 bn.2 (by omega) d2
  refine ⟨hn, ⟨by omega, by omega⟩, fun _ => ?_⟩
  refine ⟨fun m s i => ∃ k : Nat, i = (k : Int) ∧ m + k = p.1.length ∧ s = gI r.2 n * p.2 + dotI (r.2.take k) (p.1.take k) ∧ -((k + 1) * 288230376151711744) ≤ s ∧ s ≤ (k + 1) * 288230376151711744, ⟨p.1.length, 0, rfl, rfl, by simp [dotI], by omega, by omega⟩, ?_⟩
  rintro m s i ⟨k, rfl, hm, hs, s1, s2⟩
  refine ⟨fun hi => ?_, fun hi => ?_⟩
  · have hk : k < p.1.length := by omega
    rw [gI_nat, gI_nat]
    have b1 := hr _ (getD_mem 0 (by omega : k < r.2.length))
    have b2 := hx _ (getD_mem 0 hk)
    have m1 := mul_bound b1.1 b1.2 b2.1 b2.2
    have hd := dotI_succ r.2 p.1 k (by omega) hk
    generalize r.2.getD k 0 * p.1.getD k 0 = u at *
    refine ⟨⟨by omega, hi⟩, ⟨by omega, by omega⟩, ⟨by omega, by omega⟩, ⟨by omega, by omega⟩, ?_⟩
    rintro t rfl
    refine ⟨⟨by omega, by omega⟩, m - 1, by omega, k + 1, by omega, by omega, by rw [hd, hs]; omega, ?_, ?_⟩
    · push_cast; omega
    · push_cast; omega
  · have hk : k = p.1.length := by omega
    subst hk
    rw [List.take_of_length_le (Nat.le_refl p.1.length), dotI_take] at hs
    have bv := gI_inB hr (v := (p.1.length : Int)) (by omega) (by omega)
    unfold farkas_point_bound.fn
    rw [← hs]
    exact ⟨⟨by omega, by omega⟩, fun h => ⟨⟨by omega, by omega⟩, ⟨by omega, by omega⟩, by rw [if_pos h]⟩, fun h => ⟨⟨by omega, by omega⟩, ⟨by omega, by omega⟩, by rw [if_neg h]⟩⟩
/-- A fraction that a row gives. -/
abbrev frB (f : farkas_fraction) : Prop := (-4611686018427387904 ≤ f.1 ∧ f.1 ≤ 4611686018427387904) ∧ 1 ≤ f.2 ∧ f.2 ≤ 1073741824
theorem bound_ok {p : farkas_point} {r : farkas_row} {n : Int} (h : farkas_point_bound.pre p r n) (h0 : gI r.2 p.1.length ≠ 0) : frB (farkas_point_bound.fn p r n) := by
  obtain ⟨⟨h12, hx, d1, d2⟩, hn, hpl, hr⟩ := h
  have bn := gI_inB hr hn.1 hn.2
  have m0 := mul_bound (A := 1073741824) (B := 268435456) bn.1 bn.2 (by omega) d2
  have md := dotI_bound (by decide) (by decide) r.2 p.1 hr hx
  have ml : (p.1.length : Int) * (1073741824 * 268435456) ≤ 12 * (1073741824 * 268435456) := by omega
  have bv := gI_inB hr (v := (p.1.length : Int)) (by omega) (by omega)
  unfold farkas_point_bound.fn
  split
  · exact ⟨⟨by show _ ≤ gI r.2 n * p.2 + dotI r.2 p.1; omega, by show gI r.2 n * p.2 + dotI r.2 p.1 ≤ _; omega⟩, by show 1 ≤ -(gI r.2 p.1.length); omega, by show -(gI r.2 p.1.length) ≤ _; omega⟩
  · exact ⟨⟨by show _ ≤ -(gI r.2 n * p.2 + dotI r.2 p.1); omega, by show -(gI r.2 n * p.2 + dotI r.2 p.1) ≤ _; omega⟩, by show 1 ≤ gI r.2 p.1.length; omega, by show gI r.2 p.1.length ≤ _; omega⟩
theorem less_pre {a b : farkas_fraction} (ha : frB a) (hb : frB b) : farkas_fraction_less.pre a b := by
  obtain ⟨⟨a1, a2⟩, a3, a4⟩ := ha
  obtain ⟨⟨b1, b2⟩, b3, b4⟩ := hb
  exact ⟨⟨⟨by omega, by omega⟩, ⟨by omega, by omega⟩⟩, ⟨by omega, by omega⟩, by omega, by omega⟩

/-- A fraction that may not be there, as the code keeps it. -/
def optF (b : Bool) (x y : Int) : Option farkas_fraction := if b then some (x, y) else none
theorem farkas_point_value.spec (p : farkas_point) (t : farkas_table) (h : farkas_point_value.pre p t) : farkas_point_value.wp p t (fun x => x = farkas_point_value.fn p t) := by
  obtain ⟨hp, L, ⟨⟨ht, htL, hL⟩, h4, hr⟩, hpt⟩ := h
  intro _ _
  unfold farkas_point_value.fn
  generalize hR : valueL p t.1 t.2 none none = R
  refine ⟨fun m x1 x2 x3 x4 x5 x6 i => ∃ k : Nat, i = (k : Int) ∧ m + k = t.2.length ∧ (x1 = true → frB (x2, x3)) ∧ (x4 = true → frB (x5, x6)) ∧ R = valueL p t.1 (t.2.drop k) (optF x1 x2 x3) (optF x4 x5 x6), ⟨t.2.length, 0, rfl, rfl, (fun h => by cases h), (fun h => by cases h), hR.symm⟩, ?_⟩
  rintro m x1 x2 x3 x4 x5 x6 i ⟨k, rfl, hm, hlo, hhi, hq⟩
  clear hR
  refine ⟨fun hi => ?_, fun hi => ?_⟩
  · have hk : k < t.2.length := by omega
    have hrk := hr.at hk
    refine ⟨⟨by omega, hi⟩, ?_⟩
    rintro r hre
    rw [Int.toNat_natCast] at hre
    rw [drop_get d_farkas_row hk, ← hre] at hq
    rw [← hre] at hrk
    have hpl : (p.1.length : Int) < (r.2.length : Int) := by rw [hrk.1]; omega
    have hbp : farkas_point_bound.pre p r t.1 := ⟨hp, ⟨ht, by rw [hrk.1]; omega⟩, by omega, hrk.2⟩
    unfold valueL at hq
    refine ⟨⟨by omega, hpl⟩, fun hz => ⟨⟨by omega, by omega⟩, m - 1, by omega, k + 1, by omega, by omega, hlo, hhi, ?_⟩, fun hz => ⟨hbp, ?_⟩⟩
    · rw [if_pos hz] at hq; exact hq
    · rw [if_neg hz] at hq
      have hf := bound_ok hbp hz
      generalize farkas_point_bound.fn p r t.1 = f at hq hf ⊢
      rintro g rfl
      rintro f1 rfl
      rintro f2 rfl
      refine ⟨fun he => ?_, fun he => ⟨⟨by omega, hpl⟩, fun hpos => ⟨fun hx => less_pre (hlo (by simpa using hx)) hf, fun hc => ⟨⟨by omega, by omega⟩, m - 1, by omega, k + 1, by omega, by omega, fun _ => hf, hhi, ?_⟩, fun hc => ⟨⟨by omega, by omega⟩, m - 1, by omega, k + 1, by omega, by omega, hlo, hhi, ?_⟩⟩, fun hpos => ⟨fun hx => less_pre hf (hhi (by simpa using hx)), fun hc => ⟨⟨by omega, by omega⟩, m - 1, by omega, k + 1, by omega, by omega, hlo, fun _ => hf, ?_⟩, fun hc => ⟨⟨by omega, by omega⟩, m - 1, by omega, k + 1, by omega, by omega, hlo, hhi, ?_⟩⟩⟩⟩
      · rw [if_pos he] at hq; exact hq.symm
      all_goals rw [if_neg (by rw [he]; simp)] at hq
      · rw [if_pos hpos] at hq
        rw [hq]
        cases x1 with
        | false => rfl
        | true => have hc : farkas_fraction_less.fn (x2, x3) g = true := by simpa using hc
                  show valueL _ _ _ (if farkas_fraction_less.fn (x2, x3) g = true then some g else some (x2, x3)) _ = _
                  rw [if_pos hc]; rfl
      · rw [if_pos hpos] at hq
        rw [hq]
        cases x1 with
        | false => cases hc
        | true => have hc : farkas_fraction_less.fn (x2, x3) g = false := by simpa using hc
                  show valueL _ _ _ (if farkas_fraction_less.fn (x2, x3) g = true then some g else some (x2, x3)) _ = _
                  rw [if_neg (by rw [hc]; simp)]; rfl
      · rw [if_neg hpos] at hq
        rw [hq]
        cases x4 with
        | false => rfl
        | true => have hc : farkas_fraction_less.fn g (x5, x6) = true := by simpa using hc
                  show valueL _ _ _ _ (if farkas_fraction_less.fn g (x5, x6) = true then some g else some (x5, x6)) = _
                  rw [if_pos hc]; rfl
      · rw [if_neg hpos] at hq
        rw [hq]
        cases x4 with
        | false => cases hc
        | true => have hc : farkas_fraction_less.fn g (x5, x6) = false := by simpa using hc
                  show valueL _ _ _ _ (if farkas_fraction_less.fn g (x5, x6) = true then some g else some (x5, x6)) = _
                  rw [if_neg (by rw [hc]; simp)]; rfl
  · rw [List.drop_of_length_le (by omega)] at hq
    rw [hq]
    refine ⟨fun h => ⟨h, by subst h; rfl⟩, fun h => ⟨fun h2 => ⟨h2, by subst h; subst h2; rfl⟩, fun h2 => by subst h; subst h2; rfl⟩⟩

theorem valueL_ok (p : farkas_point) (n : Int) : ∀ (l : List farkas_row) (lo hi : Option farkas_fraction), (∀ r ∈ l, farkas_point_bound.pre p r n) → (∀ f, lo = some f → frB f) → (∀ f, hi = some f → frB f) → frB (valueL p n l lo hi)
  | [], some f, _, _, h, _ => h f rfl
  | [], none, some f, _, _, h => h f rfl
  | [], none, none, _, _, _ => show frB (0, 1) from ⟨⟨by decide, by decide⟩, by decide, by decide⟩
  | r :: l, lo, hi, hl, h1, h2 => by
    have hl' : ∀ r ∈ l, farkas_point_bound.pre p r n := fun x hx => hl x (List.mem_cons_of_mem _ hx)
    unfold valueL
    split
    · exact valueL_ok p n l lo hi hl' h1 h2
    · rename_i h0
      have hf := bound_ok (hl r List.mem_cons_self) h0
      split
      · exact hf
      · split
        · refine valueL_ok p n l _ hi hl' (fun f hf' => ?_) h2
          split at hf'
          · cases hf'; exact hf
          · split at hf'
            · cases hf'; exact hf
            · cases hf'; exact h1 _ rfl
        · refine valueL_ok p n l lo _ hl' h1 fun f hf' => ?_
          split at hf'
          · cases hf'; exact hf
          · split at hf'
            · cases hf'; exact hf
            · cases hf'; exact h2 _ rfl
theorem value_ok {p : farkas_point} {t : farkas_table} (h : farkas_point_value.pre p t) : frB (farkas_point_value.fn p t) := by
  obtain ⟨hp, L, ⟨⟨ht, htL, hL⟩, h4, hr⟩, hpt⟩ := h
  refine valueL_ok p t.1 t.2 none none (fun r hr' => ?_) (fun f hf => by cases hf) fun f hf => by cases hf
  have := hr r hr'
  exact ⟨hp, ⟨ht, by rw [this.1]; omega⟩, by rw [this.1]; omega, this.2⟩
end Go.Proofs.Ytlncingakpelbaa
