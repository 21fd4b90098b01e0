/- Part of a proof that a law of the program holds for every input: what the small functions of the document's answer to chapter 9 are, in plain Lean. No conditions. -/
import Derived.Test.YtlncingakpelbaaSL1
import Derived.Test.YtlncingakpelbaaS3
namespace Go.Proofs.Ytlncingakpelbaa
open Go
set_option linter.unusedVariables false

theorem ref09_Row_numbers.spec (r : ref09_Row) (h : ref09_Row_numbers.pre r) : ref09_Row_numbers.wp r (fun x => x = ref09_Row_numbers.fn r) := by
  have h : (toF r).2.length ≤ 1048576 := h
  simp only [toF, List.length_append, List.length_cons] at h
  unfold ref09_Row_numbers.wp ref09_Row_numbers.fn
  simp only [List.nil_append, List.length_nil, List.length_append, List.length_cons]
  refine ⟨⟨by omega, by omega⟩, ⟨by omega, by omega⟩, ⟨by omega, by omega⟩, ?_⟩
  rintro x rfl
  simp

theorem ref01_size.spec (a : Int) (h : ref01_size.pre a) : ref01_size.wp a (fun x => x = ref01_size.fn a) := by
  have ha : i64 a := h
  simp only [i64] at ha
  unfold ref01_size.wp ref01_size.fn
  simp only [wrap_u64]
  refine ⟨fun h => ?_, fun h => by omega⟩
  rintro x rfl
  omega

theorem ref01_Gcd.spec (l : List Int) (h : ref01_Gcd.pre l) : ref01_Gcd.wp l (fun x => x = ref01_Gcd.fn l) := by
  have hl : ∀ x ∈ l, i64 x := h
  intro _
  refine ⟨fun n x i => ∃ k : Nat, i = (k : Int) ∧ n + k = l.length ∧ 0 ≤ x ∧ x = (l.take k).foldl num_Gcd_1.fn 0, ⟨l.length, 0, rfl, rfl, Int.le_refl 0, rfl⟩, ?_⟩
  rintro n x i ⟨k, rfl, hn, hx0, hx⟩
  refine ⟨fun hi => ?_, fun hi => ?_⟩
  · have hk : k < l.length := by omega
    rw [gI_nat]
    refine ⟨⟨by omega, hi⟩, hl _ (getD_mem 0 hk), ?_⟩
    rintro y rfl
    refine ⟨fun m u w => ∃ p q : Nat, u = (p : Int) ∧ w = (q : Int) ∧ m = q ∧ Nat.gcd p q = Nat.gcd x.natAbs (l.getD k 0).natAbs, ⟨(l.getD k 0).natAbs, x.natAbs, (l.getD k 0).natAbs, by omega, rfl, rfl, rfl⟩, ?_⟩
    rintro m u w ⟨p, q, rfl, rfl, hm, hg⟩
    refine ⟨fun hq => ⟨hq, p % q, by rw [hm]; exact Nat.mod_lt _ (by omega), q, p % q, rfl, (Int.ofNat_tmod p q).symm, rfl, ?_⟩, fun hq => ?_⟩
    · rw [Nat.gcd_comm q, ← Nat.gcd_rec, Nat.gcd_comm]; exact hg
    · have : q = 0 := by omega
      subst this
      rw [Nat.gcd_zero_right] at hg
      refine ⟨⟨by omega, by omega⟩, n - 1, by omega, k + 1, by omega, by omega, by omega, ?_⟩
      rw [take_get 0 hk, List.foldl_append, ← hx, hg]; rfl
  · have hk : k = l.length := by omega
    subst hk
    rw [List.take_of_length_le (Nat.le_refl _)] at hx
    have hg : x = gcdL l := hx
    have hb := gcdL_bound (l := l) (B := 9223372036854775808) (by decide) fun y hy => by have := hl y hy; exact ⟨this.1, by have := this.2; omega⟩
    unfold ref01_Gcd.fn num_Gcd.fn
    rw [← hg] at hb ⊢
    refine ⟨fun h => by rw [if_pos (by omega)], fun h => ⟨⟨by omega, by omega⟩, by rw [if_neg (by omega)]⟩⟩

theorem toF_len (r : ref09_Row) : (toF r).2.length = r.1.1.length + 1 + r.2.2.length := by simp only [toF, List.length_append, List.length_cons]; omega
theorem ofF_toF {n : Nat} {r : ref09_Row} (h : r.1.1.length = n) : ofF n (toF r) = r := by
  obtain ⟨⟨C, K⟩, e, W⟩ := r
  have h : C.length = n := h
  subst h
  unfold ofF toF
  simp [List.drop_append]
theorem toF_ofF {n : Nat} {r : farkas_row} (h : n < r.2.length) : toF (ofF n r) = r := by
  unfold ofF toF
  simp only []
  rw [← drop_get 0 h, List.take_append_drop]
theorem ofF_len {n : Nat} {r : farkas_row} (h : n < r.2.length) : (ofF n r).1.1.length = n := by
  show (r.2.take n).length = n
  rw [List.length_take]; omega
theorem toF_getC {r : ref09_Row} {v : Int} (h0 : 0 ≤ v) (h : v < (r.1.1.length : Int)) : gI (toF r).2 v = gI r.1.1 v := by
  simp only [gI, toF, List.getD_eq_getElem?_getD]
  rw [List.getElem?_append_left (by omega)]
theorem toF_getK (r : ref09_Row) : (toF r).2.getD r.1.1.length 0 = r.1.2 := by simp [toF, List.getD_eq_getElem?_getD]
theorem toF_dropW (r : ref09_Row) : (toF r).2.drop (r.1.1.length + 1) = r.2.2 := by simp [toF, List.drop_append]
theorem toF_take (r : ref09_Row) : (toF r).2.take (r.1.1.length + 1) = r.1.1 ++ [r.1.2] := by
  show (r.1.1 ++ r.1.2 :: r.2.2).take _ = _
  rw [List.take_append, List.take_of_length_le (by omega)]; simp

theorem ref09_mix.spec (a : Int) (r : ref09_Row) (b : Int) (s : ref09_Row) (h : ref09_mix.pre a r b s) : ref09_mix.wp a r b s (fun x => x = ref09_mix.fn a r b s) := by
  have h : farkas_vector_int_sum.pre (toF r).2 a b (toF s).2 := h
  obtain ⟨z1, z2⟩ := sum_inB h
  obtain ⟨hl, hl2, hx, hy, ha, hb⟩ := h
  refine ⟨hl2, by show (toF s).2.length ≤ _; omega, ?_⟩
  rintro x hxx
  replace hxx : x = (toF r).2 := hxx
  rintro y hyy
  replace hyy : y = (toF s).2 := hyy
  have hrl := toF_len r
  unfold ref09_mix.fn
  generalize (toF r).2 = X at *
  generalize (toF s).2 = Y at *
  subst hxx
  subst hyy
  refine ⟨⟨by omega, by omega, by omega, by omega⟩, ?_⟩
  rintro z rfl
  intro _ _
  generalize hzz : farkas_vector_int_sum.fn x a b y = z at *
  rw [Int.toNat_natCast]
  refine ⟨fun n i o => ∃ k : Nat, i = (k : Int) ∧ n + k = x.length ∧ o = z.take k ++ List.replicate (z.length - k) 0, ⟨x.length, 0, rfl, rfl, by simp [z1]⟩, ?_⟩
  rintro n i o ⟨k, rfl, hn, rfl⟩
  refine ⟨fun hi => ?_, fun hi => ?_⟩
  · have hk : k < x.length := by omega
    rw [fill_len _ _ (by omega), gI_nat, gI_nat, Int.toNat_natCast]
    have bx := hx _ (getD_mem 0 hk)
    have bY := hy _ (getD_mem 0 (by omega : k < y.length))
    have m1 := mul_bound ha.1 ha.2 bx.1 bx.2
    have m2 := mul_bound hb.1 hb.2 bY.1 bY.2
    have hzk : z.getD k 0 = a * x.getD k 0 + b * y.getD k 0 := by
      rw [← hzz]; exact zipWith_getD (fun p q => a * p + b * q) x y k hk (by omega)
    refine ⟨⟨by omega, hi⟩, ⟨by omega, by omega⟩, ⟨by omega, by omega⟩, ⟨by omega, by omega⟩, ⟨by omega, by omega⟩, ⟨by omega, by omega⟩, by omega, ?_⟩
    rintro w rfl
    refine ⟨⟨by omega, by omega⟩, n - 1, by omega, k + 1, by omega, by omega, ?_⟩
    rw [← hzk]; exact fill_step z k (by omega)
  · have hk : k = x.length := by omega
    rw [List.take_of_length_le (by omega), show z.length - k = 0 from by omega, List.replicate_zero, List.append_nil]
    refine ⟨inB.i64 z2 (by decide), ?_⟩
    rintro g hg
    have hg : g = (gcdL z, 0) := by rw [hg]; exact gcdL_fn z2
    rw [hg]
    simp only []
    have red : (farkas_row_reduced.fn (r.2.1, z)) = (r.2.1, if gcdL z > 1 then z.map (fun x => Int.tdiv x (gcdL z)) else z) := by
      unfold farkas_row_reduced.fn farkas_vector_int_by.fn
      simp only []
      split <;> rfl
    rw [red]
    refine ⟨fun o => o = if gcdL z > 1 then z.map (fun x => Int.tdiv x (gcdL z)) else z, ⟨fun hg1 => ?_, fun hg1 => by rw [if_neg hg1]⟩, ?_⟩
    · rw [if_pos hg1]
      refine ⟨fun n i o => ∃ k : Nat, i = (k : Int) ∧ n + k = z.length ∧ o = (z.take k).map (fun x => Int.tdiv x (gcdL z)) ++ z.drop k, ⟨z.length, 0, rfl, rfl, by simp⟩, ?_⟩
      rintro n i o ⟨k, rfl, hn, rfl⟩
      rw [len_step, Int.toNat_natCast]
      refine ⟨fun hi => ?_, fun hi => ?_⟩
      · have hk : k < z.length := by omega
        rw [map_get_step _ _ _ hk]
        have := tdiv_bound (show 1 ≤ gcdL z by omega) (z2 _ (getD_mem 0 hk))
        refine ⟨⟨by omega, hi⟩, hk, ⟨by omega, by omega, by omega⟩, ⟨by omega, hi⟩, hk, ?_⟩
        rintro w rfl
        exact ⟨⟨by omega, by omega⟩, n - 1, by omega, k + 1, by omega, by omega, map_set_step (α := Int) _ _ _ hk⟩
      · have hk : k = z.length := by omega
        subst hk
        simp
    · rintro o ho
      rw [← ho]
      have hol : o.length = x.length := by rw [ho]; split <;> simp [z1]
      intro _
      refine ⟨⟨by omega, by omega⟩, ⟨by omega, by omega⟩, ⟨by omega, by omega⟩, ⟨by omega, by omega⟩, ?_⟩
      rintro u rfl
      rintro w rfl
      have e1 : Int.toNat ((r.1.1.length : Int) + 1) = r.1.1.length + 1 := by omega
      rw [Int.toNat_natCast, e1, gI_nat]
      rfl

theorem ref09_same.spec (a b : ref09_Row) (h : ref09_same.pre a b) : ref09_same.wp a b (fun x => x = ref09_same.fn a b) := by
  have h : a.1.1.length = b.1.1.length := h
  unfold ref09_same.wp ref09_same.fn
  refine ⟨fun hc => ?_, fun hc _ => ?_⟩
  · have : ((a.2.1 == b.2.1) && (a.1.2 == b.1.2)) = false := by
      simp only [Bool.or_eq_true, bne_iff_ne] at hc
      rw [Bool.and_eq_false_iff]
      rcases hc with hc | hc
      · exact Or.inl (beq_eq_false_iff_ne.2 hc)
      · exact Or.inr (beq_eq_false_iff_ne.2 hc)
    rw [this]; rfl
  · have : ((a.2.1 == b.2.1) && (a.1.2 == b.1.2)) = true := by
      simp only [Bool.or_eq_false_iff, bne_eq_false_iff_eq] at hc
      rw [hc.1, hc.2]; simp
    rw [this, Bool.true_and]
    refine ⟨fun n i => ∃ k : Nat, i = (k : Int) ∧ n + k = a.1.1.length ∧ a.1.1.take k = b.1.1.take k, ⟨a.1.1.length, 0, rfl, rfl, rfl⟩, ?_⟩
    rintro n i ⟨k, rfl, hn, ht⟩
    rw [gI_nat, gI_nat]
    refine ⟨fun hi => ⟨⟨by omega, hi⟩, ⟨by omega, by omega⟩, fun hne => ?_, fun heq => ⟨⟨by omega, by omega⟩, n - 1, by omega, k + 1, by omega, by omega, ?_⟩⟩, fun hi => ?_⟩
    · exact (beq_eq_false_iff_ne.2 fun e => hne (by rw [e])).symm
    · rw [take_get 0 (by omega), take_get 0 (by omega), ht, heq]
    · rw [List.take_of_length_le (by omega), List.take_of_length_le (by omega)] at ht
      rw [ht]; exact (beq_self_eq_true b.1.1).symm

theorem ref09_refuted.spec (rows : List ref09_Row) (h : ref09_refuted.pre rows) : ref09_refuted.wp rows (fun x => x = ref09_refuted.fn rows) := by
  have hr : ∀ r ∈ rows, r.2.2.length ≤ 1048576 ∧ inB 1073741824 r.2.2 := h
  unfold ref09_refuted.wp ref09_refuted.fn
  intro _
  generalize hR : refuteR rows = R
  refine ⟨fun m i => ∃ k : Nat, i = (k : Int) ∧ m + k = rows.length ∧ R = refuteR (rows.drop k), ⟨rows.length, 0, rfl, rfl, hR.symm⟩, ?_⟩
  rintro m i ⟨k, rfl, hm, hq⟩
  refine ⟨fun hi => ?_, fun hi => ?_⟩
  · have hk : k < rows.length := by omega
    have hrk := hr _ (getD_mem d_ref09_Row hk)
    refine ⟨⟨by omega, hi⟩, ?_⟩
    rintro r hre
    rw [Int.toNat_natCast] at hre
    rw [drop_get d_ref09_Row hk, ← hre] at hq
    rw [← hre] at hrk
    unfold refuteR at hq
    refine ⟨fun hc => by rw [if_pos hc] at hq; exact hq.symm, fun hc => ⟨fun hc2 _ => ?_, fun hc2 => ⟨⟨by omega, by omega⟩, m - 1, by omega, k + 1, by omega, by omega, ?_⟩⟩⟩
    · rw [if_neg hc, if_pos hc2] at hq
      refine ⟨fun n i o => ∃ k : Nat, i = (k : Int) ∧ n + k = r.2.2.length ∧ o = (r.2.2.take k).map (fun x => -x), ⟨r.2.2.length, 0, rfl, rfl, rfl⟩, ?_⟩
      rintro n i o ⟨k, rfl, hn, rfl⟩
      refine ⟨fun hi => ?_, fun hi => ?_⟩
      · have hk : k < r.2.2.length := by omega
        rw [gI_nat]
        have := hrk.2 _ (getD_mem 0 hk)
        refine ⟨⟨by omega, hi⟩, ⟨by omega, by omega⟩, ⟨?_, ?_⟩, ⟨by omega, by omega⟩, n - 1, by omega, k + 1, by omega, by omega, ?_⟩
        · rw [List.length_singleton, List.length_map, List.length_take]; omega
        · rw [List.length_singleton, List.length_map, List.length_take]; omega
        · rw [take_get 0 hk, List.map_append]; rfl
      · rw [hq, List.take_of_length_le (by omega)]
    · rw [if_neg hc, if_neg (by rw [hc2]; simp)] at hq; exact hq
  · rw [List.drop_of_length_le (by omega)] at hq
    exact hq.symm
/-- The first false row is the same one. -/
theorem refuteR_eq {n : Int} (hn : 0 ≤ n) : ∀ (rows : List ref09_Row), (∀ r ∈ rows, (r.1.1.length : Int) = n) → refuteR rows = refuteL n (rows.map toF)
  | [], _ => rfl
  | r :: l, h => by
    have hr := h r List.mem_cons_self
    have ih := refuteR_eq hn l fun x hx => h x (List.mem_cons_of_mem _ hx)
    have ek : gI (toF r).2 n = r.1.2 := by rw [← hr]; exact (gI_nat _ _).trans (toF_getK r)
    have ew : (toF r).2.drop (Int.toNat (n + 1)) = r.2.2 := by rw [← hr, show Int.toNat ((r.1.1.length : Int) + 1) = r.1.1.length + 1 from by omega]; exact toF_dropW r
    have e1 : (toF r).1 = r.2.1 := rfl
    rw [List.map_cons]
    unfold refuteR refuteL
    rw [ek, ew, e1, ← ih]
    by_cases h1 : r.1.2 < 0
    · rw [if_pos h1, if_neg (by omega), if_neg (by omega)]
    · rw [if_neg h1]
      by_cases h2 : r.1.2 > 0
      · cases he : r.2.1 with
        | true => rw [decide_eq_true h2, Bool.and_self, if_pos rfl, if_neg (by simp; omega), if_pos h2]
        | false => rw [if_neg (by simp), if_pos ⟨by omega, Or.inl rfl⟩]
      · have h0 : r.1.2 = 0 := by omega
        rw [decide_eq_false h2, if_neg (by simp), if_pos ⟨by omega, Or.inr h0⟩]

/-! ## Lists -/
theorem ref02_Order.spec (a b : List Int) (h : ref02_Order.pre a b) : ref02_Order.wp a b (fun x => x = ref02_Order.fn a b) := by
  have h : a.length ≤ b.length := h
  unfold ref02_Order.wp ref02_Order.fn
  intro _
  generalize hR : cmpL a b = R
  refine ⟨fun n i => ∃ k : Nat, i = (k : Int) ∧ n + k = a.length ∧ R = cmpL (a.drop k) (b.drop k), ⟨a.length, 0, rfl, rfl, hR.symm⟩, ?_⟩
  rintro n i ⟨k, rfl, hn, hq⟩
  rw [gI_nat, gI_nat]
  refine ⟨fun hi => ?_, fun hi => ?_⟩
  · have hk : k < a.length := by omega
    rw [drop_get 0 hk, drop_get 0 (by omega : k < b.length)] at hq
    unfold cmpL at hq
    refine ⟨⟨by omega, hi⟩, ⟨by omega, by omega⟩, fun hc => ?_, fun hc => ⟨⟨by omega, hi⟩, ⟨by omega, by omega⟩, fun hc2 => ?_, fun hc2 => ⟨⟨by omega, by omega⟩, n - 1, by omega, k + 1, by omega, by omega, ?_⟩⟩⟩
    · rw [if_pos hc] at hq; exact hq.symm
    · rw [if_neg hc, if_pos hc2] at hq; exact hq.symm
    · rw [if_neg hc, if_neg hc2] at hq; exact hq
  · rw [List.drop_of_length_le (by omega : a.length ≤ k)] at hq
    unfold cmpL at hq
    exact hq.symm
theorem law09_list.spec (a b : List Int) : law09_list.wp a b (fun x => x = law09_list.fn a b) := by
  refine ⟨fun h => ?_, ?_⟩
  · show a.length ≤ b.length
    have := beq_iff_eq.1 h; omega
  · rintro x rfl; rfl
theorem cmpL_self : ∀ l : List Int, cmpL l l = 0
  | [] => rfl
  | a :: l => by unfold cmpL; rw [if_neg (by omega), if_neg (by omega)]; exact cmpL_self l
theorem list_self (l : List Int) : law09_list.fn l l = true := by unfold law09_list.fn; rw [cmpL_self]; simp
end Go.Proofs.Ytlncingakpelbaa
