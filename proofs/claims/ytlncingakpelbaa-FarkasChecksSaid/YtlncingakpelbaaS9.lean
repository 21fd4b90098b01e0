/- Part of a proof that a law of the program holds for every input: whole numbers of any size, as the document's answer reckons them, in plain Lean. No conditions. -/
import Derived.Test.YtlncingakpelbaaS
namespace Go.Proofs.Ytlncingakpelbaa
open Go
set_option linter.unusedVariables false

theorem mask16 (w : Int) : IntKind.wrap .i64 ((BitVec.ofInt 64 w &&& BitVec.ofInt 64 (65535 : Int)).toNat : Int) = w % 65536 ∧ IntKind.wrap .u64 ((BitVec.ofInt 64 w &&& BitVec.ofInt 64 (65535 : Int)).toNat : Int) = w % 65536 := by
  have h : (BitVec.ofInt 64 w &&& BitVec.ofInt 64 (65535 : Int)).toNat = (w % 18446744073709551616).toNat % 65536 := by
    rw [BitVec.toNat_and, BitVec.toNat_ofInt, show (BitVec.ofInt 64 (65535 : Int)).toNat = 2 ^ 16 - 1 from by decide, Nat.and_two_pow_sub_one_eq_mod]
    rfl
  rw [h]
  have h1 : (((w % 18446744073709551616).toNat % 65536 : Nat) : Int) = w % 65536 := by omega
  rw [h1]
  have h2 : 0 ≤ w % 65536 ∧ w % 65536 < 65536 := by omega
  generalize w % 65536 = y at h2
  constructor
  · simp [IntKind.wrap, IntKind.bits, IntKind.signed]
    omega
  · simp [IntKind.wrap, IntKind.bits, IntKind.signed]
    omega
theorem shr16 (w : Int) : Int.fdiv w (2 ^ (min (Int.toNat (16 : Int)) 64)) = w / 65536 := by
  rw [show (2 : Int) ^ (min (Int.toNat (16 : Int)) 64) = 65536 from by decide]
  exact Int.fdiv_eq_ediv_of_nonneg w (by decide)

theorem ref01_Fits.spec (a : Int) : ref01_Fits.wp a (fun x => x = ref01_Fits.fn a) := rfl
theorem ref02_Valid.spec (l : api_Lin) : ref02_Valid.wp l (fun x => x = ref02_Valid.fn l) := by
  intro hl
  refine scan_wp ref01_Fits.fn 0 l.1 hl _ _ (fun h => ?_) (fun h => ?_)
  · have h : l.1.all num_Fits.fn = false := h
    simp [ref02_Valid.fn, lin_Valid.fn, h]
  · have h : l.1.all num_Fits.fn = true := h
    simp [ref02_Valid.fn, lin_Valid.fn, h, ref01_Fits.fn]
theorem ref03_Valid.spec (c : api_Cond) : ref03_Valid.wp c (fun x => x = ref03_Valid.fn c) := by
  unfold ref03_Valid.wp ref03_Valid.fn cond_Valid.fn ref02_Valid.fn
  refine ⟨fun h => ?_, fun h => ⟨fun h2 => ?_, fun h2 => ?_⟩⟩
  · simp [h]
  · simp [h, h2]
  · simp only [h, h2, Bool.and_true, if_false]
    by_cases h3 : c.1 = 0 ∨ c.1 = 1
    · rw [if_pos h3]; rcases h3 with h3 | h3 <;> simp [h3]
    · rw [if_neg h3]
      simp only [not_or] at h3
      simp [h3.1, h3.2]

theorem ref09_asked.spec (p : List api_Cond) (n : Int) : ref09_asked.wp p n (fun x => x = ref09_asked.fn p n) := by
  unfold ref09_asked.wp ref09_asked.fn farkas_asked.fn
  refine ⟨fun h => ?_, fun h hl => ⟨fun h2 => ?_, fun h2 _ => ?_⟩⟩
  · rw [if_pos (by simpa using h)]
  all_goals rw [if_neg (by simpa using h)]
  · rw [if_pos h2]
  rw [if_neg h2]
  refine ⟨fun m e x => ∃ k : Nat, x = (k : Int) ∧ m + k = p.length ∧ (p.take k).any farkas_asked_1.fn = false ∧ e = (if (p.take k).any (fun c => farkas_asked_2.fn c n) then 2 else 0), ⟨p.length, 0, rfl, rfl, rfl, rfl⟩, ?_⟩
  rintro m e x ⟨k, rfl, hm, h3, he⟩
  refine ⟨fun hx => ⟨⟨by omega, hx⟩, ?_⟩, fun hx => ?_⟩
  · have hk : k < p.length := by omega
    rintro c rfl
    simp only [Int.toNat_natCast]
    refine ⟨fun hv => ?_, fun (hv : cond_Valid.fn _ = true) => ⟨fun hd => ⟨⟨by omega, by omega⟩, m - 1, by omega, k + 1, by simp, by omega, ?_, ?_⟩, fun hd => ⟨⟨by omega, by omega⟩, m - 1, by omega, k + 1, by simp, by omega, ?_, ?_⟩⟩⟩
    · rw [if_pos (List.any_eq_true.2 ⟨_, getD_mem d_api_Cond hk, by rw [farkas_asked_1.fn]; exact congrArg (!·) hv⟩)]
    · rw [take_get d_api_Cond hk, List.any_append, h3]; simpa [farkas_asked_1.fn] using hv
    · have h2 : farkas_asked_2.fn (p.getD k d_api_Cond) n = true := by simpa [farkas_asked_2.fn] using hd
      rw [take_get d_api_Cond hk, List.any_append, if_pos]
      simp only [List.any_cons, h2, Bool.true_or, Bool.or_true]
    · rw [take_get d_api_Cond hk, List.any_append, h3]; simpa [farkas_asked_1.fn] using hv
    · have h2 : farkas_asked_2.fn (p.getD k d_api_Cond) n = false := by simpa [farkas_asked_2.fn] using hd
      rw [take_get d_api_Cond hk, List.any_append, he]
      simp only [List.any_cons, List.any_nil, h2, Bool.or_false]
  · have hk : k = p.length := by omega
    subst hk
    rw [List.take_of_length_le (Nat.le_refl _)] at h3 he
    rw [if_neg (by rw [h3]; simp)]; exact he

/-! ## Digits -/
theorem getD_ge {l : List Int} {k : Nat} (h : l.length ≤ k) : l.getD k 0 = 0 := by
  simp [List.getD_eq_getElem?_getD, List.getElem?_eq_none h]
theorem vl_take (l : List Int) (k : Nat) : vl (l.take (k + 1)) = vl (l.take k) + 65536 ^ k * l.getD k 0 := by
  by_cases hk : k < l.length
  · rw [take_get 0 hk, vl_append, List.length_take, Nat.min_eq_left (Nat.le_of_lt hk)]; simp [vl]
  · rw [List.take_of_length_le (by omega), List.take_of_length_le (by omega), getD_ge (by omega)]; simp
theorem dig_getD {l : List Int} (h : dig l) (k : Nat) : 0 ≤ l.getD k 0 ∧ l.getD k 0 < 65536 := by
  by_cases hk : k < l.length
  · exact h _ (getD_mem 0 hk)
  · rw [getD_ge (by omega)]; omega
theorem gI_nat (l : List Int) (k : Nat) : gI l (k : Int) = l.getD k 0 := by simp [gI]

theorem take_last {l : List Int} (h : l ≠ []) : l = l.take (l.length - 1) ++ [l.getD (l.length - 1) 0] := by
  have hp : 0 < l.length := List.length_pos_iff.2 h
  rw [← take_get 0 (by omega : l.length - 1 < l.length), List.take_of_length_le (by omega)]
theorem gI_last {l : List Int} (h : l ≠ []) : gI l ((l.length : Int) - 1) = l.getD (l.length - 1) 0 := by
  have hp : 0 < l.length := List.length_pos_iff.2 h
  have : ((l.length : Int) - 1) = ((l.length - 1 : Nat) : Int) := by omega
  rw [this, gI_nat]
theorem ref09_trim.spec (d : List Int) (h : ref09_trim.pre d) : ref09_trim.wp d (fun x => x = ref09_trim.fn d) := by
  obtain ⟨hd, hlen⟩ := h
  refine ⟨fun n x => n = x.length ∧ x.length ≤ d.length ∧ vl x = vl d ∧ dig x, ⟨_, rfl, Nat.le_refl _, rfl, hd⟩, ?_⟩
  rintro n x ⟨hn, hle, hv, hx⟩
  refine ⟨fun h => ⟨by omega, by omega⟩, fun h => ?_, fun hl => ⟨fun h => ?_, fun h => ?_⟩⟩
  · simp only [decide_eq_true_eq] at h; omega
  · simp only [Bool.and_eq_true, decide_eq_true_eq, beq_iff_eq] at h
    have hne : x ≠ [] := fun e => by subst e; simp at h
    rw [gI_last hne] at h
    refine ⟨⟨by omega, by omega⟩, ⟨by omega, by omega⟩, n - 1, by omega, ?_⟩
    have e : Int.toNat ((x.length : Int) - 1) = x.length - 1 := by omega
    have ht := take_last hne
    rw [h.2] at ht
    rw [e]
    refine ⟨by rw [List.length_take]; omega, by rw [List.length_take]; omega, ?_, dig_sub hx fun a ha => List.mem_of_mem_take ha⟩
    rw [← vl_snoc0, ← ht, hv]
  · show x = dz (vl d)
    rw [← hv]
    refine (dg_of hx ?_).symm
    by_cases hne : x = []
    · exact Or.inl hne
    · right
      rw [gI_last hne] at h
      have hp : 0 < x.length := List.length_pos_iff.2 hne
      rw [take_last hne, List.getLast?_append]
      simp only [Bool.and_eq_false_iff, decide_eq_false_iff_not, beq_eq_false_iff_ne] at h
      rcases h with h | h
      · omega
      · simpa using h

theorem ref09_minus.spec (a b : List Int) (h : ref09_minus.pre a b) : ref09_minus.wp a b (fun x => x = ref09_minus.fn a b) := by
  obtain ⟨⟨ha, hb⟩, hl, hlb, hle⟩ := h
  intro _
  refine ⟨fun n c x o => ∃ k : Nat, x = (k : Int) ∧ n + k = a.length ∧ o.length = k ∧ dig o ∧ (c = 0 ∨ c = 1) ∧ vl o = vl (a.take k) - vl (b.take k) + c * 65536 ^ k, ⟨a.length, 0, rfl, rfl, rfl, dig_nil, Or.inl rfl, by simp [vl]⟩, ?_⟩
  rintro n c x o ⟨k, rfl, hn, ho, hd, hc, hv⟩
  refine ⟨fun hx => ⟨⟨by omega, hx⟩, ?_⟩, fun hx => ?_⟩
  · have hk : k < a.length := by omega
    have g1 := dig_getD ha k
    have g2 := dig_getD hb k
    have t1 := vl_take a k
    have t2 := vl_take b k
    rw [gI_nat, gI_nat]
    refine ⟨by omega, fun _ => ⟨fun d => d = a.getD k 0 - c - b.getD k 0, ⟨fun hb' => ⟨⟨by omega, hb'⟩, by omega, rfl⟩, fun hb' => by rw [getD_ge (l := b) (by omega)]; omega⟩, ?_⟩⟩
    rintro d rfl
    generalize a.getD k 0 = y at *
    generalize b.getD k 0 = z at *
    have key : ∀ c' d', (c' = 0 ∨ c' = 1) → d' = y - c - z + 65536 * c' → 0 ≤ d' → d' < 65536 → ∃ m, m < n ∧ ∃ k' : Nat, ((k : Int) + 1) = (k' : Int) ∧ m + k' = a.length ∧ (o ++ [d']).length = k' ∧ dig (o ++ [d']) ∧ (c' = 0 ∨ c' = 1) ∧ vl (o ++ [d']) = vl (a.take k') - vl (b.take k') + c' * 65536 ^ k' := by
      intro c' d' h1 h2 h3 h4
      refine ⟨n - 1, by omega, k + 1, by omega, by omega, by simp [ho], dig_append hd (dig_one h3 h4), h1, ?_⟩
      rw [vl_append, ho, t1, t2, hv, Int.pow_succ, h2]
      simp only [vl]
      generalize (65536 : Int) ^ k = p
      grind
    refine ⟨fun hneg => ⟨⟨by omega, by omega⟩, ⟨?_, ?_⟩, ⟨by omega, by omega⟩, key 1 _ (Or.inr rfl) (by omega) (by omega) (by omega)⟩, fun hneg => ⟨⟨?_, ?_⟩, ⟨by omega, by omega⟩, key 0 _ (Or.inl rfl) (by omega) (by omega) (by omega)⟩⟩
    all_goals rw [ho, List.length_singleton]; omega
  · have hk : k = a.length := by omega
    subst hk
    refine ⟨⟨hd, by omega⟩, ?_⟩
    rintro y rfl
    show dz (vl o) = dz (vl a - vl b)
    rw [List.take_of_length_le (Nat.le_refl _), List.take_of_length_le (by omega)] at hv
    have := vl_lt hd
    rw [ho] at this
    have : c = 0 := by rcases hc with e | e <;> subst e <;> omega
    rw [hv, this]; simp

theorem ref09_plus.spec (a b : List Int) (h : ref09_plus.pre a b) : ref09_plus.wp a b (fun x => x = ref09_plus.fn a b) := by
  obtain ⟨⟨ha, hb⟩, hla, hlb⟩ := h
  refine ⟨fun n c x o => ∃ k : Nat, x = (k : Int) ∧ ((n + k = max a.length b.length + 1 ∧ (k ≤ max a.length b.length)) ∨ (n = 0 ∧ c = 0 ∧ k = max a.length b.length + 1)) ∧ o.length = k ∧ dig o ∧ (c = 0 ∨ c = 1) ∧ vl o + c * 65536 ^ k = vl (a.take k) + vl (b.take k), ⟨max a.length b.length + 1, 0, rfl, Or.inl ⟨rfl, Nat.zero_le _⟩, rfl, dig_nil, Or.inl rfl, by simp [vl]⟩, ?_⟩
  rintro n c x o ⟨k, rfl, hn, ho, hd, hc, hv⟩
  intro _
  simp only [(mask16 _).1, shr16]
  have g1 := dig_getD ha k
  have g2 := dig_getD hb k
  have t1 := vl_take a k
  have t2 := vl_take b k
  refine ⟨fun hx _ => ?_, fun hx => ?_⟩
  · simp only [Bool.or_eq_true, decide_eq_true_eq] at hx
    rw [gI_nat, gI_nat]
    refine ⟨fun d => d = c + a.getD k 0, ⟨fun ha' => ⟨⟨by omega, ha'⟩, by omega, rfl⟩, fun ha' => by rw [getD_ge (l := a) (by omega)]; omega⟩, ?_⟩
    rintro d rfl
    intro _
    have key : ∀ s, s = c + a.getD k 0 + b.getD k 0 → ∃ m, m < n ∧ ∃ k' : Nat, ((k : Int) + 1) = (k' : Int) ∧ ((m + k' = max a.length b.length + 1 ∧ (k' ≤ max a.length b.length)) ∨ (m = 0 ∧ s / 65536 = 0 ∧ k' = max a.length b.length + 1)) ∧ (o ++ [s % 65536]).length = k' ∧ dig (o ++ [s % 65536]) ∧ (s / 65536 = 0 ∨ s / 65536 = 1) ∧ vl (o ++ [s % 65536]) + s / 65536 * 65536 ^ k' = vl (a.take k') + vl (b.take k') := by
      intro s hs
      have hmore : k = max a.length b.length → s / 65536 = 0 := fun e => by
        rw [getD_ge (l := a) (by omega), getD_ge (l := b) (by omega)] at hs; omega
      refine ⟨n - 1, by omega, k + 1, by omega, ?_, by simp [ho], dig_append hd (dig_one (by omega) (by omega)), by omega, ?_⟩
      · rcases hn with hn | hn
        · by_cases e : k = max a.length b.length
          · right; exact ⟨by omega, hmore e, by omega⟩
          · left; omega
        · omega
      · rw [vl_append, ho, t1, t2, Int.pow_succ]
        simp only [vl]
        have e : s % 65536 = s - 65536 * (s / 65536) := by omega
        rw [e]
        generalize s / 65536 = q
        generalize a.getD k 0 = y at *
        generalize b.getD k 0 = z at *
        subst hs
        generalize (65536 : Int) ^ k = p at *
        grind
    refine ⟨fun hb' => ⟨⟨by omega, hb'⟩, ⟨by omega, by omega⟩, ⟨?_, ?_⟩, ?_⟩, fun hb' => ⟨⟨?_, ?_⟩, ?_⟩⟩
    · rw [ho, List.length_singleton]; omega
    · rw [ho, List.length_singleton]; omega
    · rintro y rfl
      refine ⟨by decide, ?_⟩
      rintro c' rfl
      exact ⟨⟨by omega, by omega⟩, key _ rfl⟩
    · rw [ho, List.length_singleton]; omega
    · rw [ho, List.length_singleton]; omega
    · rintro y rfl
      refine ⟨by decide, ?_⟩
      rintro c' rfl
      exact ⟨⟨by omega, by omega⟩, key _ (by rw [getD_ge (l := b) (by omega)]; omega)⟩
  · simp only [Bool.or_eq_false_iff, decide_eq_false_iff_not] at hx
    refine ⟨⟨hd, by omega⟩, ?_⟩
    rintro y rfl
    show dz (vl o) = dz (vl a + vl b)
    rw [List.take_of_length_le (by omega), List.take_of_length_le (by omega)] at hv
    have : c = 0 := by omega
    rw [this] at hv
    rw [← hv]; simp

theorem ref09_Int_Sign.spec (x : ref09_Int) : ref09_Int_Sign.wp x (fun y => y = ref09_Int_Sign.fn x) := by
  unfold ref09_Int_Sign.wp ref09_Int_Sign.fn
  intro hl
  refine ⟨fun h => ?_, fun h => ?_⟩
  · rw [if_pos (List.eq_nil_of_length_eq_zero (by omega))]
  · rw [if_neg (fun e => h (by rw [e]; rfl))]
    exact ⟨fun h => by rw [if_pos h], fun h => by rw [if_neg (by rw [h]; simp)]⟩

theorem ref09_order.spec (a b : List Int) (h : ref09_order.pre a b) : ref09_order.wp a b (fun x => x = ref09_order.fn a b) := by
  obtain ⟨ha, hb⟩ := h
  unfold ref09_order.wp ref09_order.fn sgn
  intro _ _
  refine ⟨fun h => ⟨fun h2 => ?_, fun h2 => ?_⟩, fun h => ⟨⟨by omega, by omega⟩, fun _ => ?_⟩⟩
  · have := ha.len_lt hb (by omega)
    rw [if_pos (by omega)]
  · have := hb.len_lt ha (by omega)
    rw [if_neg (by omega), if_pos (by omega)]
  · refine ⟨fun n x => ∃ k : Nat, x = (k : Int) - 1 ∧ n = k ∧ k ≤ a.length ∧ vl a - vl b = vl (a.take k) - vl (b.take k), ⟨a.length, a.length, rfl, rfl, Nat.le_refl _, ?_⟩, ?_⟩
    · rw [List.take_of_length_le (Nat.le_refl _), List.take_of_length_le (by omega)]
    · rintro n x ⟨k, rfl, hnk, hk, hv⟩
      refine ⟨fun hx => ⟨⟨by omega, by omega⟩, ⟨by omega, by omega⟩, ?_⟩, fun hx => ?_⟩
      · obtain ⟨j, rfl⟩ : ∃ j, k = j + 1 := ⟨k - 1, by omega⟩
        have e : ((j + 1 : Nat) : Int) - 1 = (j : Int) := by omega
        rw [e, gI_nat, gI_nat]
        rw [vl_take, vl_take] at hv
        have l1 := vl_lt (l := a.take j) (dig_sub ha.1 fun _ h => List.mem_of_mem_take h)
        have l2 := vl_lt (l := b.take j) (dig_sub hb.1 fun _ h => List.mem_of_mem_take h)
        have n1 := vl_nonneg (l := a.take j) (dig_sub ha.1 fun _ h => List.mem_of_mem_take h)
        have n2 := vl_nonneg (l := b.take j) (dig_sub hb.1 fun _ h => List.mem_of_mem_take h)
        rw [List.length_take, Nat.min_eq_left (by omega)] at l1 l2
        generalize a.getD j 0 = y at *
        generalize b.getD j 0 = z at *
        generalize (65536 : Int) ^ j = p at *
        refine ⟨fun hne => ⟨⟨by omega, by omega⟩, ⟨by omega, by omega⟩, fun hlt => ?_, fun hlt => ?_⟩, fun heq => ⟨⟨by omega, by omega⟩, j, by omega, j, by omega, rfl, by omega, by rw [heq] at hv; omega⟩⟩
        · have : p * y + p ≤ p * z := by
            have : p * (y + 1) ≤ p * z := Int.mul_le_mul_of_nonneg_left (by omega) (by omega)
            rw [Int.mul_add] at this; omega
          rw [if_pos (by omega)]
        · have : p * z + p ≤ p * y := by
            have : p * (z + 1) ≤ p * y := Int.mul_le_mul_of_nonneg_left (by omega) (by omega)
            rw [Int.mul_add] at this; omega
          rw [if_neg (by omega), if_pos (by omega)]
      · have : k = 0 := by omega
        subst this
        simp only [List.take_zero] at hv
        rw [if_neg (by omega), if_neg (by omega)]

theorem ref09_Int_Add.spec (x y : ref09_Int) (h : ref09_Int_Add.pre x y) : ref09_Int_Add.wp x y (fun z => z = ref09_Int_Add.fn x y) := by
  obtain ⟨⟨hx, hy⟩, lx, ly⟩ := h
  unfold ref09_Int_Add.wp ref09_Int_Add.fn
  refine ⟨fun h => ⟨⟨⟨hx.1, hy.1⟩, lx, ly⟩, ?_⟩, fun h => ⟨⟨hx, hy⟩, ?_⟩⟩
  · rintro z rfl; rw [if_pos h]; rfl
  · rintro o rfl
    rw [if_neg h]
    have hs : ref09_order.fn x.2 y.2 ≥ 0 ↔ vl x.2 ≥ vl y.2 := by unfold ref09_order.fn sgn; split <;> (try split) <;> omega
    refine ⟨fun ho => ?_, fun ho => ?_⟩
    all_goals rw [hs] at ho
    · have : y.2.length ≤ x.2.length := by
        rcases Nat.lt_or_ge x.2.length y.2.length with e | e
        · have := hx.len_lt hy e; omega
        · exact e
      refine ⟨⟨⟨hx.1, hy.1⟩, lx, this, ho⟩, ?_⟩
      rintro z rfl; rw [if_pos ho]; rfl
    · have : x.2.length ≤ y.2.length := by
        rcases Nat.lt_or_ge y.2.length x.2.length with e | e
        · have := hy.len_lt hx e; omega
        · exact e
      refine ⟨⟨⟨hy.1, hx.1⟩, ly, this, by omega⟩, ?_⟩
      rintro z rfl; rw [if_neg ho]; rfl

theorem wrap_u64 (x : Int) : IntKind.wrap .u64 x = x % 18446744073709551616 := by
  simp [IntKind.wrap, IntKind.bits, IntKind.signed]
theorem ref09_Of.spec (n : Int) (h : ref09_Of.pre n) : ref09_Of.wp n (fun x => x = ref09_Of.fn n) := by
  have hn : i64 n := h
  simp only [i64] at hn
  refine ⟨fun x => x = n.natAbs, ⟨fun h => ?_, fun h => ?_⟩, ?_⟩
  · simp only [wrap_u64]; omega
  · simp only [wrap_u64]; omega
  rintro x rfl
  have hN : n.natAbs ≤ 9223372036854775808 := by omega
  refine ⟨fun m u o => ∃ q : Nat, u = (q : Int) ∧ m = q ∧ q ≤ 9223372036854775808 ∧ o.length + (dg q).length ≤ 64 ∧ o ++ dg q = dg n.natAbs, ⟨n.natAbs, n.natAbs, rfl, rfl, hN, ?_, rfl⟩, ?_⟩
  · have := dz_len (x := n.natAbs) (k := 64) (by omega) (Int.lt_of_le_of_lt (b := 9223372036854775808) (by omega) (by decide))
    rw [dz, Int.toNat_natCast] at this
    simpa using this
  rintro m u o ⟨q, rfl, hmq, hq, hl, ho⟩
  refine ⟨fun hp => ?_, fun hp => ?_⟩
  · have hp' : q ≠ 0 := by omega
    rw [dg_pos hp'] at hl ho
    simp only [List.length_cons] at hl
    simp only [(mask16 _).2, shr16]
    refine ⟨by omega, ⟨by rw [List.length_singleton]; omega, by rw [List.length_singleton]; omega⟩, ?_⟩
    rintro y rfl
    refine ⟨by decide, q / 65536, by omega, q / 65536, by omega, rfl, by omega, by rw [List.length_append, List.length_singleton]; omega, ?_⟩
    rw [← ho]; simp
  · have : q = 0 := by omega
    subst this
    rw [dg_zero, List.append_nil] at ho
    rw [ho]; rfl

theorem vl_set : ∀ (l : List Int) (k : Nat) (x : Int), k < l.length → vl (l.set k x) = vl l + 65536 ^ k * (x - l.getD k 0)
  | [], _, _, h => by simp at h
  | a :: l, 0, x, _ => by simp [vl]; omega
  | a :: l, k + 1, x, h => by
    have := vl_set l k x (by simpa using h)
    simp only [List.set_cons_succ, vl, this, List.getD_cons_succ, Int.pow_succ]
    generalize x - l.getD k 0 = y
    generalize (65536 : Int) ^ k = p
    grind
theorem dig_set {l : List Int} {k : Nat} {x : Int} (h : dig l) (h1 : 0 ≤ x) (h2 : x < 65536) : dig (l.set k x) := fun a ha => by
  rcases List.mem_or_eq_of_mem_set ha with e | e
  · exact h a e
  · subst e; exact ⟨h1, h2⟩
theorem vl_repl (n : Nat) : vl (List.replicate n 0) = 0 := by
  induction n with
  | zero => rfl
  | succ n ih => rw [List.replicate_succ, vl, ih]; rfl
theorem dig_repl (n : Nat) : dig (List.replicate n 0) := fun a ha => by rw [(List.mem_replicate.1 ha).2]; omega
theorem getD_set (l : List Int) (k j : Nat) (x : Int) : (l.set k x).getD j 0 = if j = k ∧ k < l.length then x else l.getD j 0 := by
  simp only [List.getD_eq_getElem?_getD, List.getElem?_set]
  by_cases e : k = j
  · subst e
    by_cases h : k < l.length
    · simp [h]
    · simp [h]
  · rw [if_neg e, if_neg (by omega)]

theorem ref09_Int_Mul.spec (x y : ref09_Int) (h : ref09_Int_Mul.pre x y) : ref09_Int_Mul.wp x y (fun z => z = ref09_Int_Mul.fn x y) := by
  obtain ⟨hx, hy, lx, ly⟩ := h
  refine ⟨⟨by omega, by omega⟩, ⟨by omega, by omega, by omega, by omega⟩, ?_⟩
  rintro z rfl
  intro _ _ _
  have hN : Int.toNat ((x.2.length : Int) + (y.2.length : Int)) = x.2.length + y.2.length := by omega
  rw [hN]
  refine ⟨fun n i o => ∃ k : Nat, i = (k : Int) ∧ n + k = x.2.length ∧ o.length = x.2.length + y.2.length ∧ dig o ∧ vl o = vl (x.2.take k) * vl y.2 ∧ ∀ j, k + y.2.length ≤ j → o.getD j 0 = 0, ⟨x.2.length, 0, rfl, rfl, List.length_replicate, dig_repl _, by rw [vl_repl]; simp [vl], fun j _ => ?_⟩, ?_⟩
  · simp only [List.getD_eq_getElem?_getD, List.getElem?_replicate]; split <;> rfl
  rintro n i o ⟨k, rfl, hn, hlo, hdo, hv, hz⟩
  refine ⟨fun hi => ⟨⟨by omega, hi⟩, fun _ => ?_⟩, fun hi => ?_⟩
  · have hk : k < x.2.length := by omega
    rw [gI_nat]
    have ga := dig_getD hx k
    have ta := vl_take x.2 k
    generalize x.2.getD k 0 = a at *
    have hkp : (65536 : Int) ^ k > 0 := Int.pow_pos (by decide)
    refine ⟨fun m c t s => ∃ j : Nat, t = (j : Int) ∧ m + j = y.2.length ∧ s.length = x.2.length + y.2.length ∧ dig s ∧ (0 ≤ c ∧ c < 65536) ∧ vl s + c * 65536 ^ (k + j) = vl o + 65536 ^ k * (a * vl (y.2.take j)) ∧ (∀ q, k + y.2.length ≤ q → s.getD q 0 = 0), ⟨y.2.length, 0, rfl, rfl, hlo, hdo, ⟨by decide, by decide⟩, by simp [vl], hz⟩, ?_⟩
    rintro m c t s ⟨j, rfl, hm, hls, hds, hc, hvs, hzs⟩
    have e1 : Int.toNat ((k : Int) + (j : Int)) = k + j := by omega
    have e2 : Int.toNat ((k : Int) + (y.2.length : Int)) = k + y.2.length := by omega
    rw [e1, e2]
    refine ⟨fun ht => ?_, fun ht => ?_⟩
    · have hj : j < y.2.length := by omega
      rw [gI_nat]
      have gb := dig_getD hy j
      have tb := vl_take y.2 j
      have gs := dig_getD hds (k + j)
      generalize y.2.getD j 0 = b at *
      have hab : 0 ≤ a * b ∧ a * b ≤ 65535 * 65535 := ⟨Int.mul_nonneg ga.1 gb.1, by
        have h1 : a * b ≤ a * 65535 := Int.mul_le_mul_of_nonneg_left (by omega) ga.1
        omega⟩
      refine ⟨⟨by omega, ht⟩, ⟨by omega, by omega⟩, ⟨by omega, by omega⟩, by omega, ⟨by omega, by omega⟩, ⟨by omega, by omega⟩, ⟨by omega, by omega⟩, ?_⟩
      rintro w hw
      refine ⟨⟨by omega, by omega⟩, ⟨by omega, by omega⟩, by omega, ?_⟩
      rintro s' rfl
      refine ⟨by decide, ?_⟩
      rintro c' rfl
      rw [(mask16 _).1, shr16]
      refine ⟨⟨by omega, by omega⟩, m - 1, by omega, j + 1, by omega, by omega, by rw [List.length_set]; exact hls, dig_set hds (by omega) (by omega), by omega, ?_, fun q hq => ?_⟩
      · rw [vl_set _ _ _ (by omega), tb]
        have e3 : (65536 : Int) ^ (k + (j + 1)) = 65536 ^ k * 65536 ^ j * 65536 := by rw [← Nat.add_assoc, Int.pow_succ, Int.pow_add]
        rw [Int.pow_add] at hvs
        rw [e3, Int.pow_add]
        have e4 : w % 65536 = w - 65536 * (w / 65536) := by omega
        rw [e4]
        generalize w / 65536 = u
        generalize s.getD (k + j) 0 = v at *
        subst hw
        generalize (65536 : Int) ^ k = p at *
        generalize (65536 : Int) ^ j = r at *
        clear e4 e3 hab gb gs
        grind
      · rw [getD_set, if_neg (by omega)]; exact hzs q hq
    · have hj : j = y.2.length := by omega
      subst hj
      have g0 := hzs (k + y.2.length) (Nat.le_refl _)
      rw [g0]
      refine ⟨⟨by omega, by omega⟩, ⟨by omega, by omega⟩, by omega, ⟨by omega, by omega⟩, ⟨by omega, by omega⟩, by omega, ?_⟩
      rintro s' rfl
      refine fun _ => ⟨⟨by omega, by omega⟩, n - 1, by omega, k + 1, by omega, by omega, by rw [List.length_set]; exact hls, dig_set hds (by omega) (by omega), ?_, fun q hq => ?_⟩
      · rw [vl_set _ _ _ (by omega), g0, ta]
        rw [List.take_of_length_le (Nat.le_refl _)] at hvs
        rw [hv] at hvs
        generalize (65536 : Int) ^ (k + y.2.length) = p at *
        generalize (65536 : Int) ^ k = p at *
        generalize vl y.2 = v at *
        grind
      · rw [getD_set, if_neg (by omega)]; exact hzs q (by omega)
  · have hk : k = x.2.length := by omega
    subst hk
    refine ⟨⟨hdo, by omega⟩, ?_⟩
    rintro w rfl
    rw [List.take_of_length_le (Nat.le_refl _)] at hv
    show (_, dz (vl o)) = (_, dz _)
    rw [hv]
end Go.Proofs.Ytlncingakpelbaa
