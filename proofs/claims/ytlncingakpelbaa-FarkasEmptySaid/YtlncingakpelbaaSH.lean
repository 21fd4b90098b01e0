/- Part of a proof that a law of the program holds for every input: small laws of lists and numbers, in plain Lean. No conditions. -/
import Derived.Test.YtlncingakpelbaaD
namespace Go.Proofs.Ytlncingakpelbaa
open Go
set_option linter.unusedVariables false

theorem drop_get {α : Type} (d : α) {l : List α} {k : Nat} (hk : k < l.length) : l.drop k = l.getD k d :: l.drop (k + 1) := by
  rw [List.drop_eq_getElem_cons hk]; simp [List.getD_eq_getElem?_getD, hk]
theorem take_get {α : Type} (d : α) {l : List α} {k : Nat} (hk : k < l.length) : l.take (k + 1) = l.take k ++ [l.getD k d] := by
  rw [List.take_succ_eq_append_getElem hk]; simp [List.getD_eq_getElem?_getD, hk]
theorem getD_mem {α : Type} (d : α) {l : List α} {k : Nat} (hk : k < l.length) : l.getD k d ∈ l := by
  simp [List.getD_eq_getElem?_getD, hk]

theorem idx_wp {α : Type} (p : α → Bool) (d : α) (l : List α) (hl : l.length ≤ 9223372036854775807) (Q : Int → Prop) (h : Q (idxI p l 0)) :
    ∃ I : Nat → Int → Prop, (∃ n, I n 0) ∧ ∀ (n : Nat) (x : Int), I n x →
      ((x < (l.length : Int)) → ((0 : Int) ≤ x ∧ x < (l.length : Int)) ∧
        (p (l.getD (Int.toNat x) d) = true → Q x) ∧ (p (l.getD (Int.toNat x) d) = false →
          (-9223372036854775808 ≤ x + 1 ∧ x + 1 ≤ 9223372036854775807) ∧ ∃ m, m < n ∧ I m (x + 1))) ∧
      ((¬ x < (l.length : Int)) → Q (-1)) := by
  refine ⟨fun n x => ∃ k : Nat, x = (k : Int) ∧ n + k = l.length ∧ Q (idxI p (l.drop k) k), ⟨l.length, 0, rfl, rfl, h⟩, ?_⟩
  rintro n x ⟨k, rfl, hn, hq⟩
  refine ⟨fun hx => ⟨⟨by omega, hx⟩, ?_⟩, fun hx => ?_⟩
  · have hk : k < l.length := by omega
    rw [drop_get d hk] at hq
    simp only [idxI, Int.toNat_natCast] at hq ⊢
    refine ⟨fun hp => ?_, fun hp => ⟨⟨by omega, by omega⟩, n - 1, by omega, k + 1, by simp, by omega, ?_⟩⟩
    · rw [if_pos hp] at hq; exact hq
    · rw [if_neg (by rw [hp]; simp)] at hq; simpa using hq
  · have hk : k = l.length := by omega
    subst hk
    simpa [idxI] using hq

theorem scan_wp {α : Type} (p : α → Bool) (d : α) (l : List α) (hl : l.length ≤ 9223372036854775807) (A E : Prop) (hA : l.all p = false → A) (hE : l.all p = true → E) :
    ∃ I : Nat → Int → Prop, (∃ n, I n 0) ∧ ∀ (n : Nat) (x : Int), I n x →
      ((x < (l.length : Int)) → ((0 : Int) ≤ x ∧ x < (l.length : Int)) ∧
        (p (l.getD (Int.toNat x) d) = false → A) ∧ (p (l.getD (Int.toNat x) d) = true →
          (-9223372036854775808 ≤ x + 1 ∧ x + 1 ≤ 9223372036854775807) ∧ ∃ m, m < n ∧ I m (x + 1))) ∧
      ((¬ x < (l.length : Int)) → E) := by
  refine ⟨fun n x => ∃ k : Nat, x = (k : Int) ∧ n + k = l.length ∧ (l.take k).all p = true, ⟨l.length, 0, rfl, rfl, rfl⟩, ?_⟩
  rintro n x ⟨k, rfl, hn, hq⟩
  refine ⟨fun hx => ⟨⟨by omega, hx⟩, ?_⟩, fun hx => ?_⟩
  · have hk : k < l.length := by omega
    simp only [Int.toNat_natCast]
    refine ⟨fun hp => hA ?_, fun hp => ⟨⟨by omega, by omega⟩, n - 1, by omega, k + 1, by simp, by omega, ?_⟩⟩
    · cases h : l.all p with
      | false => rfl
      | true =>
        have := List.all_eq_true.1 h _ (getD_mem d hk)
        rw [hp] at this; cases this
    · rw [take_get d hk, List.all_append, hq]
      simpa using hp
  · have hk : k = l.length := by omega
    subst hk
    exact hE (by simpa using hq)

theorem idxI_ge {α : Type} (p : α → Bool) : ∀ (l : List α) (i : Int), 0 ≤ i → decide (idxI p l i ≥ 0) = l.any p
  | [], i, h => by simp [idxI]
  | x :: l, i, h => by
    simp only [idxI, List.any_cons]
    split
    · rename_i hp; simp [hp, h]
    · rename_i hp; rw [idxI_ge p l (i + 1) (by omega)]; simp [hp]

theorem mul_bound {a b A B : Int} (h1 : -A ≤ a) (h2 : a ≤ A) (h3 : -B ≤ b) (h4 : b ≤ B) : -(A * B) ≤ a * b ∧ a * b ≤ A * B := by
  have ha : a.natAbs ≤ A.natAbs := by omega
  have hb : b.natAbs ≤ B.natAbs := by omega
  have h := Nat.mul_le_mul ha hb
  rw [← Int.natAbs_mul, ← Int.natAbs_mul] at h
  have hA : 0 ≤ A := by omega
  have hB : 0 ≤ B := by omega
  have hAB : 0 ≤ A * B := Int.mul_nonneg hA hB
  omega

theorem dotI_succ : ∀ (l m : List Int) (k : Nat), k < l.length → k < m.length → dotI (l.take (k + 1)) (m.take (k + 1)) = dotI (l.take k) (m.take k) + l.getD k 0 * m.getD k 0
  | [], _, _, h, _ => by simp at h
  | _ :: _, [], _, _, h => by simp at h
  | a :: l, b :: m, 0, _, _ => by simp [dotI]
  | a :: l, b :: m, k + 1, h1, h2 => by
    have := dotI_succ l m k (by simpa using h1) (by simpa using h2)
    simp only [List.take_succ_cons, dotI] at this ⊢
    rw [this]
    simp [Int.add_assoc]

theorem mask32 (w : Int) : IntKind.wrap .i64 ((BitVec.ofInt 64 w &&& BitVec.ofInt 64 (4294967295 : Int)).toNat : Int) = w % 4294967296 := by
  have h : (BitVec.ofInt 64 w &&& BitVec.ofInt 64 (4294967295 : Int)).toNat = (w % 18446744073709551616).toNat % 4294967296 := by
    rw [BitVec.toNat_and, BitVec.toNat_ofInt, show (BitVec.ofInt 64 (4294967295 : Int)).toNat = 2 ^ 32 - 1 from by decide, Nat.and_two_pow_sub_one_eq_mod]
    rfl
  rw [h]
  have h1 : (((w % 18446744073709551616).toNat % 4294967296 : Nat) : Int) = w % 4294967296 := by omega
  rw [h1]
  have h2 : 0 ≤ w % 4294967296 ∧ w % 4294967296 < 4294967296 := by omega
  generalize w % 4294967296 = y at h2
  simp [IntKind.wrap, IntKind.bits, IntKind.signed]
  omega

theorem shr32 (w : Int) : Int.fdiv w (2 ^ (min (Int.toNat (32 : Int)) 64)) = w / 4294967296 := by
  rw [show (2 : Int) ^ (min (Int.toNat (32 : Int)) 64) = 4294967296 from by decide]
  exact Int.fdiv_eq_ediv_of_nonneg w (by decide)

/-- The two halves of the sum so far. -/
structure Halves (ks ws : List Int) (k : Nat) (hi lo : Int) : Prop where
  sum : hi * 4294967296 + lo = dotI (ks.take k) (ws.take k)
  hi : -(k * 2251799813685248) ≤ hi ∧ hi ≤ k * 2251799813685248
  lo : -(k * 4503599627370496) ≤ lo ∧ lo ≤ k * 4503599627370496

theorem Halves.zero (ks ws : List Int) : Halves ks ws 0 0 0 := ⟨by simp [dotI], by simp, by simp⟩

theorem Halves.step {ks ws : List Int} {k : Nat} {hi lo : Int} (h : Halves ks ws k hi lo) (hk : k < ks.length) (hw : ks.length = ws.length) (hn : ks.length ≤ 96) {c w : Int} (hc : c = ks.getD k 0) (hcf : num_Fits.fn c = true) (hww : w = ws.getD k 0) (hwf : i64 w) :
    (-9223372036854775808 ≤ c * (w / 4294967296) ∧ c * (w / 4294967296) ≤ 9223372036854775807) ∧
    (-9223372036854775808 ≤ hi + c * (w / 4294967296) ∧ hi + c * (w / 4294967296) ≤ 9223372036854775807) ∧
    (-9223372036854775808 ≤ c * (w % 4294967296) ∧ c * (w % 4294967296) ≤ 9223372036854775807) ∧
    (-9223372036854775808 ≤ lo + c * (w % 4294967296) ∧ lo + c * (w % 4294967296) ≤ 9223372036854775807) ∧
    Halves ks ws (k + 1) (hi + c * (w / 4294967296)) (lo + c * (w % 4294967296)) := by
  simp only [num_Fits.fn, Bool.and_eq_true, decide_eq_true_eq] at hcf
  have e : w / 4294967296 * 4294967296 + w % 4294967296 = w := by omega
  have h1 := mul_bound (A := 1048576) (B := 2147483648) hcf.1 hcf.2 (show -2147483648 ≤ w / 4294967296 by omega) (show w / 4294967296 ≤ 2147483648 by omega)
  have h2 := mul_bound (A := 1048576) (B := 4294967296) hcf.1 hcf.2 (show -4294967296 ≤ w % 4294967296 by omega) (show w % 4294967296 ≤ 4294967296 by omega)
  have hs := dotI_succ ks ws k hk (by omega)
  rw [← hc, ← hww, ← h.sum] at hs
  have hd : c * w = c * (w / 4294967296) * 4294967296 + c * (w % 4294967296) := by
    rw [Int.mul_assoc, ← Int.mul_add, e]
  have hh := h.hi
  have hl := h.lo
  generalize c * (w / 4294967296) = u at *
  generalize c * (w % 4294967296) = v at *
  refine ⟨by omega, by omega, by omega, by omega, ⟨by rw [hs, hd]; omega, ?_, ?_⟩⟩
  · constructor <;> push_cast <;> omega
  · constructor <;> push_cast <;> omega

theorem Halves.done {ks ws : List Int} {hi lo : Int} (h : Halves ks ws ks.length hi lo) (hw : ks.length = ws.length) (hn : ks.length ≤ 96) :
    (-9223372036854775808 ≤ hi + lo / 4294967296 ∧ hi + lo / 4294967296 ≤ 9223372036854775807) ∧
    (hi + lo / 4294967296 < 0 → -1 = sgn (dotI ks ws)) ∧ (¬ hi + lo / 4294967296 < 0 →
      ((decide (hi + lo / 4294967296 > 0) || decide (lo % 4294967296 > 0)) = true → 1 = sgn (dotI ks ws)) ∧
      ((decide (hi + lo / 4294967296 > 0) || decide (lo % 4294967296 > 0)) = false → 0 = sgn (dotI ks ws))) := by
  have hs := h.sum
  rw [List.take_of_length_le (Nat.le_refl _), List.take_of_length_le (by omega)] at hs
  have hh := h.hi
  have hl := h.lo
  rw [← hs]
  have e : lo / 4294967296 * 4294967296 + lo % 4294967296 = lo := by omega
  have hm : 0 ≤ lo % 4294967296 ∧ lo % 4294967296 < 4294967296 := by omega
  refine ⟨by omega, fun h1 => ?_, fun h1 => ⟨fun h2 => ?_, fun h2 => ?_⟩⟩
  · unfold sgn; rw [if_pos (by omega)]
  · simp only [Bool.or_eq_true, decide_eq_true_eq] at h2
    unfold sgn; rw [if_neg (by omega), if_pos (by omega)]
  · simp only [Bool.or_eq_false_iff, decide_eq_false_iff_not] at h2
    unfold sgn; rw [if_neg (by omega), if_neg (by omega)]

theorem map_getD {α : Type} (f : α → Int) (d : α) {l : List α} {k : Nat} (hk : k < l.length) : (l.map f).getD k 0 = f (l.getD k d) := by
  simp [List.getD_eq_getElem?_getD, hk]

theorem asked_ok {p : List api_Cond} {n : Int} (h : farkas_asked.fn p n = 0) : (0 ≤ n ∧ n ≤ 12) ∧ p.length ≤ 96 ∧ ∀ c ∈ p, cond_Valid.fn c = true ∧ (c.2.2.1.length : Int) = n := by
  unfold farkas_asked.fn at h
  split at h
  · cases h
  · rename_i h1
    split at h
    · cases h
    · rename_i h2
      split at h
      · cases h
      · rename_i h3
        split at h
        · cases h
        · rename_i h4
          refine ⟨by omega, by omega, fun c hc => ⟨?_, ?_⟩⟩
          · cases hv : cond_Valid.fn c with
            | true => rfl
            | false => exact absurd (List.any_eq_true.2 ⟨c, hc, by simp [farkas_asked_1.fn, hv]⟩) h3
          · cases hv : farkas_asked_2.fn c n with
            | true => exact absurd (List.any_eq_true.2 ⟨c, hc, hv⟩) h4
            | false => simpa [farkas_asked_2.fn] using hv

theorem valid_lin {c : api_Cond} (h : cond_Valid.fn c = true) : lin_Valid.fn c.2.2 = true := by
  unfold cond_Valid.fn at h
  split at h
  · simp only [Bool.and_eq_true] at h; exact h.2
  · split at h
    · simp only [Bool.and_eq_true] at h; exact h.2
    · cases h
theorem lin_coef {l : api_Lin} (h : lin_Valid.fn l = true) : (∀ a ∈ l.1, num_Fits.fn a = true) ∧ l.1.length ≤ 12 ∧ num_Fits.fn l.2 = true := by
  simp only [lin_Valid.fn, Bool.and_eq_true, List.all_eq_true, decide_eq_true_eq] at h
  exact ⟨h.1, by omega, h.2.2⟩

theorem badWs_take : ∀ (p : List api_Cond) (w : List Int) (k : Nat), k < p.length → k < w.length → badWs (p.take (k + 1)) (w.take (k + 1)) = (badWs (p.take k) (w.take k) || badW (p.getD k d_api_Cond) (w.getD k 0))
  | [], _, _, h, _ => by simp at h
  | _ :: _, [], _, _, h => by simp at h
  | c :: p, a :: w, 0, _, _ => by simp [badWs]
  | c :: p, a :: w, k + 1, h1, h2 => by
    have := badWs_take p w k (by simpa using h1) (by simpa using h2)
    simp only [List.take_succ_cons, badWs] at this ⊢
    rw [this]
    simp [Bool.or_assoc]

theorem badWs_mem : ∀ (p : List api_Cond) (w : List Int) (k : Nat), k < p.length → k < w.length → badW (p.getD k d_api_Cond) (w.getD k 0) = true → badWs p w = true
  | [], _, _, h, _, _ => by simp at h
  | _ :: _, [], _, _, h, _ => by simp at h
  | c :: p, a :: w, 0, _, _, h => by simp at h; simp [badWs, h]
  | c :: p, a :: w, k + 1, h1, h2, h => by
    have := badWs_mem p w k (by simpa using h1) (by simpa using h2) (by simpa using h)
    simp [badWs, this]

theorem sgn_ne {x : Int} : sgn x ≠ 0 ↔ x ≠ 0 := by unfold sgn; split <;> (try split) <;> omega
theorem sgn_lt {x : Int} : sgn x < 0 ↔ x < 0 := by unfold sgn; split <;> (try split) <;> omega

theorem mask16 (w : Int) : IntKind.wrap .i64 ((BitVec.ofInt 64 w &&& BitVec.ofInt 64 (65535 : Int)).toNat : Int) = w % 65536 ∧ IntKind.wrap .u64 ((BitVec.ofInt 64 w &&& BitVec.ofInt 64 (65535 : Int)).toNat : Int) = w % 65536 := by
  have h : (BitVec.ofInt 64 w &&& BitVec.ofInt 64 (65535 : Int)).toNat = (w % 18446744073709551616).toNat % 65536 := by
    rw [BitVec.toNat_and, BitVec.toNat_ofInt, show (BitVec.ofInt 64 (65535 : Int)).toNat = 2 ^ 16 - 1 from by decide, Nat.and_two_pow_sub_one_eq_mod]
    rfl
  rw [h]
  have h1 : (((w % 18446744073709551616).toNat % 65536 : Nat) : Int) = w % 65536 := by omega
  rw [h1]
  have h2 : 0 ≤ w % 65536 ∧ w % 65536 < 65536 := by omega
  generalize w % 65536 = y at h2
  constructor
  · simp [IntKind.wrap, IntKind.bits, IntKind.signed]
    omega
  · simp [IntKind.wrap, IntKind.bits, IntKind.signed]
    omega
theorem shr16 (w : Int) : Int.fdiv w (2 ^ (min (Int.toNat (16 : Int)) 64)) = w / 65536 := by
  rw [show (2 : Int) ^ (min (Int.toNat (16 : Int)) 64) = 65536 from by decide]
  exact Int.fdiv_eq_ediv_of_nonneg w (by decide)

theorem getD_ge {l : List Int} {k : Nat} (h : l.length ≤ k) : l.getD k 0 = 0 := by
  simp [List.getD_eq_getElem?_getD, List.getElem?_eq_none h]
theorem gI_nat (l : List Int) (k : Nat) : gI l (k : Int) = l.getD k 0 := by simp [gI]
theorem wrap_u64 (x : Int) : IntKind.wrap .u64 x = x % 18446744073709551616 := by
  simp [IntKind.wrap, IntKind.bits, IntKind.signed]
theorem getD_set (l : List Int) (k j : Nat) (x : Int) : (l.set k x).getD j 0 = if j = k ∧ k < l.length then x else l.getD j 0 := by
  simp only [List.getD_eq_getElem?_getD, List.getElem?_set]
  by_cases e : k = j
  · subst e
    by_cases h : k < l.length
    · simp [h]
    · simp [h]
  · rw [if_neg e, if_neg (by omega)]

end Go.Proofs.Ytlncingakpelbaa
