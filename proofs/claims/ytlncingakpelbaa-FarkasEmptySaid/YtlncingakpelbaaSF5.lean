/- Part of a proof that a law of the program holds for every input: what a point with one value more is, in plain Lean. No conditions. -/
import Derived.Test.YtlncingakpelbaaSF4
namespace Go.Proofs.Ytlncingakpelbaa
open Go
set_option linter.unusedVariables false

theorem gcdL_pos {l : List Int} {x : Int} (h : x ∈ l) (h0 : x ≠ 0) : 1 ≤ gcdL l := by
  have := gcdL_nonneg l
  have hd := gcdL_dvd h
  by_cases e : gcdL l = 0
  · rw [e, Int.zero_dvd] at hd; exact absurd hd h0
  · omega
theorem gcdL_le {l : List Int} {x : Int} (h : x ∈ l) (h0 : 1 ≤ x) : gcdL l ≤ x := Int.le_of_dvd (by omega) (gcdL_dvd h)
theorem tdiv_mul {x g : Int} (h : g ∣ x) : Int.tdiv x g * g = x := Int.tdiv_mul_cancel h
theorem tdiv_pos {x g : Int} (hx : 1 ≤ x) (hg : 1 ≤ g) (h : g ∣ x) : 1 ≤ Int.tdiv x g := by
  have e := tdiv_mul h
  have b := tdiv_bound (B := x) hg ⟨by omega, Int.le_refl x⟩
  have : 0 ≤ Int.tdiv x g := Int.tdiv_nonneg (by omega) (by omega)
  by_cases e0 : Int.tdiv x g = 0
  · rw [e0] at e; omega
  · omega
theorem gcdL_two {a b B : Int} (hB : B ≤ 4611686018427387904) (ha : -B ≤ a ∧ a ≤ B) (hb : -B ≤ b ∧ b ≤ B) : inB 4611686018427387904 [a, b] := fun x hx => by
  simp only [List.mem_cons, List.not_mem_nil, or_false] at hx
  rcases hx with e | e <;> subst e
  · exact ⟨by omega, by omega⟩
  · exact ⟨by omega, by omega⟩

/-- What is known of the parts of a fraction over a number. -/
structure Low (f : farkas_fraction) (e : Int) : Prop where
  g : 1 ≤ gcdL [f.1, f.2]
  d : 1 ≤ Int.tdiv f.2 (gcdL [f.1, f.2]) ∧ Int.tdiv f.2 (gcdL [f.1, f.2]) ≤ 1073741824
  n : -4611686018427387904 ≤ Int.tdiv f.1 (gcdL [f.1, f.2]) ∧ Int.tdiv f.1 (gcdL [f.1, f.2]) ≤ 4611686018427387904
  h : 1 ≤ gcdL [Int.tdiv f.1 (gcdL [f.1, f.2]), e]
  q : 1 ≤ Int.tdiv e (gcdL [Int.tdiv f.1 (gcdL [f.1, f.2]), e]) ∧ Int.tdiv e (gcdL [Int.tdiv f.1 (gcdL [f.1, f.2]), e]) ≤ 268435456
  N : -4611686018427387904 ≤ lowN f e ∧ lowN f e ≤ 4611686018427387904
  D : 1 ≤ lowD f e ∧ lowD f e ≤ 288230376151711744
theorem low {f : farkas_fraction} {e : Int} (hf : frB f) (he : 1 ≤ e ∧ e ≤ 268435456) : Low f e := by
  obtain ⟨h1, h2, h3⟩ := hf
  have hg := gcdL_pos (l := [f.1, f.2]) (x := f.2) (by simp) (by omega)
  have hd := tdiv_pos h2 hg (gcdL_dvd (by simp))
  have hd2 := tdiv_bound (B := 1073741824) (x := f.2) hg ⟨by omega, h3⟩
  have hn := tdiv_bound (B := 4611686018427387904) (x := f.1) hg h1
  have hh := gcdL_pos (l := [Int.tdiv f.1 (gcdL [f.1, f.2]), e]) (x := e) (by simp) (by omega)
  have hq := tdiv_pos he.1 hh (gcdL_dvd (by simp))
  have hq2 := tdiv_bound (B := 268435456) (x := e) hh ⟨by omega, he.2⟩
  have hN := tdiv_bound (B := 4611686018427387904) hh hn
  refine ⟨hg, ⟨hd, hd2.2⟩, hn, hh, ⟨hq, hq2.2⟩, hN, ?_⟩
  unfold lowD
  have := mul_bound (A := 268435456) (B := 1073741824) (by omega) hq2.2 (by omega) hd2.2
  have hp := Int.mul_pos (a := Int.tdiv e (gcdL [Int.tdiv f.1 (gcdL [f.1, f.2]), e])) (b := Int.tdiv f.2 (gcdL [f.1, f.2])) (by omega) (by omega)
  exact ⟨by omega, by omega⟩
/-- The least common multiple. -/
theorem lcm_ok {a b : Int} (ha : 1 ≤ a) (hb : 1 ≤ b) : 1 ≤ gcdL [a, b] ∧ 1 ≤ Int.tdiv b (gcdL [a, b]) ∧ 1 ≤ lcmI a b ∧ a ∣ lcmI a b ∧ b ∣ lcmI a b := by
  have hg := gcdL_pos (l := [a, b]) (x := a) (by simp) (by omega)
  have hk := tdiv_pos hb hg (gcdL_dvd (by simp))
  have hp := Int.mul_pos (a := Int.tdiv b (gcdL [a, b])) (b := a) (by omega) (by omega)
  refine ⟨hg, hk, hp, ⟨Int.tdiv b (gcdL [a, b]), Int.mul_comm ..⟩, ⟨Int.tdiv a (gcdL [a, b]), ?_⟩⟩
  have e1 := tdiv_mul (x := a) (g := gcdL [a, b]) (gcdL_dvd (by simp))
  have e2 := tdiv_mul (x := b) (g := gcdL [a, b]) (gcdL_dvd (by simp))
  unfold lcmI
  generalize Int.tdiv a (gcdL [a, b]) = u at *
  generalize Int.tdiv b (gcdL [a, b]) = w at *
  generalize gcdL [a, b] = g at *
  grind

theorem any_big {l : List Int} : l.any bigI = true ↔ ∃ x ∈ l, x > 268435456 ∨ x < -268435456 := by
  rw [List.any_eq_true]
  simp [bigI]
theorem not_big {l : List Int} (h : l.any bigI = false) : inB 268435456 l := fun x hx => by
  have : bigI x = false := by
    cases hb : bigI x with
    | false => rfl
    | true => rw [List.any_eq_true.2 ⟨x, hx, hb⟩] at h; cases h
  simp only [bigI, Bool.or_eq_false_iff, decide_eq_false_iff_not] at this
  omega

theorem farkas_point_with.spec (p : farkas_point) (f : farkas_fraction) (h : farkas_point_with.pre p f) : farkas_point_with.wp p f (fun x => x = farkas_point_with.fn p f) := by
  obtain ⟨⟨h12, hx, d1, d2⟩, hf⟩ := h
  have L := low hf ⟨d1, d2⟩
  have i1 := gcdL_two (a := f.1) (b := f.2) (B := 4611686018427387904) (by decide) hf.1 ⟨by have := hf.2; omega, by have := hf.2; omega⟩
  have i2 := gcdL_two (a := Int.tdiv f.1 (gcdL [f.1, f.2])) (b := p.2) (B := 4611686018427387904) (by decide) L.n ⟨by omega, by omega⟩
  refine ⟨inB.i64 i1 (by decide), ?_⟩
  rintro x1 rfl
  rw [gcdL_fn i1]
  have Lg := L.g; have Ld := L.d; have Ln := L.n; have Lh := L.h; have Lq := L.q; have LN := L.N; have LD := L.D
  simp only []
  refine ⟨⟨by omega, by omega, by omega⟩, ⟨by omega, by omega, by omega⟩, inB.i64 i2 (by decide), ?_⟩
  rintro x2 rfl
  rw [gcdL_fn i2]
  rintro x3 hx3
  simp only [] at hx3
  rw [hx3]
  refine ⟨⟨by omega, by unfold lowN at LN; omega, by unfold lowN at LN; omega⟩, ⟨by omega, by omega, by omega⟩, ?_⟩
  rintro x4 hx4
  have hx4 : x4 = lowN f p.2 := hx4
  have eD : Int.tdiv p.2 (gcdL [Int.tdiv f.1 (gcdL [f.1, f.2]), p.2]) * Int.tdiv f.2 (gcdL [f.1, f.2]) = lowD f p.2 := rfl
  rw [eD, hx4]
  unfold farkas_point_with.fn
  refine ⟨fun _ => ⟨by omega, by omega⟩, fun hc => by rw [if_pos hc], fun hc => ⟨⟨by omega, by omega⟩, ?_⟩⟩
  rw [if_neg (by rw [hc]; simp)]
  simp only [Bool.or_eq_false_iff, decide_eq_false_iff_not] at hc
  rintro x5 rfl
  have i3 := gcdL_two (a := lowD f p.2) (b := p.2) (B := 4611686018427387904) (by decide) ⟨by omega, by omega⟩ ⟨by omega, by omega⟩
  refine ⟨inB.i64 i3 (by decide), ?_⟩
  rintro x6 rfl
  rw [gcdL_fn i3]
  obtain ⟨k1, k2, k3, k4, k5⟩ := lcm_ok LD.1 d1
  have k6 := tdiv_bound (B := 268435456) (x := p.2) k1 ⟨by omega, d2⟩
  have k7 := mul_bound (A := 268435456) (B := 268435456) k6.1 k6.2 (b := lowD f p.2) (by omega) (by omega)
  have eL : Int.tdiv p.2 (gcdL [lowD f p.2, p.2]) * lowD f p.2 = lcmI (lowD f p.2) p.2 := rfl
  simp only []
  rw [eL] at k7 ⊢
  refine ⟨⟨by omega, by omega, by omega⟩, ⟨by omega, by omega⟩, fun hc2 => by rw [if_pos hc2], fun hc2 => ?_⟩
  rw [if_neg hc2]
  intro _
  have c1 := tdiv_bound (B := 268435456) (x := lcmI (lowD f p.2) p.2) d1 ⟨by omega, by omega⟩
  have c2 := tdiv_bound (B := 268435456) (x := lcmI (lowD f p.2) p.2) LD.1 ⟨by omega, by omega⟩
  refine ⟨fun m i o => ∃ k : Nat, i = (k : Int) ∧ m + k = p.1.length ∧ o = (p.1.take k).map (fun x => x * Int.tdiv (lcmI (lowD f p.2) p.2) p.2), ⟨p.1.length, 0, rfl, rfl, rfl⟩, ?_⟩
  rintro m i o ⟨k, rfl, hm, rfl⟩
  refine ⟨fun hi => ?_, fun hi => ?_⟩
  · have hk : k < p.1.length := by omega
    rw [gI_nat]
    have b1 := hx _ (getD_mem 0 hk)
    have m1 := mul_bound b1.1 b1.2 c1.1 c1.2
    refine ⟨⟨by omega, hi⟩, ⟨by omega, by omega, by omega⟩, ⟨by omega, by omega⟩, ⟨?_, ?_⟩, ?_⟩
    · rw [List.length_singleton, List.length_map, List.length_take]; omega
    · rw [List.length_singleton, List.length_map, List.length_take]; omega
    · rintro o' rfl
      refine ⟨⟨by omega, by omega⟩, m - 1, by omega, k + 1, by omega, by omega, ?_⟩
      rw [take_get 0 hk, List.map_append]; rfl
  · have hk : k = p.1.length := by omega
    subst hk
    rw [List.take_of_length_le (Nat.le_refl _)]
    refine ⟨fun hb => by rw [if_pos (show bigI (lowN f p.2) = true from hb)], fun hb => ?_⟩
    rw [if_neg (by rw [show bigI (lowN f p.2) = false from hb]; simp)]
    simp only [Bool.or_eq_false_iff, decide_eq_false_iff_not] at hb
    have m1 := mul_bound (A := 268435456) (B := 268435456) (a := lowN f p.2) (by omega) (by omega) c2.1 c2.2
    refine ⟨⟨by omega, by omega, by omega⟩, ⟨by omega, by omega⟩, ⟨?_, ?_⟩, ?_⟩
    · rw [List.length_singleton, List.length_map]; omega
    · rw [List.length_singleton, List.length_map]; omega
    rintro z hz
    rw [← hz]
    have hzl : z.length ≤ 13 := by rw [hz, List.length_append, List.length_map, List.length_singleton]; omega
    obtain ⟨I, h0, hI⟩ := scan_wp (fun x => !(bigI x)) 0 z (by omega) (((([] : List Int), (0 : Int)), (3 : Int)) = if z.any bigI = true then (([], 0), 3) else ((z, lcmI (lowD f p.2) p.2), 0))
      (((z, lcmI (lowD f p.2) p.2), (0 : Int)) = if z.any bigI = true then (([], 0), 3) else ((z, lcmI (lowD f p.2) p.2), 0))
      (fun h => by
        rw [if_pos]
        obtain ⟨x, hx, hx2⟩ := List.all_eq_false.1 h
        exact List.any_eq_true.2 ⟨x, hx, by simpa using hx2⟩)
      (fun h => by
        rw [if_neg]
        intro ha
        obtain ⟨x, hx, hx2⟩ := List.any_eq_true.1 ha
        have := List.all_eq_true.1 h x hx
        rw [hx2] at this; cases this)
    refine ⟨I, h0, fun m x hx => ⟨fun hi => ?_, (hI m x hx).2⟩⟩
    obtain ⟨a1, a2, a3⟩ := (hI m x hx).1 hi
    refine ⟨a1, by omega, ?_⟩
    rintro y rfl
    exact ⟨fun h => a2 (by rw [show bigI (z.getD x.toNat 0) = true from h]; rfl), fun h => a3 (by rw [show bigI (z.getD x.toNat 0) = false from h]; rfl)⟩

theorem with_err (p : farkas_point) (f : farkas_fraction) : (farkas_point_with.fn p f).2 = 0 ∨ (farkas_point_with.fn p f).2 = 3 := by
  unfold farkas_point_with.fn
  split
  · exact Or.inr rfl
  · split
    · exact Or.inr rfl
    · split
      · exact Or.inr rfl
      · split
        · exact Or.inr rfl
        · exact Or.inl rfl
/-- The new point: what it is, and that it is small. -/
theorem with_ok {p : farkas_point} {f : farkas_fraction} (h : farkas_point_with.pre p f) (h0 : (farkas_point_with.fn p f).2 = 0) :
    (farkas_point_with.fn p f).1 = (p.1.map (fun x => x * Int.tdiv (lcmI (lowD f p.2) p.2) p.2) ++ [lowN f p.2 * Int.tdiv (lcmI (lowD f p.2) p.2) (lowD f p.2)], lcmI (lowD f p.2) p.2) ∧
    inB 268435456 (farkas_point_with.fn p f).1.1 ∧ (1 ≤ (farkas_point_with.fn p f).1.2 ∧ (farkas_point_with.fn p f).1.2 ≤ 268435456) ∧ (farkas_point_with.fn p f).1.1.length = p.1.length + 1 := by
  obtain ⟨⟨h12, hx, d1, d2⟩, hf⟩ := h
  have L := low hf ⟨d1, d2⟩
  obtain ⟨k1, k2, k3, k4, k5⟩ := lcm_ok L.D.1 d1
  unfold farkas_point_with.fn at h0 ⊢
  split at h0
  · simp at h0
  · rename_i c1
    rw [if_neg c1]
    split at h0
    · simp at h0
    · rename_i c2
      rw [if_neg c2]
      split at h0
      · simp at h0
      · rename_i c3
        rw [if_neg c3]
        split at h0
        · simp at h0
        · rename_i c4
          rw [if_neg c4]
          refine ⟨rfl, not_big (Bool.eq_false_iff.2 c4), ⟨k3, by simp only []; omega⟩, by rw [List.length_append, List.length_map]; rfl⟩

theorem inner_step {ts : List farkas_table} {L : Nat} {n : Int} {k : Nat} {a : farkas_point} (hk : (k : Int) < n) (hn : n ≤ 12) (ht : tabB L (ts.getD (k + 1) d_farkas_table) ∧ (ts.getD (k + 1) d_farkas_table).1 = n) (ha : ptB a) (hl : a.1.length = k) :
    farkas_point_value.pre a (ts.getD (k + 1) d_farkas_table) ∧ farkas_point_with.pre a (farkas_point_value.fn a (ts.getD (k + 1) d_farkas_table)) := by
  have h1 : farkas_point_value.pre a (ts.getD (k + 1) d_farkas_table) := ⟨ha, L, ht.1, by rw [ht.2, hl]; exact hk⟩
  exact ⟨h1, ha, value_ok h1⟩

theorem farkas_Inner.spec (p : List api_Cond) (n : Int) : farkas_Inner.wp p n (fun x => x = farkas_Inner.fn p n) := by
  unfold farkas_Inner.wp farkas_Inner.fn
  rintro e rfl
  refine ⟨fun he => by rw [if_pos he], fun he => ⟨he, ?_⟩⟩
  rw [if_neg (by rw [he]; simp)]
  rintro q rfl
  refine ⟨fun hq => by rw [if_pos hq], fun hq => ?_⟩
  rw [if_neg (by rw [hq]; simp)]
  obtain ⟨hn, h96, hv⟩ := asked_ok he
  obtain ⟨e1, e2, e3, e4⟩ := eliminated_ok he hq
  refine ⟨⟨by omega, by omega⟩, ⟨_, (e3 0 (Nat.zero_le _)).1⟩, ?_⟩
  rintro r rfl
  simp only [Int.toNat_zero]
  refine ⟨fun h => by rw [if_pos h], fun h => ?_⟩
  rw [if_neg (by rw [h]; simp)]
  generalize (farkas_eliminated.fn p n).1 = ts at *
  generalize hR : innerL ts n.toNat 0 ([], 1) = R
  refine ⟨fun m x4 x5 x6 x7 => ∃ k : Nat, x4 = (k : Int) ∧ m + k = n.toNat ∧ ptB (x6, x7) ∧ x6.length = k ∧ R = innerL ts m k (x6, x7), ⟨n.toNat, 0, rfl, rfl, ⟨by decide, by decide, by decide, by decide⟩, rfl, hR.symm⟩, ?_⟩
  rintro m x4 x5 x6 x7 ⟨k, rfl, hm, hp, hl, hq2⟩
  refine ⟨fun hi => ?_, fun hi => ⟨fun h => absurd rfl h, fun _ => ?_⟩⟩
  · have ek : Int.toNat ((k : Int) + 1) = k + 1 := by omega
    rw [ek]
    have hkn : k + 1 ≤ n.toNat := by omega
    obtain ⟨s1, s2⟩ := inner_step (a := (x6, x7)) (by omega) hn.2 (e3 (k + 1) hkn) hp hl
    refine ⟨⟨by omega, by omega⟩, ⟨by omega, by omega⟩, s1, s2, ?_⟩
    rintro f rfl
    rintro w rfl
    rintro e' he'
    rintro y hy
    rintro z hz
    obtain ⟨m', rfl⟩ : ∃ m', m = m' + 1 := ⟨m - 1, by omega⟩
    unfold innerL at hq2
    refine ⟨fun hne => ⟨fun _ => ?_, fun h => absurd h hne⟩, fun heq => ⟨⟨by omega, by omega⟩, m', by omega, k + 1, by omega, by omega, ?_, ?_, ?_⟩⟩
    · rw [if_pos (by rw [← he']; exact hne)] at hq2
      rw [hq2, ← he']
    · obtain ⟨w1, w2, w3, w4⟩ := with_ok s2 (by rw [← he']; exact heq)
      rw [hy, hz]
      exact ⟨by rw [w4]; show x6.length + 1 ≤ 12; omega, w2, w3⟩
    · obtain ⟨w1, w2, w3, w4⟩ := with_ok s2 (by rw [← he']; exact heq)
      rw [hy, w4]; show x6.length + 1 = _; omega
    · rw [if_neg (by rw [← he', heq]; simp)] at hq2
      rw [hq2, hy, hz]
  · have : m = 0 := by omega
    subst this
    exact hq2.symm
end Go.Proofs.Ytlncingakpelbaa
