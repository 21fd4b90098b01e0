/- Part of a proof that a law of the program holds for every input: what the check of weights answers, in plain Lean. No conditions. -/
import Derived.Test.YtlncingakpelbaaS
namespace Go.Proofs.Ytlncingakpelbaa
open Go
set_option linter.unusedVariables false

theorem farkas_Check_1.spec (c : api_Cond) (v : Int) (h : farkas_Check_1.pre c v) : farkas_Check_1.wp c v (fun x => x = farkas_Check_1.fn c v) := ⟨h, rfl⟩
theorem farkas_Check_2.spec (c : api_Cond) : farkas_Check_2.wp c (fun x => x = farkas_Check_2.fn c) := rfl

theorem farkas_total__farkas_Check_1.spec (p : List api_Cond) (w : List Int) (v : Int) (h : farkas_total__farkas_Check_1.pre p w v) : farkas_total__farkas_Check_1.wp p w v (fun x => x = farkas_total__farkas_Check_1.fn p w v) := by
  obtain ⟨h1, h2, h3, h4⟩ := h
  intro hl
  refine ⟨fun n hi lo x => ∃ k : Nat, x = (k : Int) ∧ n + k = p.length ∧ Halves (p.map fun c => gI c.2.2.1 v) w k hi lo, ⟨p.length, 0, rfl, rfl, Halves.zero _ _⟩, ?_⟩
  rintro n hi lo x ⟨k, rfl, hn, hH⟩
  simp only [mask32, shr32]
  refine ⟨fun hx => ⟨⟨by omega, hx⟩, ?_⟩, fun hx => ⟨by decide, ?_⟩⟩
  · have hk : k < p.length := by omega
    rintro c rfl
    have hc := h4 _ (getD_mem d_api_Cond hk)
    simp only [Int.toNat_natCast]
    refine ⟨hc.1, ?_⟩
    rintro a rfl
    obtain ⟨s1, s2, s3, s4, s5⟩ := hH.step (c := gI (p.getD k d_api_Cond).2.2.1 v) (w := gI w k) (by simpa using hk) (by simpa using h2.symm) (by simpa using h1) (map_getD (fun c => gI c.2.2.1 v) d_api_Cond hk).symm hc.2 (by simp [gI]) (h3 _ (by simpa [gI] using getD_mem 0 (by omega : k < w.length)))
    refine ⟨⟨by omega, by omega⟩, by decide, s1, s2, ?_⟩
    rintro hi' rfl
    refine ⟨⟨by omega, by omega⟩, s3, s4, ?_⟩
    rintro lo' rfl
    exact ⟨⟨by omega, by omega⟩, n - 1, by omega, k + 1, by simp, by omega, s5⟩
  · have hk : k = p.length := by omega
    subst hk
    obtain ⟨d1, d2, d3⟩ := Halves.done (ks := p.map fun c => gI c.2.2.1 v) (by simpa using hH) (by simpa using h2.symm) (by simpa using h1)
    refine ⟨d1, ?_⟩
    rintro y rfl z rfl
    exact ⟨d2, d3⟩

theorem farkas_total__farkas_Check_2.spec (p : List api_Cond) (w : List Int) (h : farkas_total__farkas_Check_2.pre p w) : farkas_total__farkas_Check_2.wp p w (fun x => x = farkas_total__farkas_Check_2.fn p w) := by
  obtain ⟨h1, h2, h3, h4⟩ := h
  intro hl
  refine ⟨fun n hi lo x => ∃ k : Nat, x = (k : Int) ∧ n + k = p.length ∧ Halves (p.map fun c => c.2.2.2) w k hi lo, ⟨p.length, 0, rfl, rfl, Halves.zero _ _⟩, ?_⟩
  rintro n hi lo x ⟨k, rfl, hn, hH⟩
  simp only [mask32, shr32]
  refine ⟨fun hx => ⟨⟨by omega, hx⟩, ?_⟩, fun hx => ⟨by decide, ?_⟩⟩
  · have hk : k < p.length := by omega
    rintro c rfl
    have hc := h4 _ (getD_mem d_api_Cond hk)
    simp only [Int.toNat_natCast]
    rintro a rfl
    obtain ⟨s1, s2, s3, s4, s5⟩ := hH.step (c := (p.getD k d_api_Cond).2.2.2) (w := gI w k) (by simpa using hk) (by simpa using h2.symm) (by simpa using h1) (map_getD (fun c => c.2.2.2) _ hk).symm hc (by simp [gI]) (h3 _ (by simpa [gI] using getD_mem 0 (by omega : k < w.length)))
    refine ⟨⟨by omega, by omega⟩, by decide, s1, s2, ?_⟩
    rintro hi' rfl
    refine ⟨⟨by omega, by omega⟩, s3, s4, ?_⟩
    rintro lo' rfl
    exact ⟨⟨by omega, by omega⟩, n - 1, by omega, k + 1, by simp, by omega, s5⟩
  · have hk : k = p.length := by omega
    subst hk
    obtain ⟨d1, d2, d3⟩ := Halves.done (ks := p.map fun c => c.2.2.2) (by simpa using hH) (by simpa using h2.symm) (by simpa using h1)
    refine ⟨d1, ?_⟩
    rintro y rfl z rfl
    exact ⟨d2, d3⟩

theorem farkas_Check.spec (p : List api_Cond) (n : Int) (w : List Int) (h : farkas_Check.pre p n w) : farkas_Check.wp p n w (fun x => x = farkas_Check.fn p n w) := by
  unfold farkas_Check.wp farkas_Check.fn
  rintro e rfl
  refine ⟨fun he => by rw [if_pos he], fun he _ _ => ?_⟩
  rw [if_neg (by simpa using he)]
  refine ⟨fun hl => by rw [if_pos hl], fun hl hpl => ?_⟩
  rw [if_neg (by simpa using hl)]
  obtain ⟨hn, h96, hv⟩ := asked_ok he
  refine ⟨fun m x => ∃ k : Nat, x = (k : Int) ∧ m + k = p.length ∧ badWs (p.take k) (w.take k) = false, ⟨p.length, 0, rfl, rfl, rfl⟩, ?_⟩
  rintro m x ⟨k, rfl, hm, hb⟩
  refine ⟨fun hx => ⟨⟨by omega, hx⟩, ?_⟩, fun hx => ?_⟩
  · have hk : k < p.length := by omega
    rintro c rfl
    simp only [Int.toNat_natCast]
    refine ⟨fun _ => ⟨by omega, by omega⟩, fun _ => ⟨by omega, by omega⟩, fun hbad => ?_, fun hgood => ⟨⟨by omega, by omega⟩, m - 1, by omega, k + 1, by simp, by omega, ?_⟩⟩
    · rw [if_pos (badWs_mem p w k hk (by omega) (by simpa [badW, gI] using hbad))]
    · rw [badWs_take p w k hk (by omega), hb]
      simpa [badW, gI] using hgood
  · have hk : k = p.length := by omega
    subst hk
    rw [List.take_of_length_le (Nat.le_refl _), List.take_of_length_le (by omega)] at hb
    rw [if_neg (by rw [hb]; simp)]
    refine ⟨fun m x => ∃ k : Nat, x = (k : Int) ∧ m + k = n.toNat ∧ ∀ v, v < k → dotI (p.map fun c => gI c.2.2.1 (v : Int)) w = 0, ⟨n.toNat, 0, rfl, rfl, fun v hv => by omega⟩, ?_⟩
    rintro m x ⟨k, rfl, hm, hz⟩
    have hpre : farkas_total__farkas_Check_2.pre p w := ⟨h96, by omega, h, fun c hc => (lin_coef (valid_lin (hv c hc).1)).2.2⟩
    refine ⟨fun hx => ⟨⟨h96, by omega, h, fun c hc => ?_⟩, ?_⟩, fun hx => ⟨hpre, ?_⟩⟩
    · have hlen := (hv c hc).2
      exact ⟨⟨by omega, by omega⟩, (lin_coef (valid_lin (hv c hc).1)).1 _ (by simpa [gI] using getD_mem 0 (by omega : k < c.2.2.1.length))⟩
    · rintro t rfl
      refine ⟨fun ht => ?_, fun ht => ⟨⟨by omega, by omega⟩, m - 1, by omega, k + 1, by simp, by omega, fun v hv' => ?_⟩⟩
      · rw [if_pos]
        exact List.any_eq_true.2 ⟨k, List.mem_range.2 (by omega), by simpa using sgn_ne.1 ht⟩
      · by_cases e : v = k
        · subst e
          have : ¬ sgn _ ≠ 0 := fun hh => hh ht
          rw [sgn_ne] at this
          simpa using this
        · exact hz v (by omega)
    · rintro t rfl
      rw [if_neg]
      · congr 1
        exact decide_eq_decide.2 sgn_lt
      · intro hany
        obtain ⟨v, hv1, hv2⟩ := List.any_eq_true.1 hany
        have := hz v (by have := List.mem_range.1 hv1; omega)
        rw [this] at hv2
        simp at hv2


end Go.Proofs.Ytlncingakpelbaa
