/- Part of a proof that a law of the program holds for every input: what the law answers, in plain Lean. No conditions. -/
import Derived.Test.YtlncingakpelbaaSL4
import Derived.Test.YtlncingakpelbaaSC
import Derived.Test.YtlncingakpelbaaSA
namespace Go.Proofs.Ytlncingakpelbaa
open Go
set_option linter.unusedVariables false


/-- What Prove and Inner answer, at once. -/
theorem both {p : List api_Cond} {n : Int} (h3 : (farkas_Prove.fn p n).2 ≠ 3) (h4 : (farkas_Inner.fn p n).2.2 ≠ 3) :
    (((farkas_Prove.fn p n).2 ≠ 0 ∧ (farkas_Prove.fn p n).2 ≠ 5) → (farkas_Prove.fn p n).2 = (farkas_Inner.fn p n).2.2) ∧
    ((farkas_Prove.fn p n).2 = 0 → (farkas_Inner.fn p n).2.2 = 5 ∧ farkas_Check.fn p n (farkas_Prove.fn p n).1 = (true, 0) ∧ inB 1073741824 (farkas_Prove.fn p n).1) ∧
    ((farkas_Prove.fn p n).2 = 5 → farkas_asked.fn p n = 0 ∧ ∃ b : farkas_point, farkas_Inner.fn p n = (b.1, b.2, 0) ∧ ptB b ∧ b.1.length = n.toNat ∧ ∀ r ∈ (farkas_first.fn p n).2, holdsR b n r) := by
  unfold farkas_Prove.fn farkas_Inner.fn at *
  by_cases h1 : farkas_asked.fn p n ≠ 0
  · simp only [if_pos h1] at *
    refine ⟨fun _ => trivial, fun h => absurd h h1, fun h => ?_⟩
    exfalso
    unfold farkas_asked.fn at h
    split at h
    · simp at h
    · split at h
      · simp at h
      · split at h
        · simp at h
        · split at h <;> simp at h
  · have h1' := Classical.byContradiction h1
    simp only [if_neg h1] at *
    by_cases h2 : (farkas_eliminated.fn p n).2 ≠ 0
    · simp only [if_pos h2] at *
      have := elimAll_err n.toNat (farkas_first.fn p n)
      rcases this with e | e
      · exact absurd e h2
      · exact absurd e.1 h3
    · have h2' := Classical.byContradiction h2
      simp only [if_neg h2] at *
      by_cases hr : (farkas_table_refuted.fn ((farkas_eliminated.fn p n).1.getD 0 d_farkas_table)).2 = true
      · simp only [if_pos hr] at *
        obtain ⟨w, hw, hl, hs, hc⟩ := refuted_ok h1' h2' hr
        refine ⟨fun h => absurd rfl h.1, fun _ => ⟨trivial, by rw [hw]; exact hc, ?_⟩, fun h => by simp at h⟩
        obtain ⟨e1, e2, e3, e4⟩ := eliminated_ok h1' h2'
        have hT := (e3 0 (Nat.zero_le _)).1.2.2
        obtain ⟨r, hr1, hr2, hr3⟩ := refuteL_true _ _ hr
        have : (farkas_table_refuted.fn ((farkas_eliminated.fn p n).1.getD 0 d_farkas_table)).1 = _ := hr3
        rw [this]
        have hd : inB 1073741824 (r.2.drop (Int.toNat (((farkas_eliminated.fn p n).1.getD 0 d_farkas_table).1 + 1))) := fun x hx => (hT r hr1).2 x (List.mem_of_mem_drop hx)
        split
        · exact neg_map_bound hd
        · exact hd
      · simp only [if_neg hr] at *
        refine ⟨fun h => absurd rfl h.2, fun h => by simp at h, fun _ => ⟨h1', ?_⟩⟩
        have hz : (innerL (farkas_eliminated.fn p n).1 n.toNat 0 ([], 1)).2.2 = 0 := by
          rcases innerL_err (ts := (farkas_eliminated.fn p n).1) n.toNat 0 ([], 1) with e | e
          · exact e
          · exact absurd e h4
        obtain ⟨b, b1, b2, b3, b4, b5⟩ := inner_ok h1' h2' (Bool.eq_false_iff.2 hr) hz
        exact ⟨b, b1, b2, b3, b5⟩

theorem law09_FarkasOne.spec (p : List api_Cond) (n : Int) : law09_FarkasOne.wp p n (fun y => y = law09_FarkasOne.fn p n) := by
  intro _
  refine ⟨fun _ => ⟨awake09_pre, awake09_fn⟩, fun h12 => ?_⟩
  rintro q hq
  rintro w hw
  refine ⟨fun _ => ⟨awake09_pre, awake09_fn⟩, fun h3 => ?_⟩
  simp only [Bool.or_eq_false_iff, beq_eq_false_iff_ne] at h3
  obtain ⟨c1, c2, c3⟩ := both (by rw [← hq]; exact h3.1) (by rw [← hw]; exact h3.2)
  rw [← hq, ← hw] at c1
  rw [← hq, ← hw] at c2
  rw [← hq, ← hw] at c3
  refine ⟨fun hc => ⟨fun _ => awake09_pre, ?_⟩, fun hc => ⟨fun h0 => ?_, fun h0 => ?_⟩⟩
  · simp only [Bool.and_eq_true, bne_iff_ne] at hc
    rw [awake09_fn, c1 hc, beq_self_eq_true]; rfl
  · obtain ⟨d1, d2, d3⟩ := c2 h0
    refine ⟨inB.i64 d3 (by decide), ?_⟩
    rintro r hr
    rw [d2] at hr
    subst hr
    refine ⟨fun _ => awake09_pre, ?_⟩
    rw [awake09_fn, d1]; rfl
  · have h5 : q.2 = 5 := by
      simp only [Bool.and_eq_false_iff, bne_eq_false_iff_eq] at hc
      rcases hc with h | h
      · exact absurd h h0
      · exact h
    obtain ⟨ha, b, hb, ⟨b12, bx, bd1, bd2⟩, hbl, hbr⟩ := c3 h5
    obtain ⟨hn, h96, hv⟩ := asked_ok ha
    rw [hb]
    simp only []
    refine ⟨fun h => ?_, fun _ _ => ?_⟩
    · exfalso
      simp only [Bool.or_eq_true, bne_iff_ne, decide_eq_true_eq] at h
      rcases h with (h | h) | h
      · exact h rfl
      · omega
      · omega
    refine ⟨fun m i => ∃ k : Nat, i = (k : Int) ∧ m + k = p.length, ⟨p.length, 0, rfl, rfl⟩, ?_⟩
    rintro m i ⟨k, rfl, hm⟩
    refine ⟨fun hi => ⟨⟨by omega, hi⟩, ?_⟩, fun _ => ⟨awake09_pre, awake09_fn⟩⟩
    have hk : k < p.length := by omega
    rintro c hc
    rw [Int.toNat_natCast] at hc
    have hcm : c ∈ p := by rw [hc]; exact getD_mem _ hk
    obtain ⟨hv1, hv2⟩ := hv c hcm
    obtain ⟨l1, l2, l3⟩ := lin_coef (valid_lin hv1)
    simp only [num_Fits.fn, Bool.and_eq_true, decide_eq_true_eq] at l1 l3
    have m0 := mul_bound (A := 1048576) (B := 268435456) (by omega) l3.2 (by omega) bd2
    refine ⟨⟨by omega, by omega⟩, fun _ => ?_⟩
    refine ⟨fun m2 s j => ∃ u : Nat, j = (u : Int) ∧ m2 + u = c.2.2.1.length ∧ s = c.2.2.2 * b.2 + dotI (c.2.2.1.take u) (b.1.take u) ∧ -((u + 1) * 281474976710656) ≤ s ∧ s ≤ (u + 1) * 281474976710656, ⟨c.2.2.1.length, 0, rfl, rfl, by simp [dotI], by omega, by omega⟩, ?_⟩
    rintro m2 s j ⟨u, rfl, hm2, hs, s1, s2⟩
    refine ⟨fun hj => ?_, fun hj => ?_⟩
    · have hu : u < c.2.2.1.length := by omega
      rw [gI_nat, gI_nat]
      have y1 := l1 _ (getD_mem 0 hu)
      have y2 := bx _ (getD_mem 0 (by omega : u < b.1.length))
      have m1 := mul_bound (A := 1048576) (B := 268435456) (by omega) y1.2 y2.1 y2.2
      have hd := dotI_succ c.2.2.1 b.1 u hu (by omega)
      generalize c.2.2.1.getD u 0 * b.1.getD u 0 = z at *
      refine ⟨⟨by omega, hj⟩, ⟨by omega, by omega⟩, ⟨by omega, by omega⟩, ⟨by omega, by omega⟩, ?_⟩
      rintro t rfl
      refine ⟨⟨by omega, by omega⟩, m2 - 1, by omega, u + 1, by omega, by omega, by rw [hd, hs]; omega, ?_, ?_⟩
      · push_cast; omega
      · push_cast; omega
    · have hu : u = c.2.2.1.length := by omega
      subst hu
      rw [List.take_of_length_le (Nat.le_refl _), List.take_of_length_le (by omega)] at hs
      refine ⟨fun hbad => ?_, fun _ => ⟨⟨by omega, by omega⟩, m - 1, by omega, k + 1, by omega, by omega⟩⟩
      exfalso
      have hne2 : c.1 ≠ 2 := fun h2 => by rw [h2] at hbad; simp at hbad
      have hin : (c.1 == 1, c.2.2.1 ++ c.2.2.2 :: (List.replicate p.length 0).set k 1) ∈ (farkas_first.fn p n).2 := gather_in _ d_api_Cond p 0 k hk (by
        rw [Nat.zero_add, ← hc]
        unfold firstRow
        rw [if_neg hne2]; exact List.mem_singleton.2 rfl)
      have hh := hbr _ hin
      unfold holdsR rowS at hh
      have e1 : gI (c.2.2.1 ++ c.2.2.2 :: (List.replicate p.length 0).set k 1) n = c.2.2.2 := by
        unfold gI
        simp only [List.getD_eq_getElem?_getD]
        rw [List.getElem?_append_right (by omega), show n.toNat - c.2.2.1.length = 0 from by omega]; rfl
      have e2 : dotI (c.2.2.1 ++ c.2.2.2 :: (List.replicate p.length 0).set k 1) b.1 = dotI c.2.2.1 b.1 := by
        have := dotI_take (c.2.2.1 ++ c.2.2.2 :: (List.replicate p.length 0).set k 1) b.1
        rw [← this, show b.1.length = c.2.2.1.length from by omega, List.take_left']
        rfl
      simp only [e1, e2, ← hs] at hh
      simp only [Bool.or_eq_true, Bool.and_eq_true, beq_iff_eq, decide_eq_true_eq, bne_iff_ne] at hbad
      rcases hbad with h | h
      · omega
      · exact h.2 (hh.1 (by rw [h.1]; rfl))

theorem law09_FarkasOne.holds (p : List api_Cond) (n : Int) (hp : Wf (.sl t_api_Cond) p) (hn : Wf (.int .i64) n) : law09_FarkasOne.fn p n = true := rfl
end Go.Proofs.Ytlncingakpelbaa
