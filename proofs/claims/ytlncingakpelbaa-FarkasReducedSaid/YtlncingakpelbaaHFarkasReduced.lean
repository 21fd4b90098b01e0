/- Part of a proof that a law of the program holds for every input: what the law answers, in plain Lean. No conditions. -/
import Derived.Test.YtlncingakpelbaaSL4
import Derived.Test.YtlncingakpelbaaS3
import Derived.Test.YtlncingakpelbaaSA
namespace Go.Proofs.Ytlncingakpelbaa
open Go
set_option linter.unusedVariables false


theorem Prove_ok {p : List api_Cond} {n : Int} (h : (farkas_Prove.fn p n).2 = 0) : farkas_asked.fn p n = 0 ∧ (farkas_Prove.fn p n).1.length = p.length ∧
    (∀ i, i < p.length → ((p.getD i d_api_Cond).1 = 2 → (farkas_Prove.fn p n).1.getD i 0 = 0) ∧ ((p.getD i d_api_Cond).1 ≠ 1 → 0 ≤ (farkas_Prove.fn p n).1.getD i 0)) := by
  unfold farkas_Prove.fn at h ⊢
  split at h
  · rename_i h1; exact absurd h h1
  · rename_i h1
    have h1 := Classical.byContradiction h1
    rw [if_neg (by rw [h1]; simp)]
    split at h
    · rename_i h2; exact absurd h h2
    · rename_i h2
      have h2 := Classical.byContradiction h2
      rw [if_neg (by rw [h2]; simp)]
      split at h
      · rename_i h3
        rw [if_pos h3]
        obtain ⟨w, hw, hl, hs, hc⟩ := refuted_ok h1 h2 h3
        simp only [hw]
        exact ⟨h1, hl, hs⟩
      · simp at h
theorem Inner_ok {p : List api_Cond} {n : Int} (h : (farkas_Inner.fn p n).2.2 = 0) : ∃ b : farkas_point, farkas_Inner.fn p n = (b.1, b.2, 0) ∧ ptB b ∧ Prim b := by
  unfold farkas_Inner.fn at h ⊢
  split at h
  · rename_i h1; exact absurd h h1
  · rename_i h1
    have h1 := Classical.byContradiction h1
    rw [if_neg (by rw [h1]; simp)]
    split at h
    · rename_i h2; exact absurd h h2
    · rename_i h2
      have h2 := Classical.byContradiction h2
      rw [if_neg (by rw [h2]; simp)]
      split at h
      · simp at h
      · rename_i h3
        rw [if_neg h3]
        obtain ⟨b, b1, b2, b3, b4, b5⟩ := inner_ok h1 h2 (Bool.eq_false_iff.2 h3) h
        exact ⟨b, b1, b2, b4⟩
theorem natAbs_tmod (a b : Int) : (Int.tmod a b).natAbs = a.natAbs % b.natAbs := Int.natAbs_tmod a b

theorem law09_FarkasReduced.spec (p : List api_Cond) (n : Int) : law09_FarkasReduced.wp p n (fun y => y = law09_FarkasReduced.fn p n) := by
  intro _
  refine ⟨fun _ => ⟨awake09_pre, awake09_fn⟩, fun h12 => ?_⟩
  rintro q hq
  refine ⟨True, ⟨fun h0 _ => ?_, fun _ => trivial⟩, fun _ => ?_⟩
  · obtain ⟨b, hb, ⟨hb1, hb2, hb3, hb4⟩, hb5⟩ := Inner_ok (by rw [← hq]; exact h0)
    rw [← hq] at hb
    rw [hb]
    simp only []
    refine ⟨fun m g i => ∃ k : Nat, i = (k : Int) ∧ m + k = b.1.length ∧ gcdL [g] = gcdL (b.2 :: b.1.take k), ⟨b.1.length, 0, rfl, rfl, rfl⟩, ?_⟩
    rintro m g i ⟨k, rfl, hm, hg⟩
    refine ⟨fun hi => ?_, fun hi => ?_⟩
    · have hk : k < b.1.length := by omega
      rw [gI_nat]
      have bk := hb2 _ (getD_mem 0 hk)
      refine ⟨⟨by omega, hi⟩, fun hc => ?_, fun _ => ?_⟩
      · simp only [Bool.or_eq_true, decide_eq_true_eq] at hc; omega
      · refine ⟨fun m2 x y => m2 = y.natAbs ∧ Nat.gcd x.natAbs y.natAbs = Nat.gcd g.natAbs (b.1.getD k 0).natAbs, ⟨_, rfl, rfl⟩, ?_⟩
        rintro m2 x y ⟨hm2, hxy⟩
        refine ⟨fun hy => ⟨hy, y.natAbs % 1 + (Int.tmod x y).natAbs, ?_, ?_, ?_⟩, fun hy => ⟨⟨by omega, by omega⟩, m - 1, by omega, k + 1, by omega, by omega, ?_⟩⟩
        · rw [natAbs_tmod, Nat.mod_one, Nat.zero_add, hm2]; exact Nat.mod_lt _ (by omega)
        · rw [Nat.mod_one, Nat.zero_add]
        · rw [natAbs_tmod, Nat.gcd_comm y.natAbs, ← Nat.gcd_rec, Nat.gcd_comm]; exact hxy
        · have e1 : gcdL (b.2 :: b.1.take (k + 1)) = num_Gcd_1.fn (gcdL (b.2 :: b.1.take k)) (b.1.getD k 0) := by
            unfold gcdL; rw [take_get 0 hk, ← List.cons_append, List.foldl_append]; rfl
          have e2 : ∀ z : Int, gcdL [z] = (z.natAbs : Nat) := fun z => by
            show ((Nat.gcd (0 : Int).natAbs z.natAbs : Nat) : Int) = _
            simp
          rw [e1, ← hg, e2, e2]
          unfold num_Gcd_1.fn
          rw [hy] at hxy
          simp only [Int.natAbs_zero, Nat.gcd_zero_right] at hxy
          rw [hxy]
          simp
    · have hk : k = b.1.length := by omega
      subst hk
      rw [List.take_of_length_le (Nat.le_refl _)] at hg
      have e2 : gcdL [g] = (g.natAbs : Nat) := by
        show ((Nat.gcd (0 : Int).natAbs g.natAbs : Nat) : Int) = _
        simp
      rw [e2] at hg
      have h1 : gcdL (b.2 :: b.1) = 1 := hb5
      rw [h1] at hg
      refine ⟨fun hc => ?_, fun _ => trivial⟩
      simp only [Bool.or_eq_true, Bool.and_eq_true, decide_eq_true_eq, bne_iff_ne] at hc
      omega
  · rintro w hw
    refine ⟨fun h0 _ _ => ?_, fun _ => ⟨awake09_pre, awake09_fn⟩⟩
    obtain ⟨ha, hl, hs⟩ := Prove_ok (by rw [← hw]; exact h0)
    rw [← hw] at hl hs
    obtain ⟨hn, h96, hv⟩ := asked_ok ha
    refine ⟨fun hne => absurd (by rw [hl]) hne, fun _ _ => ?_⟩
    refine ⟨fun m i => ∃ k : Nat, i = (k : Int) ∧ m + k = p.length, ⟨p.length, 0, rfl, rfl⟩, ?_⟩
    rintro m i ⟨k, rfl, hm⟩
    refine ⟨fun hi => ⟨⟨by omega, hi⟩, ?_⟩, fun _ => ⟨awake09_pre, awake09_fn⟩⟩
    have hk : k < p.length := by omega
    rintro c hc
    rw [Int.toNat_natCast] at hc
    have hsk := hs k hk
    have hvk := (hv _ (getD_mem d_api_Cond hk)).1
    rw [← hc] at hsk hvk
    rw [gI_nat]
    refine ⟨fun _ => ⟨by omega, by omega⟩, fun _ => ⟨by omega, by omega⟩, fun hbad => ?_, fun _ => ⟨⟨by omega, by omega⟩, m - 1, by omega, k + 1, by omega, by omega⟩⟩
    exfalso
    have hvk' : ref03_Valid.fn c = true := hvk
    simp only [hvk', Bool.or_eq_true, Bool.and_eq_true, bne_iff_ne, decide_eq_true_eq, beq_iff_eq, Bool.not_true, Bool.false_eq_true, or_false] at hbad
    rcases hbad with hb | hb
    · have := hsk.2 hb.1; omega
    · exact hb.2 (hsk.1 hb.1)

theorem law09_FarkasReduced.holds (p : List api_Cond) (n : Int) (hp : Wf (.sl t_api_Cond) p) (hn : Wf (.int .i64) n) : law09_FarkasReduced.fn p n = true := rfl
end Go.Proofs.Ytlncingakpelbaa
