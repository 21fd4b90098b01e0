/- Part of a proof that a law of the program holds for every input: Prove of the document's answer is that of the code, in plain Lean. No conditions. -/
import Derived.Test.YtlncingakpelbaaSE3
namespace Go.Proofs.Ytlncingakpelbaa
open Go
set_option linter.unusedVariables false

theorem ref09_asked.spec (p : List api_Cond) (n : Int) : ref09_asked.wp p n (fun x => x = ref09_asked.fn p n) := by
  unfold ref09_asked.wp ref09_asked.fn farkas_asked.fn
  refine ⟨fun h => ?_, fun h hl => ⟨fun h2 => ?_, fun h2 _ => ?_⟩⟩
  · rw [if_pos (by simpa using h)]
  all_goals rw [if_neg (by simpa using h)]
  · rw [if_pos h2]
  rw [if_neg h2]
  refine ⟨fun m e x => ∃ k : Nat, x = (k : Int) ∧ m + k = p.length ∧ (p.take k).any farkas_asked_1.fn = false ∧ e = (if (p.take k).any (fun c => farkas_asked_2.fn c n) then 2 else 0), ⟨p.length, 0, rfl, rfl, rfl, rfl⟩, ?_⟩
  rintro m e x ⟨k, rfl, hm, h3, he⟩
  refine ⟨fun hx => ⟨⟨by omega, hx⟩, ?_⟩, fun hx => ?_⟩
  · have hk : k < p.length := by omega
    rintro c rfl
    simp only [Int.toNat_natCast]
    refine ⟨fun hv => ?_, fun (hv : cond_Valid.fn _ = true) => ⟨fun hd => ⟨⟨by omega, by omega⟩, m - 1, by omega, k + 1, by simp, by omega, ?_, ?_⟩, fun hd => ⟨⟨by omega, by omega⟩, m - 1, by omega, k + 1, by simp, by omega, ?_, ?_⟩⟩⟩
    · rw [if_pos (List.any_eq_true.2 ⟨_, getD_mem d_api_Cond hk, by rw [farkas_asked_1.fn]; exact congrArg (!·) hv⟩)]
    · rw [take_get d_api_Cond hk, List.any_append, h3]; simpa [farkas_asked_1.fn] using hv
    · have h2 : farkas_asked_2.fn (p.getD k d_api_Cond) n = true := by simpa [farkas_asked_2.fn] using hd
      rw [take_get d_api_Cond hk, List.any_append, if_pos]
      simp only [List.any_cons, h2, Bool.true_or, Bool.or_true]
    · rw [take_get d_api_Cond hk, List.any_append, h3]; simpa [farkas_asked_1.fn] using hv
    · have h2 : farkas_asked_2.fn (p.getD k d_api_Cond) n = false := by simpa [farkas_asked_2.fn] using hd
      rw [take_get d_api_Cond hk, List.any_append, he]
      simp only [List.any_cons, List.any_nil, h2, Bool.or_false]
  · have hk : k = p.length := by omega
    subst hk
    rw [List.take_of_length_le (Nat.le_refl _)] at h3 he
    rw [if_neg (by rw [h3]; simp)]; exact he

theorem firstRow_ofF {N m i : Nat} {c : api_Cond} (hc : c.2.2.1.length = N) (h2 : c.1 ≠ 2) : (firstRow N m i c).map (ofF N) = [(c.2.2, c.1 == 1, (List.replicate m 0).set i 1)] := by
  unfold firstRow
  rw [if_neg h2]
  have := ofF_toF (n := N) (r := (c.2.2, c.1 == 1, (List.replicate m (0 : Int)).set i 1)) hc
  simp only [List.map_cons, List.map_nil]
  exact congrArg (fun x => [x]) this

theorem ref09_stack.spec (p : List api_Cond) (n : Int) (h : ref09_stack.pre p n) : ref09_stack.wp p n (fun x => x = ref09_stack.fn p n) := by
  have h : farkas_asked.fn p n = 0 := h
  obtain ⟨hn, h96, hv⟩ := asked_ok h
  obtain ⟨hT, hTn⟩ := first_ok h
  obtain ⟨N, rfl⟩ : ∃ N : Nat, n = (N : Int) := ⟨n.toNat, by omega⟩
  intro _
  refine ⟨fun m i o => ∃ k : Nat, i = (k : Int) ∧ m + k = p.length ∧ o = (gather (firstRow N p.length) (p.take k) 0).map (ofF N), ⟨p.length, 0, rfl, rfl, rfl⟩, ?_⟩
  rintro m i o ⟨k, rfl, hm, rfl⟩
  refine ⟨fun hi => ?_, fun hi => ?_⟩
  · have hk : k < p.length := by omega
    have hgt := gather_take (firstRow N p.length) d_api_Cond hk
    have hgl := gather_len (firstRow N p.length) (fun i x => firstRow_len _ _ _ _) (p.take k) 0
    rw [List.length_take] at hgl
    refine ⟨⟨by omega, hi⟩, ?_⟩
    rintro c hce
    rw [Int.toNat_natCast] at hce
    rw [← hce] at hgt
    have hcm : c ∈ p := by rw [hce]; exact getD_mem _ hk
    have hcl := (hv c hcm).2
    refine ⟨fun h2 => ⟨⟨by omega, by omega⟩, m - 1, by omega, k + 1, by omega, by omega, ?_⟩, fun h2 => ⟨⟨by omega, by omega, by omega, by omega⟩, ?_⟩⟩
    · rw [hgt, firstRow, if_pos h2, List.append_nil]
    · rintro x hx
      intro _
      rw [Int.toNat_natCast] at hx
      have hxl : x.length = p.length := by rw [hx]; exact List.length_replicate
      refine ⟨⟨by omega, by omega⟩, by rw [Int.toNat_natCast]; omega, ?_⟩
      rintro y hy
      rw [Int.toNat_natCast, hx] at hy
      refine ⟨⟨?_, ?_⟩, ?_⟩
      · rw [List.length_singleton, List.length_map]; omega
      · rw [List.length_singleton, List.length_map]; omega
      rintro o' rfl
      refine ⟨⟨by omega, by omega⟩, m - 1, by omega, k + 1, by omega, by omega, ?_⟩
      rw [hgt, List.map_append, firstRow_ofF (by omega) h2, hy]
  · have hk : k = p.length := by omega
    subst hk
    rw [List.take_of_length_le (Nat.le_refl _)]
    refine ⟨⟨by omega, by omega, by omega, by omega⟩, ?_⟩
    rintro x12 hx12
    rw [Int.toNat_natCast] at hx12
    refine ⟨⟨by omega, by omega⟩, ?_⟩
    have hfst : (gather (firstRow N p.length) p 0) = (farkas_first.fn p N).2 := rfl
    rw [hfst]
    have hstack : ref09_stack.fn p (N : Int) = if (elimAll (farkas_first.fn p N) N).2 ≠ 0 then ([], [], (elimAll (farkas_first.fn p N) N).2) else (((elimAll (farkas_first.fn p N) N).1.drop 1).map (fun t => t.2.map (ofF N)), ((elimAll (farkas_first.fn p N) N).1.getD 0 d_farkas_table).2.map (ofF N), 0) := rfl
    rw [hstack]
    have hred := first_reduced (p := p) (n := (N : Int))
    rw [Int.toNat_natCast] at hT
    generalize farkas_first.fn p (N : Int) = T at *
    refine ⟨fun m rows i bef => ∃ (v : Nat) (t : farkas_table) (l : List farkas_table), i = (v : Int) - 1 ∧ m = v ∧ v + l.length = N ∧ rows = t.2.map (ofF N) ∧ bef = List.replicate v [] ++ l.map (fun t => t.2.map (ofF N)) ∧ (tabB (N + 1 + p.length) t ∧ t.1 = (N : Int) ∧ ∀ r ∈ t.2, farkas_row_reduced.fn r = r) ∧ elimAll T N = comb (elimAll t v) l,
      ⟨N, N, T, [], rfl, rfl, rfl, rfl, by rw [hx12]; simp, ⟨hT, hTn, hred⟩, (comb_nil _ _).symm⟩, ?_⟩
    rintro m rows i bef ⟨v, t, l, rfl, hm, hl, rfl, rfl, ⟨ht, htn, htr⟩, hc⟩
    refine ⟨fun hi => ?_, fun hi => ?_⟩
    · obtain ⟨u, rfl⟩ : ∃ u, v = u + 1 := ⟨v - 1, by omega⟩
      have e3 : Int.toNat (((u + 1 : Nat) : Int) - 1) = u := by omega
      have e4 : ((u + 1 : Nat) : Int) - 1 = (u : Int) := by omega
      obtain ⟨q1, q2⟩ := Eliminate_tab (v := u) ht htn htr (by omega)
      have blen : (List.replicate (u + 1) ([] : List ref09_Row) ++ l.map (fun t => t.2.map (ofF N))).length = N := by rw [List.length_append, List.length_replicate, List.length_map]; omega
      rw [e3, e4, blen]
      refine ⟨⟨by omega, by omega⟩, by omega, q1, ?_⟩
      rintro w hw
      rw [q2] at hw
      have hw1 : w.1 = (farkas_table_without.fn t u).1.2.map (ofF N) := by rw [hw]
      have hw2 : w.2 = (farkas_table_without.fn t u).2 := by rw [hw]
      refine ⟨fun hne => ?_, fun heq => ⟨⟨by omega, by omega⟩, m - 1, by omega, u, (farkas_table_without.fn t u).1, t :: l, rfl, by omega, by rw [List.length_cons]; omega, hw1, ?_, ?_, ?_⟩⟩
      · rw [hc, comb_err (by rw [← hw2]; exact hne), if_pos (by rw [← hw2]; exact hne), ← hw2]
      · rw [List.replicate_succ', List.append_assoc, List.set_append_right _ _ (by simp)]; simp
      · have hok := without_ok (v := (u : Int)) ht ⟨by omega, by omega⟩ (by rw [← hw2]; exact heq)
        refine ⟨hok.1, by rw [hok.2]; exact htn, ?_⟩
        rw [without_list (by rw [← hw2]; exact heq)]
        exact dedup_reduced
      · rw [hc]; exact comb_step (by rw [← hw2]; exact heq) l
    · have hv0 : v = 0 := by omega
      subst hv0
      have : elimAll T N = (t :: l, 0) := by rw [hc]; rfl
      rw [this]
      simp

theorem ref09_Prove.spec (p : List api_Cond) (n : Int) : ref09_Prove.wp p n (fun x => x = ref09_Prove.fn p n) := by
  unfold ref09_Prove.wp ref09_Prove.fn farkas_Prove.fn
  rintro e rfl
  have ea : ref09_asked.fn p n = farkas_asked.fn p n := rfl
  rw [ea]
  refine ⟨fun he => by rw [if_pos he], fun he => ⟨he, ?_⟩⟩
  rw [if_neg (by rw [he]; simp)]
  rintro q hq
  unfold ref09_stack.fn at hq
  by_cases h0 : (farkas_eliminated.fn p n).2 ≠ 0
  · rw [if_pos h0] at hq
    rw [hq, if_pos h0]
    exact ⟨fun _ => rfl, fun h => absurd h h0⟩
  · rw [if_neg h0] at hq
    rw [if_neg h0]
    have h0' := Classical.byContradiction h0
    obtain ⟨hn, h96, hv⟩ := asked_ok he
    obtain ⟨e1, e2, e3, e4⟩ := eliminated_ok he h0'
    have hT := e3 0 (Nat.zero_le _)
    have hred := tables_reduced he h0' (Nat.zero_le n.toNat)
    generalize (farkas_eliminated.fn p n).1.getD 0 d_farkas_table = t at *
    obtain ⟨r1, r2, r3⟩ := rows_ok (N := n.toNat) hT.1 (by rw [hT.2]; omega) hred
    rw [hq]
    refine ⟨fun h => absurd rfl h, fun _ => ⟨fun r hr => ?_, ?_⟩⟩
    · have h1 := r1 r hr
      have h2 := toF_len r
      have hL := hT.1.1.2.2
      refine ⟨by omega, fun x hx => h1.2.1 x ?_⟩
      exact List.mem_append_right _ (List.mem_cons_of_mem _ hx)
    · have hre : ref09_refuted.fn (t.2.map (ofF n.toNat)) = farkas_table_refuted.fn t := by
        unfold ref09_refuted.fn farkas_table_refuted.fn
        rw [refuteR_eq hn.1 _ (fun r hr => by rw [(r1 r hr).1.1]; omega), r2, hT.2]
      rintro w hw
      have hw : w = farkas_table_refuted.fn t := by rw [hw]; exact hre
      rw [← hw]
      exact ⟨fun h => by rw [if_neg (by rw [h]; simp)], fun h => by rw [if_pos h]⟩

/-! ## Sets -/
theorem set_over.spec (p : List api_Cond) (n : Int) : set_over.wp p n (fun x => x = set_over.fn p n) := by
  intro hl
  obtain ⟨I, h0, hI⟩ := scan_wp (fun c : api_Cond => cond_Valid.fn c && ((c.2.2.1.length : Int) == n)) d_api_Cond p hl (false = set_over.fn p n) (true = set_over.fn p n) (fun h => h.symm) (fun h => h.symm)
  refine ⟨I, h0, fun m x hx => ⟨fun hi => ?_, (hI m x hx).2⟩⟩
  obtain ⟨a1, a2, a3⟩ := (hI m x hx).1 hi
  refine ⟨a1, ?_⟩
  rintro c rfl
  refine ⟨fun h => a2 ?_, fun h => a3 ?_⟩
  · show (cond_Valid.fn _ && _) = false
    simp only [Bool.or_eq_true, Bool.not_eq_true', bne_iff_ne] at h
    rcases h with h | h
    · rw [h]; rfl
    · rw [beq_eq_false_iff_ne.2 h, Bool.and_false]
  · show (cond_Valid.fn _ && _) = true
    simp only [Bool.or_eq_false_iff, Bool.not_eq_false', bne_eq_false_iff_eq] at h
    rw [h.1, h.2, beq_self_eq_true]; rfl
theorem set_Valid.spec (s : api_Set) : set_Valid.wp s (fun x => x = set_Valid.fn s) := by
  unfold set_Valid.wp set_Valid.fn
  refine ⟨fun h => by rw [h]; rfl, fun h hl => ?_⟩
  rw [h, Bool.not_false, Bool.true_and]
  obtain ⟨I, h0, hI⟩ := scan_wp (fun p : List api_Cond => !(decide ((p.length : Int) > 96)) && set_over.fn p s.1) [] s.2 hl (false = s.2.all fun p => !(decide ((p.length : Int) > 96)) && set_over.fn p s.1) (true = s.2.all fun p => !(decide ((p.length : Int) > 96)) && set_over.fn p s.1) (fun h => h.symm) (fun h => h.symm)
  refine ⟨I, h0, fun m x hx => ⟨fun hi => ?_, (hI m x hx).2⟩⟩
  obtain ⟨a1, a2, a3⟩ := (hI m x hx).1 hi
  refine ⟨a1, fun h => a2 ?_, fun h => a3 ?_⟩
  · rw [Bool.eq_false_iff]
    intro hh
    simp only [Bool.and_eq_true, Bool.not_eq_true'] at hh
    rw [hh.1, hh.2] at h; cases h
  · simp only [Bool.or_eq_false_iff, Bool.not_eq_false'] at h
    rw [h.1, h.2]; rfl
theorem ref04_Valid.spec (s : api_Set) : ref04_Valid.wp s (fun x => x = ref04_Valid.fn s) := by
  unfold ref04_Valid.wp ref04_Valid.fn set_Valid.fn
  refine ⟨fun h => by rw [h]; rfl, fun h hl => ?_⟩
  rw [h, Bool.not_false, Bool.true_and]
  generalize hR : (s.2.all fun p => !(decide ((p.length : Int) > 96)) && set_over.fn p s.1) = R
  obtain ⟨I, h0, hI⟩ := scan_wp (fun p : List api_Cond => !(decide ((p.length : Int) > 96)) && set_over.fn p s.1) [] s.2 hl (false = R) (true = R) (fun h => by rw [← hR, h]) (fun h => by rw [← hR, h])
  refine ⟨I, h0, fun m x hx => ⟨fun hi => ?_, (hI m x hx).2⟩⟩
  obtain ⟨a1, a2, a3⟩ := (hI m x hx).1 hi
  generalize s.2.getD x.toNat [] = q at *
  refine ⟨a1, fun _ => ⟨fun h => a2 (by rw [decide_eq_true h]; rfl), fun h => ?_⟩⟩
  rintro len rfl
  intro hql
  obtain ⟨J, j0, hJ⟩ := scan_wp (fun c : api_Cond => cond_Valid.fn c && ((c.2.2.1.length : Int) == s.1)) d_api_Cond q hql (false = R) ((-9223372036854775808 ≤ x + 1 ∧ x + 1 ≤ 9223372036854775807) ∧ ∃ m_1, m_1 < m ∧ I m_1 (x + 1))
    (fun hf => a2 (by rw [decide_eq_false h]; exact hf)) (fun ht => a3 (by rw [decide_eq_false h]; exact ht))
  refine ⟨J, j0, fun m2 y hy => ⟨fun hi2 => ?_, (hJ m2 y hy).2⟩⟩
  obtain ⟨b1, b2, b3⟩ := (hJ m2 y hy).1 hi2
  refine ⟨b1, ?_⟩
  rintro c rfl
  refine ⟨fun h => b2 ?_, fun h => b3 ?_⟩
  · rw [Bool.eq_false_iff]
    intro hh
    simp only [Bool.and_eq_true, beq_iff_eq] at hh
    have h1 : ref03_Valid.fn (q.getD y.toNat d_api_Cond) = true := hh.1
    rw [h1, hh.2] at h
    simp at h
  · simp only [Bool.or_eq_false_iff, Bool.not_eq_false', bne_eq_false_iff_eq] at h
    have h1 : cond_Valid.fn (q.getD y.toNat d_api_Cond) = true := h.1
    rw [h1, h.2, beq_self_eq_true]; rfl

/-- What is answered from a piece on. -/
def emptyC (acc : List (List Int)) (q : List (List Int) × Int) : List (List Int) × Int := if q.2 ≠ 0 then ([], q.2) else (acc ++ q.1, 0)
theorem emptyL_err (n : Int) : ∀ l, (emptyL n l).2 ≠ 0 → (emptyL n l).1 = []
  | [], h => rfl
  | p :: l, h => by
    unfold emptyL at h ⊢
    split
    · rfl
    · rename_i h1
      rw [if_neg h1] at h
      split
      · rfl
      · rename_i h2; rw [if_neg h2] at h; exact absurd rfl h
theorem emptyC_nil (n : Int) (l) : emptyC [] (emptyL n l) = emptyL n l := by
  unfold emptyC
  split
  · rename_i h; rw [← emptyL_err n l h]
  · rename_i h; rw [List.nil_append]; exact Prod.ext rfl (Classical.byContradiction h).symm
theorem emptyC_err {n : Int} {p : List api_Cond} {l acc} (h : (farkas_Prove.fn p n).2 ≠ 0) : emptyC acc (emptyL n (p :: l)) = ([], (farkas_Prove.fn p n).2) := by
  unfold emptyC emptyL
  rw [if_pos h]; simp [h]
theorem emptyC_step {n : Int} {p : List api_Cond} {l acc} (h : (farkas_Prove.fn p n).2 = 0) : emptyC acc (emptyL n (p :: l)) = emptyC (acc ++ [(farkas_Prove.fn p n).1]) (emptyL n l) := by
  have e1 : emptyL n (p :: l) = if (emptyL n l).2 ≠ 0 then ([], (emptyL n l).2) else ((farkas_Prove.fn p n).1 :: (emptyL n l).1, 0) := by
    conv => lhs; unfold emptyL
    rw [if_neg (by rw [h]; simp)]
  rw [e1]
  unfold emptyC
  by_cases h2 : (emptyL n l).2 = 0
  · rw [if_neg (by rw [h2]; simp)]
    simp [h2]
  · rw [if_pos h2]
    simp [h2]
theorem farkas_Empty.spec (s : api_Set) : farkas_Empty.wp s (fun x => x = farkas_Empty.fn s) := by
  unfold farkas_Empty.wp farkas_Empty.fn
  refine ⟨fun h => by rw [if_neg (by rw [h]; simp)], fun h _ => ?_⟩
  rw [if_pos h]
  have h400 : s.2.length ≤ 400 := by
    unfold set_Valid.fn at h
    simp only [Bool.and_eq_true, Bool.not_eq_true', Bool.or_eq_false_iff, decide_eq_false_iff_not] at h
    have := h.1.2; omega
  refine ⟨fun n i o => ∃ k : Nat, i = (k : Int) ∧ n + k = s.2.length ∧ o.length = k ∧ emptyL s.1 s.2 = emptyC o (emptyL s.1 (s.2.drop k)), ⟨s.2.length, 0, rfl, rfl, rfl, (emptyC_nil _ _).symm⟩, ?_⟩
  rintro n i o ⟨k, rfl, hn, ho, hq⟩
  refine ⟨fun hi => ⟨⟨by omega, hi⟩, ?_⟩, fun hi => ?_⟩
  · have hk : k < s.2.length := by omega
    rw [Int.toNat_natCast]
    rw [drop_get [] hk] at hq
    rintro q rfl
    rintro w rfl
    rintro e he
    refine ⟨fun hne => ?_, fun heq => ⟨⟨?_, ?_⟩, ⟨by omega, by omega⟩, n - 1, by omega, k + 1, by omega, by omega, ?_, ?_⟩⟩
    · rw [hq, emptyC_err (by rw [← he]; exact hne), he]
    · rw [List.length_singleton]; omega
    · rw [List.length_singleton]; omega
    · rw [List.length_append, List.length_singleton, ho]
    · rw [hq, emptyC_step (by rw [← he]; exact heq)]
  · rw [hq, List.drop_of_length_le (by omega)]
    unfold emptyC emptyL; simp
theorem ref09_Empty.spec (s : api_Set) : ref09_Empty.wp s (fun x => x = ref09_Empty.fn s) := by
  unfold ref09_Empty.wp ref09_Empty.fn farkas_Empty.fn
  have ev : ref04_Valid.fn s = set_Valid.fn s := rfl
  rw [ev]
  refine ⟨fun h => by rw [if_neg (by rw [h]; simp)], fun h _ => ?_⟩
  rw [if_pos h]
  have h400 : s.2.length ≤ 400 := by
    unfold set_Valid.fn at h
    simp only [Bool.and_eq_true, Bool.not_eq_true', Bool.or_eq_false_iff, decide_eq_false_iff_not] at h
    have := h.1.2; omega
  refine ⟨fun n i o => ∃ k : Nat, i = (k : Int) ∧ n + k = s.2.length ∧ o.length = k ∧ emptyL s.1 s.2 = emptyC o (emptyL s.1 (s.2.drop k)), ⟨s.2.length, 0, rfl, rfl, rfl, (emptyC_nil _ _).symm⟩, ?_⟩
  rintro n i o ⟨k, rfl, hn, ho, hq⟩
  refine ⟨fun hi => ⟨⟨by omega, hi⟩, ?_⟩, fun hi => ?_⟩
  · have hk : k < s.2.length := by omega
    rw [Int.toNat_natCast]
    rw [drop_get [] hk] at hq
    have ep : ∀ p : List api_Cond, ref09_Prove.fn p s.1 = farkas_Prove.fn p s.1 := fun _ => rfl
    rw [ep]
    rintro q rfl
    rintro w rfl
    rintro e he
    refine ⟨fun hne => ?_, fun heq => ⟨⟨?_, ?_⟩, ⟨by omega, by omega⟩, n - 1, by omega, k + 1, by omega, by omega, ?_, ?_⟩⟩
    · rw [hq, emptyC_err (by rw [← he]; exact hne), he]
    · rw [List.length_singleton]; omega
    · rw [List.length_singleton]; omega
    · rw [List.length_append, List.length_singleton, ho]
    · rw [hq, emptyC_step (by rw [← he]; exact heq)]
  · rw [hq, List.drop_of_length_le (by omega)]
    unfold emptyC emptyL; simp
end Go.Proofs.Ytlncingakpelbaa
