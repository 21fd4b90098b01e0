/- Part of a proof that a law of the program holds for every input: the elimination and the tables of the document's answer are those of the code, in plain Lean. No conditions. -/
import Derived.Test.YtlncingakpelbaaSE2
namespace Go.Proofs.Ytlncingakpelbaa
open Go
set_option linter.unusedVariables false

theorem absI_if (x : Int) : (if -x > x then -x else x) = if x < 0 then -x else x := by split <;> split <;> omega

theorem ref09_Eliminate.spec (rows : List ref09_Row) (v : Int) (h : ref09_Eliminate.pre rows v) : ref09_Eliminate.wp rows v (fun x => x = ref09_Eliminate.fn rows v) := by
  obtain ⟨hv, N, L, ⟨hvN, hNL, hL⟩, h4, hr⟩ := h
  have hrN : ∀ r ∈ rows, r.1.1.length = N := fun r h => (hr r h).1.1
  have hrat : ∀ {k : Nat}, k < rows.length → rowR N L (rows.getD k d_ref09_Row) := fun hk => hr _ (getD_mem _ hk)
  have hvL : v < (L : Int) := by omega
  -- what the code's table is
  have hB : rowsB 1073741824 L (rows.map toF) := fun r hr' => by
    obtain ⟨y, hy, rfl⟩ := List.mem_map.1 hr'
    exact ⟨(hr y hy).1.2, (hr y hy).2.1⟩
  have hfn : ref09_Eliminate.fn rows v = ((farkas_table_kept.fn ((N : Int), []) (wList ((N : Int), rows.map toF) v)).1.2.map (ofF N), (farkas_table_kept.fn ((N : Int), []) (wList ((N : Int), rows.map toF) v)).2) := by
    have e2 : ∀ n : Int, farkas_table_without.fn (n, rows.map toF) v = farkas_table_kept.fn (n, []) (wList (n, rows.map toF) v) := fun n => by
      unfold farkas_table_without.fn wList; split <;> rfl
    by_cases hne : rows = []
    · subst hne
      unfold ref09_Eliminate.fn
      rw [e2]
      rfl
    · unfold ref09_Eliminate.fn
      rw [nOf_eq hrN hne, e2]
  rw [hfn]
  generalize hT : ((N : Int), rows.map toF) = t at *
  have ht2 : t.2 = rows.map toF := by rw [← hT]
  have htl : t.2.length = rows.length := by rw [ht2, List.length_map]
  have htat : ∀ {k : Nat}, k < rows.length → t.2.getD k d_farkas_row = toF (rows.getD k d_ref09_Row) := fun hk => by rw [ht2]; exact getD_mapF hk
  have htg : ∀ {k : Nat}, k < rows.length → gI (t.2.getD k d_farkas_row).2 v = gI (rows.getD k d_ref09_Row).1.1 v := fun hk => by
    rw [htat hk]; exact toF_getC hv (by rw [(hrat hk).1.1]; exact hvN)
  have hgb : ∀ {k : Nat}, k < rows.length → (0 ≤ v ∧ v < ((rows.getD k d_ref09_Row).1.1.length : Int)) ∧ -1073741824 ≤ gI (rows.getD k d_ref09_Row).1.1 v ∧ gI (rows.getD k d_ref09_Row).1.1 v ≤ 1073741824 := fun {k} hk => by
    have h1 := hrat hk
    refine ⟨⟨hv, by rw [h1.1.1]; exact hvN⟩, ?_⟩
    rw [← htg hk, htat hk]
    exact gI_inB h1.2.1 hv (by rw [h1.1.2]; exact hvL)
  have hsol : farkas_table_solver.fn t v = solveI (rows.map fun r => (r.2.1, gI r.1.1 v)) 0 (-1) 0 := by
    unfold farkas_table_solver.fn
    rw [ht2, List.map_map]
    congr 1
    refine List.map_congr_left fun r hr' => ?_
    show (r.2.1, gI (toF r).2 v) = _
    rw [toF_getC hv (by rw [hrN r hr']; exact hvN)]
  intro _
  refine ⟨fun n b i => ∃ (k : Nat) (a : Int), i = (k : Int) ∧ n + k = rows.length ∧ (b = -1 ∨ ((0 ≤ b ∧ b < (rows.length : Int)) ∧ a = absI (gI (rows.getD b.toNat d_ref09_Row).1.1 v))) ∧
    farkas_table_solver.fn t v = solveI ((rows.drop k).map fun r => (r.2.1, gI r.1.1 v)) k b a, ⟨rows.length, 0, 0, rfl, rfl, Or.inl rfl, hsol⟩, ?_⟩
  rintro n b i ⟨k, a, rfl, hn, hb, hs⟩
  refine ⟨fun hi => ?_, fun hi => ?_⟩
  · have hk : k < rows.length := by omega
    refine ⟨⟨by omega, hi⟩, ?_⟩
    rintro r hre
    rw [Int.toNat_natCast] at hre
    have g1 := hgb hk
    rw [← hre] at g1
    rw [drop_get d_ref09_Row hk, List.map_cons, ← hre] at hs
    have g2 : ∀ (_ : ((r.2.1 && (gI r.1.1 v != 0)) && (!(decide (b < 0)))) = true), (0 ≤ b ∧ b < (rows.length : Int)) ∧ (0 ≤ v ∧ v < ((rows.getD b.toNat d_ref09_Row).1.1.length : Int)) ∧ -1073741824 ≤ gI (rows.getD b.toNat d_ref09_Row).1.1 v ∧ gI (rows.getD b.toNat d_ref09_Row).1.1 v ≤ 1073741824 := fun hc => by
      simp only [Bool.and_eq_true, Bool.not_eq_true', decide_eq_false_iff_not] at hc
      rcases hb with hb | hb
      · omega
      · exact ⟨hb.1, hgb (by omega)⟩
    refine ⟨g1.1, fun _ => ⟨by omega, by omega⟩, fun hc => (g2 hc).1, fun hc => (g2 hc).2.1, fun hc => (g2 hc).1, fun hc => (g2 hc).2.1, fun hc => ?_, ?_⟩
    · have := (g2 hc).2.2; exact ⟨by omega, by omega⟩
    refine (?_ : (((r.2.1 && (gI r.1.1 v != 0)) && (decide (b < 0) || decide (absI (gI r.1.1 v) < absI (gI (rows.getD b.toNat d_ref09_Row).1.1 v)))) = true → _) ∧ (((r.2.1 && (gI r.1.1 v != 0)) && (decide (b < 0) || decide (absI (gI r.1.1 v) < absI (gI (rows.getD b.toNat d_ref09_Row).1.1 v)))) = false → _))
    have hcond : ((r.2.1 && (gI r.1.1 v != 0)) && (decide (b < 0) || decide (absI (gI r.1.1 v) < absI (gI (rows.getD b.toNat d_ref09_Row).1.1 v)))) = ((r.2.1 && (gI r.1.1 v != 0)) && (decide (b < 0) || decide (absI (gI r.1.1 v) < a))) := by
      rcases hb with hb | hb
      · simp [hb]
      · rw [hb.2]
    rw [hcond]
    unfold solveI at hs
    refine ⟨fun hc => ⟨⟨by omega, by omega⟩, n - 1, by omega, k + 1, absI (gI r.1.1 v), by omega, by omega, Or.inr ⟨⟨by omega, by omega⟩, by rw [Int.toNat_natCast, ← hre]⟩, ?_⟩, fun hc => ⟨⟨by omega, by omega⟩, n - 1, by omega, k + 1, a, by omega, by omega, hb, ?_⟩⟩
    · rw [if_pos hc] at hs; rw [hs]; rfl
    · rw [if_neg (by rw [hc]; simp)] at hs; rw [hs]; rfl
  · have hk : k = rows.length := by omega
    subst hk
    rw [List.drop_of_length_le (Nat.le_refl _)] at hs
    have hs : farkas_table_solver.fn t v = b := hs
    have hcs := solver_cases (t := t) (v := v)
    rw [hs] at hcs
    have hWB : rowsB 4611686018427387904 L (wList t v) ∧ (wList t v).length ≤ 1048576 := by
      unfold wList
      rw [hs]
      split
      · rename_i hb0
        rcases hcs with hc | ⟨kk, hkk, hk2, _, _⟩
        · omega
        rw [hk2, Int.toNat_natCast]
        rw [← ht2] at hB
        refine ⟨fun r hr' => ?_, ?_⟩
        · obtain ⟨j, x, hx, hy⟩ := gather_mem _ _ _ hr'
          exact (wEq_ok (k := kk) hv hvL hL (hB.at hkk) j (hB x hx)).2.1 r hy
        · have := gather_len (wEq v kk (t.2.getD kk d_farkas_row)) (wEq_len _ _ _) t.2 0
          omega
      · rw [← ht2] at hB
        exact wIneq_ok hv hvL hL hB (by omega)
    refine ⟨fun x => Nx N (wList t v) x, ⟨fun hb0 => ?_, fun hb0 _ => ?_⟩, ?_⟩
    · rcases hcs with hc | ⟨kk, hkk, rfl, _, _⟩
      · omega
      rw [htl] at hkk
      have hW : wList t v = gather (wEq v kk (t.2.getD kk d_farkas_row)) t.2 0 := by
        unfold wList; rw [hs, if_pos (by omega), Int.toNat_natCast]
      rw [Int.toNat_natCast]
      refine ⟨⟨by omega, by omega⟩, ?_⟩
      rintro e hee
      have he := hrat hkk
      have hge := htg hkk
      have hbe := hgb hkk
      rw [htat hkk] at hW
      rw [htat hkk] at hge
      rw [← hee] at he hge hbe hW
      refine ⟨hbe.1, fun s => s = if gI e.1.1 v < 0 then (-1 : Int) else 1, ⟨fun hn => by rw [if_pos hn], fun hn => by rw [if_neg hn]⟩, ?_⟩
      rintro s rfl
      intro _
      refine ⟨fun n i o => ∃ k : Nat, i = (k : Int) ∧ n + k = rows.length ∧ Nx N (gather (wEq v kk (toF e)) (t.2.take k) 0) o, ⟨rows.length, 0, rfl, rfl, rfl, fun r hr => by cases hr⟩, ?_⟩
      rintro n i o ⟨k, rfl, hn, ho⟩
      refine ⟨fun hi => ?_, fun hi => ?_⟩
      · have hk : k < rows.length := by omega
        have hrk := hrat hk
        have hgk := htg hk
        have hbk := hgb hk
        have hgt := gather_take (wEq v kk (toF e)) d_farkas_row (l := t.2) (k := k) (by omega)
        rw [htat hk] at hgt
        rw [htat hk] at hgk
        have hol := ho.len
        have hgl := gather_len (wEq v kk (toF e)) (wEq_len _ _ _) (t.2.take k) 0
        rw [List.length_take] at hgl
        refine ⟨⟨by omega, hi⟩, ?_⟩
        rintro r hre
        rw [Int.toNat_natCast] at hre
        rw [← hre] at hrk hgt hgk hbk
        refine ⟨fun hkk' => ⟨⟨by omega, by omega⟩, n - 1, by omega, k + 1, by omega, by omega, ?_⟩, fun hkk' => ⟨hbk.1, fun hz => ⟨⟨?_, ?_⟩, ⟨by omega, by omega⟩, n - 1, by omega, k + 1, by omega, by omega, ?_⟩, fun hz => ?_⟩⟩
        · rw [hgt, wEq, if_pos hkk', List.append_nil]; exact ho
        · rw [List.length_singleton]; omega
        · rw [List.length_singleton]; omega
        · rw [hgt, wEq, if_neg hkk', if_pos (by rw [hgk]; exact hz)]
          exact ho.snoc hrk.2.2.symm hrk.1.1
        · have hw := (wEq_ok (k := kk) hv hvL hL ⟨he.1.2, he.2.1⟩ k (r := toF r) ⟨hrk.1.2, hrk.2.1⟩).1
          rw [hge, hgk] at hw
          rw [absI_if]
          have hmx := mix_toF (a := if gI e.1.1 v < 0 then -gI e.1.1 v else gI e.1.1 v) (b := (-(if gI e.1.1 v < 0 then (-1 : Int) else 1)) * gI r.1.1 v) hrk.1.1 hrk.1.2 he.1.2
          have hmb := hw.2.2.2.2.2
          refine ⟨⟨by omega, by omega⟩, ?_, hbk.1, ⟨by omega, by omega⟩, hw, ⟨?_, ?_⟩, ?_⟩
          · split <;> omega
          · rw [List.length_singleton]; omega
          · rw [List.length_singleton]; omega
          · rintro o' rfl
            refine ⟨⟨by omega, by omega⟩, n - 1, by omega, k + 1, by omega, by omega, ?_⟩
            rw [hgt, wEq, if_neg hkk', if_neg (by rw [hgk]; exact hz)]
            rw [hge, hgk]
            exact ho.snoc hmx.1 hmx.2
      · have hk : k = rows.length := by omega
        rw [List.take_of_length_le (by omega), ← hW] at ho
        exact ho
    · have hW : wList t v = wIneq v t.2 := by unfold wList; rw [hs, if_neg hb0]
      rw [hW]
      rw [hW] at hWB
      refine ⟨fun n i o => ∃ k : Nat, i = (k : Int) ∧ n + k = rows.length ∧ Nx N ((t.2.take k).filter (fun r => gI r.2 v == 0)) o, ⟨rows.length, 0, rfl, rfl, rfl, fun r hr => by cases hr⟩, ?_⟩
      rintro n i o ⟨k, rfl, hn, ho⟩
      refine ⟨fun hi => ?_, fun hi _ => ?_⟩
      · have hk : k < rows.length := by omega
        have hrk := hrat hk
        have hgk := htg hk
        have hbk := hgb hk
        rw [htat hk] at hgk
        have htk := take_get d_farkas_row (l := t.2) (k := k) (by omega)
        rw [htat hk] at htk
        have hol := ho.len
        have hfl := List.length_filter_le (fun r : farkas_row => gI r.2 v == 0) (t.2.take k)
        rw [List.length_take] at hfl
        refine ⟨⟨by omega, hi⟩, ?_⟩
        rintro r hre
        rw [Int.toNat_natCast] at hre
        rw [← hre] at hrk htk hgk hbk
        refine ⟨hbk.1, fun hz => ⟨⟨?_, ?_⟩, ⟨by omega, by omega⟩, n - 1, by omega, k + 1, by omega, by omega, ?_⟩, fun hz => ⟨⟨by omega, by omega⟩, n - 1, by omega, k + 1, by omega, by omega, ?_⟩⟩
        · rw [List.length_singleton]; omega
        · rw [List.length_singleton]; omega
        · have hz' : (gI (toF r).2 v == 0) = true := by rw [hgk, hz]; rfl
          rw [htk, List.filter_append]
          simp only [List.filter_cons, List.filter_nil, hz', if_true]
          exact ho.snoc hrk.2.2.symm hrk.1.1
        · have hz' : (gI (toF r).2 v == 0) = false := by rw [hgk]; exact beq_eq_false_iff_ne.2 hz
          rw [htk, List.filter_append]
          simp only [List.filter_cons, List.filter_nil, hz', Bool.false_eq_true, if_false, List.append_nil]
          exact ho
      · have hk : k = rows.length := by omega
        rw [List.take_of_length_le (by omega)] at ho
        generalize hF : t.2.filter (fun r => gI r.2 v == 0) = F at *
        have hFl : F.length ≤ 400 := by
          have := List.length_filter_le (fun r : farkas_row => gI r.2 v == 0) t.2
          rw [hF] at this; omega
        refine ⟨fun n i o => ∃ k : Nat, i = (k : Int) ∧ n + k = rows.length ∧ Nx N (F ++ (t.2.take k).flatMap (fun x => t.2.flatMap fun y => wPair v x y)) o, ⟨rows.length, 0, rfl, rfl, by simpa using ho⟩, ?_⟩
        clear ho
        rintro n i o ⟨k, rfl, hn, ho⟩
        rw [← ht2] at hB
        have hpl : ∀ k, k ≤ rows.length → ((t.2.take k).flatMap (fun x => t.2.flatMap fun y => wPair v x y)).length ≤ 160000 := fun k hk => by
          have := flatMap_len (fun x => t.2.flatMap fun y => wPair v x y) 400 (t.2.take k) fun x hx => by
            have := flatMap_len (fun y => wPair v x y) 1 t.2 fun y hy => (wPair_ok hv hvL hL (hB x (List.mem_of_mem_take hx)) (hB y hy)).2.2
            omega
          rw [List.length_take] at this
          have h3 : 400 * min k t.2.length ≤ 400 * 400 := Nat.mul_le_mul_left _ (by omega)
          omega
        refine ⟨fun hi => ?_, fun hi => ?_⟩
        · have hk : k < rows.length := by omega
          have hlk := hrat hk
          have hgl := htg hk
          have hbl := hgb hk
          rw [htat hk] at hgl
          have hft := flatMap_take (fun x => t.2.flatMap fun y => wPair v x y) d_farkas_row (l := t.2) (k := k) (by omega)
          rw [htat hk] at hft
          refine ⟨⟨by omega, hi⟩, ?_⟩
          rintro l hle
          rw [Int.toNat_natCast] at hle
          rw [← hle] at hlk hft hgl hbl
          generalize hO : F ++ (t.2.take k).flatMap (fun x => t.2.flatMap fun y => wPair v x y) = O at *
          have hOl : O.length ≤ 160400 := by
            rw [← hO, List.length_append]
            have := hpl k (by omega)
            omega
          refine ⟨hbl.1, fun hneg => ⟨⟨by omega, by omega⟩, n - 1, by omega, k + 1, by omega, by omega, ?_⟩, fun hpos _ => ?_⟩
          · have : (t.2.flatMap fun y => wPair v (toF l) y) = [] := by
              rw [List.flatMap_eq_nil_iff]
              intro y _
              unfold wPair
              rw [if_neg (by rw [hgl]; omega)]
            rw [hft, this, List.append_nil, hO]; exact ho
          · refine ⟨fun m i o => ∃ j : Nat, i = (j : Int) ∧ m + j = rows.length ∧ Nx N (O ++ (t.2.take j).flatMap (fun y => wPair v (toF l) y)) o, ⟨rows.length, 0, rfl, rfl, by simpa using ho⟩, ?_⟩
            clear ho
            rintro m i o ⟨j, rfl, hm, ho⟩
            refine ⟨fun hi => ?_, fun hi => ?_⟩
            · have hj : j < rows.length := by omega
              have huk := hrat hj
              have hgu := htg hj
              have hbu := hgb hj
              rw [htat hj] at hgu
              have hft2 := flatMap_take (fun y => wPair v (toF l) y) d_farkas_row (l := t.2) (k := j) (by omega)
              rw [htat hj] at hft2
              refine ⟨⟨by omega, hi⟩, ?_⟩
              rintro u hue
              rw [Int.toNat_natCast] at hue
              rw [← hue] at huk hft2 hgu hbu
              have hw := wPair_ok hv hvL hL (l := toF l) (u := toF u) ⟨hlk.1.2, hlk.2.1⟩ ⟨huk.1.2, huk.2.1⟩
              have hp := hw.1
              rw [hgl, hgu] at hp
              have hmx := mix_toF (a := -(gI u.1.1 v)) (b := gI l.1.1 v) hlk.1.1 hlk.1.2 huk.1.2
              have hlen : ((t.2.take j).flatMap (fun y => wPair v (toF l) y)).length ≤ 400 := by
                have := flatMap_len (fun y => wPair v (toF l) y) 1 (t.2.take j) fun y hy => (wPair_ok hv hvL hL ⟨hlk.1.2, hlk.2.1⟩ (hB y (List.mem_of_mem_take hy))).2.2
                rw [List.length_take] at this
                omega
              have hol := ho.len
              rw [List.length_append] at hol
              have hle1 : l.2.1 = false := by
                rcases hcs with ⟨_, hc⟩ | ⟨kk, hkk, hk2, _⟩
                · cases hl1 : l.2.1 with
                  | false => rfl
                  | true =>
                    have := hc (toF l) (by rw [ht2]; exact List.mem_map.2 ⟨l, by rw [hle]; exact getD_mem _ hk, rfl⟩) hl1
                    rw [hgl] at this; omega
                · omega
              refine ⟨hbu.1, fun hc => ⟨hbu.1, ⟨by omega, by omega⟩, hbl.1, hp, ⟨?_, ?_⟩, ?_⟩, fun hc => ⟨⟨by omega, by omega⟩, m - 1, by omega, j + 1, by omega, by omega, ?_⟩⟩
              · rw [List.length_singleton]; omega
              · rw [List.length_singleton]; omega
              · rintro o' rfl
                refine ⟨⟨by omega, by omega⟩, m - 1, by omega, j + 1, by omega, by omega, ?_⟩
                rw [hft2, wPair, if_pos ⟨by rw [hgl]; omega, by rw [hgu]; exact hc⟩, hgl, hgu, ← List.append_assoc]
                refine ho.snoc ?_ hmx.2
                rw [hmx.1, show (toF l).1 = false from hle1]
              · rw [hft2, wPair, if_neg (by rw [hgu]; omega), List.append_nil]; exact ho
            · have hj : j = rows.length := by omega
              rw [List.take_of_length_le (by omega)] at ho
              refine ⟨⟨by omega, by omega⟩, n - 1, by omega, k + 1, by omega, by omega, ?_⟩
              rw [hft, ← List.append_assoc, hO]; exact ho
        · have hk : k = rows.length := by omega
          rw [List.take_of_length_le (by omega)] at ho
          unfold wIneq
          rw [hF]; exact ho
    · rintro x hx
      intro _
      exact elim_end hx hNL hL hWB.1 hWB.2 (fun y => y = ((farkas_table_kept.fn ((N : Int), []) (wList t v)).1.2.map (ofF N), (farkas_table_kept.fn ((N : Int), []) (wList t v)).2)) rfl

/-! ## Rows that have nothing in common -/
theorem reduced_idem (r : farkas_row) : farkas_row_reduced.fn (farkas_row_reduced.fn r) = farkas_row_reduced.fn r := by
  obtain ⟨g, hg, hr, he⟩ := reduced_mul r
  by_cases h1 : gcdL r.2 > 1
  · have e : farkas_row_reduced.fn r = (r.1, r.2.map fun x => Int.tdiv x (gcdL r.2)) := by unfold farkas_row_reduced.fn farkas_vector_int_by.fn; rw [if_pos h1]
    have hm : r.2 = (r.2.map fun x => Int.tdiv x (gcdL r.2)).map fun x => gcdL r.2 * x := by
      rw [List.map_map]
      refine ((List.map_congr_left (g := id) fun x hx => ?_).trans (List.map_id _)).symm
      have := tdiv_mul (gcdL_dvd hx)
      simp only [Function.comp, id]
      rw [Int.mul_comm]; exact this
    have hq : gcdL (r.2.map fun x => Int.tdiv x (gcdL r.2)) = 1 := by
      have h2 : gcdL ((r.2.map fun x => Int.tdiv x (gcdL r.2)).map fun x => gcdL r.2 * x) = gcdL r.2 * gcdL (r.2.map fun x => Int.tdiv x (gcdL r.2)) := gcdL_scale (by omega) _
      rw [← hm] at h2
      have h3 : gcdL r.2 * gcdL (r.2.map fun x => Int.tdiv x (gcdL r.2)) = gcdL r.2 * 1 := by rw [← h2]; simp
      exact mul_cancel (by omega) h3
    rw [e]
    have : ¬ gcdL (r.2.map fun x => Int.tdiv x (gcdL r.2)) > 1 := by omega
    unfold farkas_row_reduced.fn
    rw [if_neg this]
  · have e : farkas_row_reduced.fn r = r := by unfold farkas_row_reduced.fn; rw [if_neg h1]
    rw [e, e]
theorem first_reduced {p : List api_Cond} {n : Int} : ∀ r ∈ (farkas_first.fn p n).2, farkas_row_reduced.fn r = r := by
  intro r hr
  obtain ⟨j, hj, hy⟩ := gather_at _ d_api_Cond _ _ hr
  rw [Nat.zero_add] at hy
  unfold firstRow at hy
  split at hy
  · cases hy
  · rw [List.mem_singleton] at hy
    have h1 : (1 : Int) ∈ r.2 := by
      rw [hy]
      refine List.mem_append_right _ (List.mem_cons_of_mem _ ?_)
      exact List.mem_iff_getElem.2 ⟨j, by simp [hj], by simp⟩
    have hd := gcdL_dvd h1
    have h0 := gcdL_nonneg r.2
    have := Int.eq_one_of_dvd_one h0 hd
    unfold farkas_row_reduced.fn
    rw [if_neg (by omega)]
theorem dedup_reduced {n : Int} {l : List farkas_row} : ∀ r ∈ dedupR n l, farkas_row_reduced.fn r = r := by
  intro r hr
  have := dedup_all (n := n) (P := fun _ => True) (fun _ _ => trivial) l (fun _ _ => trivial)
  have key : ∀ k, k ≤ l.length → ∀ r ∈ dedupR n (l.take k), farkas_row_reduced.fn r = r := by
    intro k
    induction k with
    | zero => intro _ r hr; simp [dedupR] at hr
    | succ k ih =>
      intro hk r hr
      rw [dedup_step n l k (by omega)] at hr
      unfold addRow at hr
      split at hr
      · exact ih (by omega) r hr
      · rcases List.mem_append.1 hr with e | e
        · exact ih (by omega) r e
        · rw [List.mem_singleton] at e; subst e; exact reduced_idem _
  exact key l.length (Nat.le_refl _) r (by rw [List.take_of_length_le (Nat.le_refl _)]; exact hr)
theorem tables_reduced {p : List api_Cond} {n : Int} (h : farkas_asked.fn p n = 0) (h0 : (farkas_eliminated.fn p n).2 = 0) {j : Nat} (hj : j ≤ n.toNat) : ∀ r ∈ ((farkas_eliminated.fn p n).1.getD j d_farkas_table).2, farkas_row_reduced.fn r = r := by
  obtain ⟨e1, e2, e3, e4⟩ := eliminated_ok h h0
  by_cases e : j = n.toNat
  · subst e; rw [e2]; exact first_reduced
  · obtain ⟨f1, f2⟩ := e4 j (by omega)
    rw [f2, without_list f1]
    exact dedup_reduced
/-- The rows of a table, in the form of the document's answer. -/
theorem rows_ok {N L : Nat} {t : farkas_table} (ht : tabB L t) (htn : t.1 = (N : Int)) (hred : ∀ r ∈ t.2, farkas_row_reduced.fn r = r) :
    (∀ r ∈ t.2.map (ofF N), rowR N L r) ∧ (t.2.map (ofF N)).map toF = t.2 ∧ N + 1 ≤ L := by
  obtain ⟨⟨h1, h2, h3⟩, h4, h5⟩ := ht
  have hN : N < L := by omega
  have hid : (t.2.map (ofF N)).map toF = t.2 := by
    rw [List.map_map]
    exact (List.map_congr_left (g := id) fun r hr => toF_ofF (n := N) (r := r) (by rw [(h5 r hr).1]; exact hN)).trans (List.map_id _)
  refine ⟨fun r hr => ?_, hid, hN⟩
  obtain ⟨y, hy, rfl⟩ := List.mem_map.1 hr
  have hy5 := h5 y hy
  have e := toF_ofF (n := N) (r := y) (by rw [hy5.1]; exact hN)
  refine ⟨⟨ofF_len (by rw [hy5.1]; exact hN), by rw [e]; exact hy5.1⟩, by rw [e]; exact hy5.2, by rw [e]; exact hred y hy⟩
theorem Eliminate_tab {N L : Nat} {t : farkas_table} {v : Nat} (ht : tabB L t) (htn : t.1 = (N : Int)) (hred : ∀ r ∈ t.2, farkas_row_reduced.fn r = r) (hv : v < N) :
    ref09_Eliminate.pre (t.2.map (ofF N)) v ∧ ref09_Eliminate.fn (t.2.map (ofF N)) v = ((farkas_table_without.fn t v).1.2.map (ofF N), (farkas_table_without.fn t v).2) := by
  obtain ⟨h1, h2, h3⟩ := rows_ok ht htn hred
  refine ⟨⟨by omega, N, L, ⟨by omega, h3, ht.1.2.2⟩, by rw [List.length_map]; exact ht.2.1, h1⟩, ?_⟩
  unfold ref09_Eliminate.fn
  rw [h2]
  by_cases hne : t.2.map (ofF N) = []
  · have h0 : t.2 = [] := List.map_eq_nil_iff.1 hne
    have et : t = (t.1, []) := by rw [← h0]
    rw [hne, h0, et]
    rfl
  · rw [nOf_eq (fun r hr => (h1 r hr).1.1) hne, ← htn]
end Go.Proofs.Ytlncingakpelbaa
