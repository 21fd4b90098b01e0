/- Part of a proof that a law of the program holds for every input: the elimination as the document's answer does it is that of the code, in plain Lean. No conditions. -/
import Derived.Test.YtlncingakpelbaaSE1
namespace Go.Proofs.Ytlncingakpelbaa
open Go
set_option linter.unusedVariables false

theorem nOf_eq {rows : List ref09_Row} {N : Nat} (h : ∀ r ∈ rows, r.1.1.length = N) (hne : rows ≠ []) : nOf rows = N := by
  cases rows with
  | nil => exact absurd rfl hne
  | cons r l => exact h r List.mem_cons_self
theorem getD_mapF {rows : List ref09_Row} {k : Nat} (hk : k < rows.length) : (rows.map toF).getD k d_farkas_row = toF (rows.getD k d_ref09_Row) := by
  simp [List.getD_eq_getElem?_getD, hk]
theorem kept1_same {N : Nat} {a b : ref09_Row} (ha : a.1.1.length = N) (hb : b.1.1.length = N) : farkas_table_kept_1.fn (toF b) (toF a).1 (toF a).2 (N : Int) [] = ref09_same.fn a b := by
  unfold farkas_table_kept_1.fn ref09_same.fn
  have e : Int.toNat ((N : Int) + 1) = N + 1 := by omega
  rw [e]
  have ta := toF_take a
  have tb := toF_take b
  rw [ha] at ta
  rw [hb] at tb
  rw [ta, tb]
  show ((b.2.1 == a.2.1) && (b.1.1 ++ [b.1.2] == a.1.1 ++ [a.1.2])) = _
  rw [Bool.eq_iff_iff]
  simp only [Bool.and_eq_true, beq_iff_eq]
  constructor
  · rintro ⟨h1, h2⟩
    obtain ⟨h3, h4⟩ := List.append_inj h2 (by omega)
    exact ⟨⟨h1.symm, by simpa using h4.symm⟩, h3.symm⟩
  · rintro ⟨⟨h1, h2⟩, h3⟩
    rw [h1, h2, h3]; exact ⟨rfl, rfl⟩
theorem addRow_mono (n : Int) (o : List farkas_row) (r : farkas_row) : o.length ≤ (addRow n o r).length := by
  unfold addRow; split
  · exact Nat.le_refl _
  · simp
theorem dedup_mono (n : Int) (l : List farkas_row) : ∀ d k, k + d ≤ l.length → (dedupR n (l.take k)).length ≤ (dedupR n (l.take (k + d))).length
  | 0, k, _ => Nat.le_refl _
  | d + 1, k, h => by
    have := dedup_mono n l d k (by omega)
    rw [← Nat.add_assoc, dedup_step n l (k + d) (by omega)]
    exact Nat.le_trans this (addRow_mono _ _ _)

/-- Rows whose list in the code's form, all reduced, is given. -/
def Nx (N : Nat) (W : List farkas_row) (x : List ref09_Row) : Prop := x.map toF = W.map farkas_row_reduced.fn ∧ ∀ r ∈ x, r.1.1.length = N
theorem Nx.snoc {N : Nat} {W : List farkas_row} {x : List ref09_Row} {w : farkas_row} {r : ref09_Row} (h : Nx N W x) (hr : toF r = farkas_row_reduced.fn w) (hn : r.1.1.length = N) : Nx N (W ++ [w]) (x ++ [r]) := by
  refine ⟨by rw [List.map_append, List.map_append, h.1]; simp [hr], fun y hy => ?_⟩
  rcases List.mem_append.1 hy with e | e
  · exact h.2 y e
  · rw [List.mem_singleton] at e; subst e; exact hn
theorem Nx.len {N : Nat} {W : List farkas_row} {x : List ref09_Row} (h : Nx N W x) : x.length = W.length := by
  have := congrArg List.length h.1
  simpa using this
theorem Nx.get {N : Nat} {W : List farkas_row} {x : List ref09_Row} (h : Nx N W x) {k : Nat} (hk : k < x.length) : toF (x.getD k d_ref09_Row) = farkas_row_reduced.fn (W.getD k d_farkas_row) := by
  have hl := h.len
  have := congrArg (fun l => l.getD k d_farkas_row) h.1
  simp only [List.getD_eq_getElem?_getD, List.getElem?_map] at this ⊢
  rw [List.getElem?_eq_getElem hk, List.getElem?_eq_getElem (by omega)] at this ⊢
  simpa using this
/-- A mixed row is the reduced sum. -/
theorem mix_toF {N L : Nat} {a b : Int} {r s : ref09_Row} (hr : r.1.1.length = N) (hL : (toF r).2.length = L) (hs : (toF s).2.length = L) :
    toF (ref09_mix.fn a r b s) = farkas_row_reduced.fn ((toF r).1, farkas_vector_int_sum.fn (toF r).2 a b (toF s).2) ∧ (ref09_mix.fn a r b s).1.1.length = N := by
  have hlen : (farkas_row_reduced.fn ((toF r).1, farkas_vector_int_sum.fn (toF r).2 a b (toF s).2)).2.length = L := by
    rw [reduced_len]; unfold farkas_vector_int_sum.fn; rw [List.length_zipWith]; omega
  have h1 := toF_len r
  unfold ref09_mix.fn
  refine ⟨?_, ?_⟩
  · rw [hr]; exact toF_ofF (r := farkas_row_reduced.fn ((toF r).1, farkas_vector_int_sum.fn (toF r).2 a b (toF s).2)) (by omega)
  · rw [hr]; exact ofF_len (r := farkas_row_reduced.fn ((toF r).1, farkas_vector_int_sum.fn (toF r).2 a b (toF s).2)) (by omega)

/-- The rows that are left, without doubles, and whether they fit. -/
theorem elim_end {N L : Nat} {W : List farkas_row} {x : List ref09_Row} (hx : Nx N W x) (hN : N + 1 ≤ L) (hL : L ≤ 1048576) (hW : rowsB 4611686018427387904 L W) (hWl : W.length ≤ 1048576) (Q : List ref09_Row × Int → Prop)
    (hQ : Q ((farkas_table_kept.fn ((N : Int), []) W).1.2.map (ofF N), (farkas_table_kept.fn ((N : Int), []) W).2)) :
    ∃ I54 : Nat → Int → List ref09_Row → Prop, (∃ n, I54 n 0 []) ∧ ∀ (n54 : Nat) (x50 : Int) (x51 : List ref09_Row), I54 n54 x50 x51 →
      ((x50 < (x.length : Int)) → ((0 : Int) ≤ x50 ∧ x50 < (x.length : Int)) ∧ ∀ (x55 : ref09_Row), x55 = (x.getD (Int.toNat x50) d_ref09_Row) →
        ∃ I62 : Nat → Bool → Int → Prop, (∃ n, I62 n false (0 : Int)) ∧ ∀ (n62 : Nat) (x58 : Bool) (x59 : Int), I62 n62 x58 x59 →
          ((x59 < (x51.length : Int)) → ((0 : Int) ≤ x59 ∧ x59 < (x51.length : Int)) ∧ (Int.toNat x59 < x51.length) ∧ ∀ (x63 : ref09_Row), x63 = (x51.getD (Int.toNat x59) d_ref09_Row) →
            ((!x58) = true → ref09_same.pre x55 x63) ∧ (-9223372036854775808 ≤ x59 + (1 : Int) ∧ x59 + (1 : Int) ≤ 9223372036854775807) ∧ ∃ m, m < n62 ∧ I62 m (x58 || (ref09_same.fn x55 x63)) (x59 + (1 : Int))) ∧
          ((¬ (x59 < (x51.length : Int))) →
            ((x58 = false) → ((x51.length + [x55].length) * 64 ≤ 140737488355328 ∧ x51.length + [x55].length ≤ 9223372036854775807) ∧
              ((((x51 ++ [x55]).length : Int) > (400 : Int)) → Q (([] : List ref09_Row), 3)) ∧ ((¬ (((x51 ++ [x55]).length : Int) > (400 : Int))) → (-9223372036854775808 ≤ x50 + (1 : Int) ∧ x50 + (1 : Int) ≤ 9223372036854775807) ∧ ∃ m, m < n54 ∧ I54 m (x50 + (1 : Int)) (x51 ++ [x55]))) ∧
            ((x58 = true) → (((x51.length : Int) > (400 : Int)) → Q (([] : List ref09_Row), 3)) ∧ ((¬ ((x51.length : Int) > (400 : Int))) → (-9223372036854775808 ≤ x50 + (1 : Int) ∧ x50 + (1 : Int) ≤ 9223372036854775807) ∧ ∃ m, m < n54 ∧ I54 m (x50 + (1 : Int)) x51)))) ∧
      ((¬ (x50 < (x.length : Int))) →
        ∃ I67 : Nat → Int → Prop, (∃ n, I67 n (0 : Int)) ∧ ∀ (n67 : Nat) (x65 : Int), I67 n67 x65 →
          ((x65 < (x51.length : Int)) → ((0 : Int) ≤ x65 ∧ x65 < (x51.length : Int)) ∧ (Int.toNat x65 < x51.length) ∧ ∀ (x68 : ref09_Row), x68 = (x51.getD (Int.toNat x65) d_ref09_Row) →
            (ref09_Row_numbers.pre x68) ∧ ∀ (x69 : (List Int)), x69 = (ref09_Row_numbers.fn x68) → ∀ (x70 : Int), x70 = (x69.length : Int) → ∀ (_ : x69.length ≤ 9223372036854775807),
            ∃ I74 : Nat → Int → Prop, (∃ n, I74 n (0 : Int)) ∧ ∀ (n74 : Nat) (x72 : Int), I74 n74 x72 →
              ((x72 < x70) → ((0 : Int) ≤ x72 ∧ x72 < (x69.length : Int)) ∧
                ((((decide ((gI x69 x72) < (-1073741824))) || (decide ((gI x69 x72) > (1073741824 : Int)))) = true) → Q (([] : List ref09_Row), 3)) ∧
                ((((decide ((gI x69 x72) < (-1073741824))) || (decide ((gI x69 x72) > (1073741824 : Int)))) = false) → (-9223372036854775808 ≤ x72 + (1 : Int) ∧ x72 + (1 : Int) ≤ 9223372036854775807) ∧ ∃ m, m < n74 ∧ I74 m (x72 + (1 : Int)))) ∧
              ((¬ (x72 < x70)) → (-9223372036854775808 ≤ x65 + (1 : Int) ∧ x65 + (1 : Int) ≤ 9223372036854775807) ∧ ∃ m, m < n67 ∧ I67 m (x65 + (1 : Int)))) ∧
          ((¬ (x65 < (x51.length : Int))) → Q (x51, 0))) := by
  have hxl := hx.len
  unfold farkas_table_kept.fn at hQ
  simp only [] at hQ
  refine ⟨fun n i o => ∃ k : Nat, i = (k : Int) ∧ n + k = x.length ∧ o.length ≤ 400 ∧ o.map toF = dedupR N (W.take k) ∧ ∀ r ∈ o, r.1.1.length = N, ⟨x.length, 0, rfl, rfl, by simp, by simp [dedupR], fun r hr => by cases hr⟩, ?_⟩
  rintro n i o ⟨k, rfl, hn, ho4, ho, hoN⟩
  have hol : (dedupR N (W.take k)).length = o.length := by rw [← ho]; simp
  refine ⟨fun hi => ⟨⟨by omega, hi⟩, ?_⟩, fun hi => ?_⟩
  · have hk : k < x.length := by omega
    rintro r hre
    rw [Int.toNat_natCast] at hre
    have hrN : r.1.1.length = N := by rw [hre]; exact hx.2 _ (getD_mem _ hk)
    have hrW := hx.get hk
    rw [← hre] at hrW
    have hst := dedup_step N W k (by omega)
    rw [← hrW] at hst
    have hmono := dedup_mono N W (W.length - (k + 1)) (k + 1) (by omega)
    rw [show k + 1 + (W.length - (k + 1)) = W.length from by omega, List.take_of_length_le (Nat.le_refl _)] at hmono
    have hcon : slices_ContainsFunc_Sfarkas_row_farkas_row__farkas_table_kept_1.fn (dedupR N (W.take k)) (toF r).1 (toF r).2 N [] = o.any (fun y => ref09_same.fn r y) := by
      unfold slices_ContainsFunc_Sfarkas_row_farkas_row__farkas_table_kept_1.fn
      rw [← ho, List.any_map]
      rw [Bool.eq_iff_iff, List.any_eq_true, List.any_eq_true]
      constructor
      · rintro ⟨y, hy, h⟩
        exact ⟨y, hy, by rw [← kept1_same hrN (hoN y hy)]; exact h⟩
      · rintro ⟨y, hy, h⟩
        exact ⟨y, hy, by rw [← kept1_same hrN (hoN y hy)] at h; exact h⟩
    unfold addRow at hst
    rw [hcon] at hst
    refine ⟨fun m b j => ∃ u : Nat, j = (u : Int) ∧ m + u = o.length ∧ b = (o.take u).any (fun y => ref09_same.fn r y), ⟨o.length, 0, rfl, rfl, rfl⟩, ?_⟩
    rintro m b j ⟨u, rfl, hm, rfl⟩
    refine ⟨fun hj => ?_, fun hj => ?_⟩
    · have hu : u < o.length := by omega
      rw [Int.toNat_natCast]
      refine ⟨⟨by omega, hj⟩, hu, ?_⟩
      rintro y rfl
      refine ⟨fun _ => ?_, ⟨by omega, by omega⟩, m - 1, by omega, u + 1, by omega, by omega, ?_⟩
      · show r.1.1.length = _
        rw [hrN, hoN _ (getD_mem _ hu)]
      · rw [take_get d_ref09_Row hu, List.any_append]; simp only [List.any_cons, List.any_nil, Bool.or_false]
    · have hu : u = o.length := by omega
      subst hu
      rw [List.take_of_length_le (Nat.le_refl _)]
      refine ⟨fun hb => ⟨⟨?_, ?_⟩, fun h4 => ?_, fun h4 => ⟨⟨by omega, by omega⟩, n - 1, by omega, k + 1, by omega, by omega, by omega, ?_, ?_⟩⟩, fun hb => ⟨fun h4 => by omega, fun _ => ⟨⟨by omega, by omega⟩, n - 1, by omega, k + 1, by omega, by omega, ho4, ?_, hoN⟩⟩⟩
      · rw [List.length_singleton]; omega
      · rw [List.length_singleton]; omega
      · rw [hb, if_neg (by simp)] at hst
        have : (dedupR N (W.take (k + 1))).length = o.length + 1 := by rw [hst, List.length_append, hol]; rfl
        rw [List.length_append, List.length_singleton] at h4
        rw [if_pos (by omega)] at hQ
        exact hQ
      · rw [hb, if_neg (by simp)] at hst
        rw [hst, List.map_append, ho]; rfl
      · intro y hy
        rcases List.mem_append.1 hy with e | e
        · exact hoN y e
        · rw [List.mem_singleton] at e; subst e; exact hrN
      · rw [hb, if_pos rfl] at hst
        rw [hst]; exact ho
  · have hk : k = W.length := by omega
    subst hk
    rw [List.take_of_length_le (Nat.le_refl _)] at ho hol
    have hd := (dedup_rows (n := (N : Int)) hW W.length (Nat.le_refl _)).1
    rw [List.take_of_length_le (Nat.le_refl _)] at hd
    rw [if_neg (by omega)] at hQ
    have hback : (dedupR N W).map (ofF N) = o := by
      rw [← ho, List.map_map]
      refine (List.map_congr_left (g := id) fun y hy => ?_).trans (List.map_id _)
      exact ofF_toF (hoN y hy)
    refine ⟨fun m j => ∃ u : Nat, j = (u : Int) ∧ m + u = o.length ∧ (o.take u).any (fun r => (toF r).2.any farkas_table_kept_2.fn) = false, ⟨o.length, 0, rfl, rfl, rfl⟩, ?_⟩
    rintro m j ⟨u, rfl, hm, hu0⟩
    refine ⟨fun hj => ?_, fun hj => ?_⟩
    · have hu : u < o.length := by omega
      rw [Int.toNat_natCast]
      refine ⟨⟨by omega, hj⟩, hu, ?_⟩
      rintro r hre
      have hrm : r ∈ o := by rw [hre]; exact getD_mem _ hu
      have hrd : toF r ∈ dedupR N W := by rw [← ho]; exact List.mem_map.2 ⟨r, hrm, rfl⟩
      have hrl := (hd _ hrd).1
      refine ⟨by show (toF r).2.length ≤ _; omega, ?_⟩
      rintro w hw
      have hw : w = (toF r).2 := hw
      rintro len rfl
      intro _
      refine ⟨fun m2 j2 => ∃ q : Nat, j2 = (q : Int) ∧ m2 + q = w.length ∧ (w.take q).any farkas_table_kept_2.fn = false, ⟨w.length, 0, rfl, rfl, rfl⟩, ?_⟩
      rintro m2 j2 ⟨q, rfl, hm2, hq⟩
      rw [gI_nat]
      refine ⟨fun hj2 => ⟨⟨by omega, hj2⟩, fun hb => ?_, fun hb => ⟨⟨by omega, by omega⟩, m2 - 1, by omega, q + 1, by omega, by omega, ?_⟩⟩, fun hj2 => ⟨⟨by omega, by omega⟩, m - 1, by omega, u + 1, by omega, by omega, ?_⟩⟩
      · have hq' : q < w.length := by omega
        rw [if_pos] at hQ
        · exact hQ
        · exact List.any_eq_true.2 ⟨toF r, hrd, List.any_eq_true.2 ⟨w.getD q 0, by rw [← hw]; exact getD_mem 0 hq', hb⟩⟩
      · have hq' : q < w.length := by omega
        rw [take_get 0 hq', List.any_append, hq]
        simp only [List.any_cons, List.any_nil, Bool.or_false, Bool.false_or]
        exact hb
      · have hq' : q = w.length := by omega
        subst hq'
        rw [List.take_of_length_le (Nat.le_refl _)] at hq
        rw [take_get d_ref09_Row hu, List.any_append, hu0, ← hre]
        simp only [List.any_cons, List.any_nil, Bool.or_false, Bool.false_or]
        rw [← hw]; exact hq
    · have hu : u = o.length := by omega
      subst hu
      rw [List.take_of_length_le (Nat.le_refl _)] at hu0
      rw [if_neg] at hQ
      · rw [← hback]; exact hQ
      · rw [← ho, List.any_map]
        intro h
        have : (o.any fun r => (toF r).2.any farkas_table_kept_2.fn) = true := h
        rw [hu0] at this; cases this
end Go.Proofs.Ytlncingakpelbaa
