/- Part of a proof that a law of the program holds for every input: what the functions on rows answer, in plain Lean. No conditions. -/
import Derived.Test.YtlncingakpelbaaS
namespace Go.Proofs.Ytlncingakpelbaa
open Go
set_option linter.unusedVariables false

/-! ## Lists made place by place -/
theorem map_set_step {α : Type} (f : Int → Int) (l : List Int) (k : Nat) (hk : k < l.length) :
    ((l.take k).map f ++ l.drop k).set k (f (l.getD k 0)) = (l.take (k + 1)).map f ++ l.drop (k + 1) := by
  have h1 : ((l.take k).map f).length = k := by rw [List.length_map, List.length_take]; omega
  rw [List.set_append_right _ _ (by omega), h1, Nat.sub_self, drop_get 0 hk, List.set_cons_zero, take_get 0 hk, List.map_append]
  simp
theorem map_get_step (f : Int → Int) (l : List Int) (k : Nat) (hk : k < l.length) : ((l.take k).map f ++ l.drop k).getD k 0 = l.getD k 0 := by
  have h1 : ((l.take k).map f).length = k := by rw [List.length_map, List.length_take]; omega
  simp only [List.getD_eq_getElem?_getD]
  rw [List.getElem?_append_right (by omega), h1, Nat.sub_self, List.getElem?_drop]; simp
theorem len_step {α : Type} (f : α → α) (l : List α) (k : Nat) : ((l.take k).map f ++ l.drop k).length = l.length := by
  rw [List.length_append, List.length_map, List.length_take, List.length_drop]; omega

theorem tdiv_bound {x g B : Int} (hg : 1 ≤ g) (hx : -B ≤ x ∧ x ≤ B) : -B ≤ Int.tdiv x g ∧ Int.tdiv x g ≤ B := by
  have h := Int.natAbs_tdiv x g
  have h2 : x.natAbs / g.natAbs ≤ x.natAbs := Nat.div_le_self _ _
  have h3 : (Int.tdiv x g).natAbs ≤ x.natAbs := by rw [h]; exact h2
  omega

theorem farkas_vector_int_by.spec (v : List Int) (g : Int) (h : farkas_vector_int_by.pre v g) : farkas_vector_int_by.wp v g (fun x => x = farkas_vector_int_by.fn v g) := by
  obtain ⟨hg, hl, hv⟩ := h
  refine ⟨⟨by omega, by omega, by omega, by omega⟩, ?_⟩
  rintro x rfl
  intro _
  rintro y hy
  have hy' : y = v := by
    rw [hy, List.length_replicate, Int.toNat_natCast, Nat.min_self, List.take_of_length_le (Nat.le_refl _), List.drop_of_length_le (by rw [List.length_replicate]; omega), List.append_nil]
  subst hy'
  clear hy
  refine ⟨fun n i o => ∃ k : Nat, i = (k : Int) ∧ n + k = y.length ∧ o = (y.take k).map (fun x => Int.tdiv x g) ++ y.drop k, ⟨y.length, 0, rfl, rfl, by simp⟩, ?_⟩
  rintro n i o ⟨k, rfl, hn, rfl⟩
  rw [len_step, Int.toNat_natCast]
  refine ⟨fun hi => ?_, fun hi => ?_⟩
  · have hk : k < y.length := by omega
    rw [map_get_step _ _ _ hk]
    have := tdiv_bound hg (hv _ (getD_mem 0 hk))
    refine ⟨⟨by omega, hi⟩, hk, ⟨by omega, by omega, by omega⟩, ⟨by omega, hi⟩, hk, ?_⟩
    rintro z rfl
    exact ⟨⟨by omega, by omega⟩, n - 1, by omega, k + 1, by omega, by omega, map_set_step (α := Int) _ _ _ hk⟩
  · have hk : k = y.length := by omega
    subst hk
    simp [farkas_vector_int_by.fn]

theorem num_common.spec (a b : Int) (h : num_common.pre a b) : num_common.wp a b (fun x => x = num_common.fn a b) := by
  obtain ⟨ha, hb⟩ := h
  refine ⟨fun n x y => ∃ p q : Nat, x = (p : Int) ∧ y = (q : Int) ∧ n = q ∧ Nat.gcd p q = Nat.gcd a.natAbs b.natAbs, ⟨b.natAbs, a.natAbs, b.natAbs, by omega, by omega, rfl, rfl⟩, ?_⟩
  rintro n x y ⟨p, q, rfl, rfl, hn, hg⟩
  refine ⟨fun hq => ⟨by omega, p % q, by rw [hn]; exact Nat.mod_lt _ (by omega), q, p % q, rfl, (Int.ofNat_tmod p q).symm, rfl, ?_⟩, fun hq => ?_⟩
  · rw [Nat.gcd_comm q, ← Nat.gcd_rec, Nat.gcd_comm]; exact hg
  · have : q = 0 := by omega
    subst this
    rw [Nat.gcd_zero_right] at hg
    rw [hg]; rfl

theorem num_size.spec (a : Int) (h : num_size.pre a) : num_size.wp a (fun x => x = num_size.fn a) := by
  have ha : i64 a := h
  simp only [i64] at ha
  unfold num_size.wp num_size.fn
  simp only [wrap_u64]
  refine ⟨fun h => ?_, fun h => by omega⟩
  rintro x rfl
  omega
theorem farkas_size.spec (a : Int) (h : farkas_size.pre a) : farkas_size.wp a (fun x => x = farkas_size.fn a) := by
  have ha : i64 a := h
  simp only [i64] at ha
  unfold farkas_size.wp farkas_size.fn
  simp only [wrap_u64]
  refine ⟨fun h => ?_, fun h => by omega⟩
  rintro x rfl
  omega

theorem num_Gcd_1.spec (a b : Int) (h : num_Gcd_1.pre a b) : num_Gcd_1.wp a b (fun x => x = num_Gcd_1.fn a b) := by
  obtain ⟨ha, hb⟩ := h
  refine ⟨hb, ⟨ha, by unfold num_size.fn; omega⟩, ?_⟩
  rintro x rfl
  rintro y rfl
  rfl
theorem num_Gcd_1.nonneg (a b : Int) : 0 ≤ num_Gcd_1.fn a b := by unfold num_Gcd_1.fn; omega

theorem num_fold_uint64__num_Gcd_1.spec (l : List Int) (a : Int) (h : num_fold_uint64__num_Gcd_1.pre l a) : num_fold_uint64__num_Gcd_1.wp l a (fun x => x = num_fold_uint64__num_Gcd_1.fn l a) := by
  obtain ⟨ha, hl⟩ := h
  intro _
  refine ⟨fun n x i => ∃ k : Nat, i = (k : Int) ∧ n + k = l.length ∧ 0 ≤ x ∧ x = (l.take k).foldl num_Gcd_1.fn a, ⟨l.length, 0, rfl, rfl, ha, rfl⟩, ?_⟩
  rintro n x i ⟨k, rfl, hn, hx0, hx⟩
  refine ⟨fun hi => ?_, fun hi => ?_⟩
  · have hk : k < l.length := by omega
    rw [gI_nat]
    refine ⟨⟨by omega, hi⟩, ⟨hx0, hl _ (getD_mem 0 hk)⟩, ?_⟩
    rintro y rfl
    refine ⟨⟨by omega, by omega⟩, n - 1, by omega, k + 1, by omega, by omega, num_Gcd_1.nonneg _ _, ?_⟩
    rw [take_get 0 hk, List.foldl_append, hx]; rfl
  · have hk : k = l.length := by omega
    subst hk
    rw [List.take_of_length_le (Nat.le_refl _)] at hx
    exact hx

theorem num_Gcd.spec (l : List Int) (h : num_Gcd.pre l) : num_Gcd.wp l (fun x => x = num_Gcd.fn l) := by
  refine ⟨⟨Int.le_refl 0, h⟩, ?_⟩
  rintro x rfl
  have e : num_fold_uint64__num_Gcd_1.fn l 0 = gcdL l := rfl
  rw [e]
  have h0 : 0 ≤ gcdL l := by
    have : ∀ (l : List Int) (a : Int), 0 ≤ a → 0 ≤ l.foldl num_Gcd_1.fn a := by
      intro l
      induction l with
      | nil => exact fun a h => h
      | cons x l ih => exact fun a h => ih _ (num_Gcd_1.nonneg _ _)
    exact this l 0 (Int.le_refl 0)
  unfold num_Gcd.fn
  refine ⟨fun h => by rw [if_pos h], fun h => ⟨⟨by omega, by omega⟩, by rw [if_neg h]⟩⟩

/-! ## What numbers have in common -/
theorem foldl_gcd_dvd : ∀ (l : List Int) (a : Int), l.foldl num_Gcd_1.fn a ∣ a ∧ ∀ x ∈ l, l.foldl num_Gcd_1.fn a ∣ x
  | [], a => ⟨Int.dvd_refl a, fun x hx => by cases hx⟩
  | y :: l, a => by
    obtain ⟨h1, h2⟩ := foldl_gcd_dvd l (num_Gcd_1.fn a y)
    have d1 : num_Gcd_1.fn a y ∣ a := Int.ofNat_dvd_left.2 (Nat.gcd_dvd_left _ _)
    have d2 : num_Gcd_1.fn a y ∣ y := Int.ofNat_dvd_left.2 (Nat.gcd_dvd_right _ _)
    refine ⟨Int.dvd_trans h1 d1, fun x hx => ?_⟩
    rcases List.mem_cons.1 hx with e | e
    · subst e; exact Int.dvd_trans h1 d2
    · exact h2 x e
theorem gcdL_dvd {l : List Int} {x : Int} (h : x ∈ l) : gcdL l ∣ x := (foldl_gcd_dvd l 0).2 x h
theorem gcdL_nonneg (l : List Int) : 0 ≤ gcdL l := by
  have : ∀ (l : List Int) (a : Int), 0 ≤ a → 0 ≤ l.foldl num_Gcd_1.fn a := by
    intro l
    induction l with
    | nil => exact fun a h => h
    | cons x l ih => exact fun a h => ih _ (num_Gcd_1.nonneg _ _)
  exact this l 0 (Int.le_refl 0)
/-- Whatever divides all numbers divides what they have in common. -/
theorem dvd_gcdL {l : List Int} {d : Int} (h : ∀ x ∈ l, d ∣ x) : d ∣ gcdL l := by
  have : ∀ (l : List Int) (a : Int), d ∣ a → (∀ x ∈ l, d ∣ x) → d ∣ l.foldl num_Gcd_1.fn a := by
    intro l
    induction l with
    | nil => exact fun a h _ => h
    | cons y l ih =>
      refine fun a ha hl => ih _ ?_ fun x hx => hl x (List.mem_cons_of_mem _ hx)
      have h1 : d.natAbs ∣ a.natAbs := Int.natAbs_dvd_natAbs.2 ha
      have h2 : d.natAbs ∣ y.natAbs := Int.natAbs_dvd_natAbs.2 (hl y List.mem_cons_self)
      have := Nat.dvd_gcd h1 h2
      unfold num_Gcd_1.fn
      exact Int.natAbs_dvd.1 (Int.ofNat_dvd.2 this)
  exact this l 0 ⟨0, by simp⟩ h
theorem gcdL_bound {l : List Int} {B : Int} (h0 : 0 ≤ B) (h : inB B l) : gcdL l ≤ B := by
  by_cases hz : ∃ x ∈ l, x ≠ 0
  · obtain ⟨x, hx, hne⟩ := hz
    have hd := gcdL_dvd hx
    have hb := h x hx
    have := Int.le_of_dvd (b := (x.natAbs : Int)) (by omega) (Int.dvd_natAbs.2 hd)
    omega
  · have : gcdL l = 0 := by
      have hd : ∀ x ∈ l, (0 : Int) ∣ x := fun x hx => by
        have : x = 0 := Classical.byContradiction fun e => hz ⟨x, hx, e⟩
        rw [this]; exact Int.dvd_refl 0
      exact Int.zero_dvd.1 (dvd_gcdL hd)
    omega
theorem gcdL_fn {l : List Int} (h : inB 4611686018427387904 l) : num_Gcd.fn l = (gcdL l, 0) := by
  have := gcdL_bound (by decide) h
  unfold num_Gcd.fn; rw [if_neg (by omega)]
theorem inB.i64 {B : Int} {l : List Int} (h : inB B l) (hB : B ≤ 4611686018427387904) : ∀ x ∈ l, i64 x := fun x hx => by
  have := h x hx
  exact ⟨by omega, by omega⟩
theorem inB.mono {A B : Int} {l : List Int} (h : inB A l) (hB : A ≤ B) : inB B l := fun x hx => by
  have := h x hx
  exact ⟨by omega, by omega⟩

theorem farkas_row_reduced.spec (r : farkas_row) (h : farkas_row_reduced.pre r) : farkas_row_reduced.wp r (fun x => x = farkas_row_reduced.fn r) := by
  obtain ⟨hl, hv⟩ := h
  refine ⟨inB.i64 hv (by decide), ?_⟩
  rintro x rfl
  rw [gcdL_fn hv]
  unfold farkas_row_reduced.fn
  refine ⟨fun h => ⟨⟨by omega, hl, hv⟩, ?_⟩, fun h => by rw [if_neg h]⟩
  rintro y rfl
  rw [if_pos h]
theorem reduced_len (r : farkas_row) : (farkas_row_reduced.fn r).2.length = r.2.length := by
  unfold farkas_row_reduced.fn; split
  · exact List.length_map ..
  · rfl
theorem reduced_inB {B : Int} {r : farkas_row} (h : inB B r.2) : inB B (farkas_row_reduced.fn r).2 := by
  unfold farkas_row_reduced.fn; split
  · rename_i hg
    intro x hx
    obtain ⟨y, hy, rfl⟩ := List.mem_map.1 hx
    exact tdiv_bound (by omega) (h y hy)
  · exact h

theorem slices_Equal_farkas_vector_int_int.spec (a b : List Int) : slices_Equal_farkas_vector_int_int.wp a b (fun x => x = slices_Equal_farkas_vector_int_int.fn a b) := by
  unfold slices_Equal_farkas_vector_int_int.wp slices_Equal_farkas_vector_int_int.fn
  intro _ _
  refine ⟨fun h => ?_, fun h _ => ?_⟩
  · refine (beq_eq_false_iff_ne.2 fun e => h (by rw [e])).symm
  · have hlen : a.length = b.length := by omega
    refine ⟨fun n i => ∃ k : Nat, i = (k : Int) ∧ n + k = a.length ∧ a.take k = b.take k, ⟨a.length, 0, rfl, rfl, rfl⟩, ?_⟩
    rintro n i ⟨k, rfl, hn, ht⟩
    rw [gI_nat, gI_nat]
    refine ⟨fun hi => ⟨⟨by omega, hi⟩, ⟨by omega, by omega⟩, fun hne => ?_, fun heq => ⟨⟨by omega, by omega⟩, n - 1, by omega, k + 1, by omega, by omega, ?_⟩⟩, fun hi => ?_⟩
    · exact (beq_eq_false_iff_ne.2 fun e => hne (by rw [e])).symm
    · rw [take_get 0 (by omega), take_get 0 (by omega), ht, heq]
    · rw [List.take_of_length_le (by omega), List.take_of_length_le (by omega)] at ht
      rw [ht]; exact (beq_self_eq_true b).symm

theorem farkas_table_kept_1.spec (o : farkas_row) (eq : Bool) (v : List Int) (n : Int) (rows : List farkas_row) (h : farkas_table_kept_1.pre o eq v n rows) : farkas_table_kept_1.wp o eq v n rows (fun x => x = farkas_table_kept_1.fn o eq v n rows) := by
  obtain ⟨h1, h2, h3, h4⟩ := h
  unfold farkas_table_kept_1.wp
  refine ⟨fun _ => ⟨by omega, by omega⟩, fun _ => ⟨by omega, by omega⟩, fun _ => ⟨by omega, by omega⟩, fun _ => ⟨by omega, by omega⟩, rfl⟩
theorem slices_IndexFunc_Sfarkas_row_farkas_row__farkas_table_kept_1.spec (l : List farkas_row) (eq : Bool) (v : List Int) (n : Int) (rows : List farkas_row) (h : slices_IndexFunc_Sfarkas_row_farkas_row__farkas_table_kept_1.pre l eq v n rows) : slices_IndexFunc_Sfarkas_row_farkas_row__farkas_table_kept_1.wp l eq v n rows (fun x => x = slices_IndexFunc_Sfarkas_row_farkas_row__farkas_table_kept_1.fn l eq v n rows) := by
  intro hl
  obtain ⟨I, h0, hI⟩ := idx_wp (fun o => farkas_table_kept_1.fn o eq v n rows) d_farkas_row l hl (fun x => x = slices_IndexFunc_Sfarkas_row_farkas_row__farkas_table_kept_1.fn l eq v n rows) rfl
  refine ⟨I, h0, fun m x hx => ⟨fun hi => ?_, (hI m x hx).2⟩⟩
  have := (hI m x hx).1 hi
  exact ⟨this.1, h _ (getD_mem _ (by have := this.1; omega)), this.2⟩
theorem slices_ContainsFunc_Sfarkas_row_farkas_row__farkas_table_kept_1.spec (l : List farkas_row) (eq : Bool) (v : List Int) (n : Int) (rows : List farkas_row) (h : slices_ContainsFunc_Sfarkas_row_farkas_row__farkas_table_kept_1.pre l eq v n rows) : slices_ContainsFunc_Sfarkas_row_farkas_row__farkas_table_kept_1.wp l eq v n rows (fun x => x = slices_ContainsFunc_Sfarkas_row_farkas_row__farkas_table_kept_1.fn l eq v n rows) := by
  refine ⟨h, ?_⟩; rintro x rfl; exact idxI_ge _ l 0 (Int.le_refl 0)
theorem farkas_table_kept_2.spec (x : Int) : farkas_table_kept_2.wp x (fun y => y = farkas_table_kept_2.fn x) := rfl
theorem slices_IndexFunc_farkas_vector_int_int__farkas_table_kept_2.spec (l : List Int) : slices_IndexFunc_farkas_vector_int_int__farkas_table_kept_2.wp l (fun x => x = slices_IndexFunc_farkas_vector_int_int__farkas_table_kept_2.fn l) :=
  fun hl => idx_wp farkas_table_kept_2.fn 0 l hl _ rfl
theorem slices_ContainsFunc_farkas_vector_int_int__farkas_table_kept_2.spec (l : List Int) : slices_ContainsFunc_farkas_vector_int_int__farkas_table_kept_2.wp l (fun x => x = slices_ContainsFunc_farkas_vector_int_int__farkas_table_kept_2.fn l) := by
  rintro x rfl; exact idxI_ge _ l 0 (Int.le_refl 0)

/-! ## The rows kept -/
theorem addRow_rows {B : Int} {L : Nat} {n : Int} {out : List farkas_row} {r : farkas_row} (ho : rowsB B L out) (hr : r.2.length = L ∧ inB B r.2) : rowsB B L (addRow n out r) := by
  unfold addRow
  split
  · exact ho
  · intro x hx
    rcases List.mem_append.1 hx with e | e
    · exact ho x e
    · rw [List.mem_singleton] at e; subst e; exact hr
theorem addRow_len (n : Int) (out : List farkas_row) (r : farkas_row) : (addRow n out r).length ≤ out.length + 1 := by
  unfold addRow; split
  · omega
  · simp
theorem dedup_step (n : Int) (l : List farkas_row) (k : Nat) (hk : k < l.length) : dedupR n (l.take (k + 1)) = addRow n (dedupR n (l.take k)) (farkas_row_reduced.fn (l.getD k d_farkas_row)) := by
  unfold dedupR; rw [take_get d_farkas_row hk, List.foldl_append]; rfl
theorem dedup_rows {B : Int} {L : Nat} {n : Int} {l : List farkas_row} (h : rowsB B L l) : ∀ k, k ≤ l.length → rowsB B L (dedupR n (l.take k)) ∧ (dedupR n (l.take k)).length ≤ k
  | 0, _ => ⟨fun r hr => by simp [dedupR] at hr, by simp [dedupR]⟩
  | k + 1, hk => by
    obtain ⟨h1, h2⟩ := dedup_rows (n := n) h k (by omega)
    rw [dedup_step n l k (by omega)]
    have hr := h _ (getD_mem d_farkas_row (by omega : k < l.length))
    refine ⟨addRow_rows h1 ⟨by rw [reduced_len]; exact hr.1, reduced_inB hr.2⟩, ?_⟩
    have := addRow_len n (dedupR n (l.take k)) (farkas_row_reduced.fn (l.getD k d_farkas_row))
    omega

theorem farkas_table_kept.spec (t : farkas_table) (l : List farkas_row) (h : farkas_table_kept.pre t l) : farkas_table_kept.wp t l (fun x => x = farkas_table_kept.fn t l) := by
  obtain ⟨ht, hl, L, hL1, hL2, hr⟩ := h
  intro _
  refine ⟨fun n i o => ∃ k : Nat, i = (k : Int) ∧ n + k = l.length ∧ o = dedupR t.1 (l.take k), ⟨l.length, 0, rfl, rfl, rfl⟩, ?_⟩
  rintro n i o ⟨k, rfl, hn, rfl⟩
  obtain ⟨d1, d2⟩ := dedup_rows (n := t.1) hr k (by omega)
  refine ⟨fun hi => ?_, fun hi => ?_⟩
  · have hk : k < l.length := by omega
    have hrk := hr _ (getD_mem d_farkas_row hk)
    have hst := dedup_step t.1 l k hk
    refine ⟨⟨by omega, hi⟩, ?_⟩
    rintro r rfl
    simp only [Int.toNat_natCast]
    refine ⟨⟨by omega, hrk.2⟩, ?_⟩
    rintro r rfl
    refine ⟨fun o ho => ⟨ht, by omega, by rw [(d1 o ho).1]; omega, by rw [reduced_len, hrk.1]; omega⟩, fun hc => ?_, fun hc => ?_⟩
    · refine ⟨⟨?_, ?_⟩, ⟨by omega, by omega⟩, n - 1, by omega, k + 1, by omega, by omega, ?_⟩
      · rw [List.length_singleton]; omega
      · rw [List.length_singleton]; omega
      · rw [hst, addRow, if_neg]
        have hc' : slices_ContainsFunc_Sfarkas_row_farkas_row__farkas_table_kept_1.fn (dedupR t.1 (l.take k)) (farkas_row_reduced.fn (l.getD k d_farkas_row)).1 (farkas_row_reduced.fn (l.getD k d_farkas_row)).2 t.1 [] = false := hc
        rw [hc']; simp
    · refine ⟨⟨by omega, by omega⟩, n - 1, by omega, k + 1, by omega, by omega, ?_⟩
      rw [hst, addRow, if_pos (show slices_ContainsFunc_Sfarkas_row_farkas_row__farkas_table_kept_1.fn (dedupR t.1 (l.take k)) (farkas_row_reduced.fn (l.getD k d_farkas_row)).1 (farkas_row_reduced.fn (l.getD k d_farkas_row)).2 t.1 [] = true from hc)]
  · have hk : k = l.length := by omega
    subst hk
    rw [List.take_of_length_le (Nat.le_refl _)] at d1 d2 ⊢
    unfold farkas_table_kept.fn
    refine ⟨fun h4 => by rw [if_pos h4], fun h4 => ?_⟩
    rw [if_neg h4]
    obtain ⟨I, h0, hI⟩ := scan_wp (fun r : farkas_row => !(r.2.any farkas_table_kept_2.fn)) d_farkas_row (dedupR t.1 l) (by omega) (((0, ([] : List farkas_row)), (3 : Int)) = if (dedupR t.1 l).any (fun r => r.2.any farkas_table_kept_2.fn) = true then ((0, []), 3) else ((t.1, dedupR t.1 l), 0))
      (((t.1, dedupR t.1 l), (0 : Int)) = if (dedupR t.1 l).any (fun r => r.2.any farkas_table_kept_2.fn) = true then ((0, []), 3) else ((t.1, dedupR t.1 l), 0))
      (fun h => by
        rw [if_pos]
        obtain ⟨x, hx, hx2⟩ := List.all_eq_false.1 h
        exact List.any_eq_true.2 ⟨x, hx, by simpa using hx2⟩)
      (fun h => by
        rw [if_neg]
        intro ha
        obtain ⟨x, hx, hx2⟩ := List.any_eq_true.1 ha
        have := List.all_eq_true.1 h x hx
        rw [hx2] at this; cases this)
    refine ⟨I, h0, fun m x hx => ⟨fun hi => ?_, (hI m x hx).2⟩⟩
    obtain ⟨a1, a2, a3⟩ := (hI m x hx).1 hi
    refine ⟨a1, by omega, ?_⟩
    rintro r rfl
    exact ⟨fun h => a2 (by rw [show ((dedupR t.1 l).getD x.toNat d_farkas_row).2.any farkas_table_kept_2.fn = true from h]; rfl), fun h => a3 (by rw [show ((dedupR t.1 l).getD x.toNat d_farkas_row).2.any farkas_table_kept_2.fn = false from h]; rfl)⟩
/-- What is kept is small. -/
theorem kept_ok {t : farkas_table} {l : List farkas_row} (h : farkas_table_kept.pre t l) (L : Nat) (hL : t.1 + 1 ≤ (L : Int) ∧ L ≤ 1048576) (hr : rowsB 4611686018427387904 L l) (h0 : (farkas_table_kept.fn t l).2 = 0) :
    (farkas_table_kept.fn t l).1 = (t.1, dedupR t.1 l) ∧ tabB L (t.1, dedupR t.1 l) := by
  have hd := (dedup_rows (n := t.1) hr l.length (Nat.le_refl _)).1
  rw [List.take_of_length_le (Nat.le_refl _)] at hd
  unfold farkas_table_kept.fn at h0 ⊢
  split at h0
  · simp at h0
  · rename_i h4
    split at h0
    · simp at h0
    · rename_i hb
      rw [if_neg h4, if_neg hb]
      refine ⟨rfl, ⟨h.1, hL.1, hL.2⟩, by simp only []; omega, fun r hr' => ⟨(hd r hr').1, fun x hx => ?_⟩⟩
      by_cases hx2 : farkas_table_kept_2.fn x = true
      · exact absurd (List.any_eq_true.2 ⟨r, hr', List.any_eq_true.2 ⟨x, hx, hx2⟩⟩) hb
      · simp only [farkas_table_kept_2.fn, Bool.or_eq_true, decide_eq_true_eq, not_or] at hx2
        omega
end Go.Proofs.Ytlncingakpelbaa
