/- Part of a proof that the law FarkasProves of the program holds for every input: what the functions answer, in plain Lean. No conditions. -/
import Derived.Test.YtlncingakpelbaaP02
namespace Go.Proofs.Ytlncingakpelbaa
open Go
set_option linter.unusedVariables false

/-! ## Digits -/
theorem vl_take (l : List Int) (k : Nat) : vl (l.take (k + 1)) = vl (l.take k) + 65536 ^ k * l.getD k 0 := by
  by_cases hk : k < l.length
  · rw [take_get 0 hk,vl_append,List.length_take,Nat.min_eq_left (Nat.le_of_lt hk)];simp [vl]
  · rw [List.take_of_length_le (by omega),List.take_of_length_le (by omega),getD_ge (by omega)];simp
theorem dig_getD {l : List Int} (h : dig l) (k : Nat) : 0 ≤ l.getD k 0 ∧ l.getD k 0 < 65536 := by
  by_cases hk : k < l.length
  · exact h _ (getD_mem 0 hk)
  · rw [getD_ge (by omega)];omega

theorem take_last {l : List Int} (h : l ≠ []) : l = l.take (l.length - 1) ++ [l.getD (l.length - 1) 0] := by
  have hp : 0 < l.length := List.length_pos_iff.2 h
  rw [← take_get 0 (by omega : l.length - 1 < l.length),List.take_of_length_le (by omega)]
theorem gI_last {l : List Int} (h : l ≠ []) : gI l ((l.length : Int) - 1) = l.getD (l.length - 1) 0 := by
  have hp : 0 < l.length := List.length_pos_iff.2 h
  have : ((l.length : Int) - 1) = ((l.length - 1 : Nat) : Int) := by omega
  rw [this,gI_nat]
theorem ref09_trim.spec (d : List Int) (h : ref09_trim.pre d) : ref09_trim.wp d (fun x => x = ref09_trim.fn d) := by
  obtain ⟨hd,hlen⟩ := h
  refine ⟨fun n x => n = x.length ∧ x.length ≤ d.length ∧ vl x = vl d ∧ dig x,⟨_,rfl,Nat.le_refl _,rfl,hd⟩,?_⟩
  rintro n x ⟨hn,hle,hv,hx⟩
  refine ⟨fun h => ⟨by omega,by omega⟩,fun h => ?_,fun hl => ⟨fun h => ?_,fun h => ?_⟩⟩
  · simp only [decide_eq_true_eq] at h;omega
  · simp only [Bool.and_eq_true,decide_eq_true_eq,beq_iff_eq] at h
    have hne : x ≠ [] := fun e => by subst e;simp at h
    rw [gI_last hne] at h
    refine ⟨⟨by omega,by omega⟩,⟨by omega,by omega⟩,n - 1,by omega,?_⟩
    have e : Int.toNat ((x.length : Int) - 1) = x.length - 1 := by omega
    have ht := take_last hne
    rw [h.2] at ht
    rw [e]
    refine ⟨by rw [List.length_take];omega,by rw [List.length_take];omega,?_,dig_sub hx fun a ha => List.mem_of_mem_take ha⟩
    rw [← vl_snoc0,← ht,hv]
  · show x = dz (vl d)
    rw [← hv]
    refine (dg_of hx ?_).symm
    by_cases hne : x = []
    · exact Or.inl hne
    · right
      rw [gI_last hne] at h
      have hp : 0 < x.length := List.length_pos_iff.2 hne
      rw [take_last hne,List.getLast?_append]
      simp only [Bool.and_eq_false_iff,decide_eq_false_iff_not,beq_eq_false_iff_ne] at h
      rcases h with h | h
      · omega
      · simpa using h

theorem ref09_minus.spec (a b : List Int) (h : ref09_minus.pre a b) : ref09_minus.wp a b (fun x => x = ref09_minus.fn a b) := by
  obtain ⟨⟨ha,hb⟩,hl,hlb,hle⟩ := h
  intro _
  refine ⟨fun n c x o => ∃ k : Nat,x = (k : Int) ∧ n + k = a.length ∧ o.length = k ∧ dig o ∧ (c = 0 ∨ c = 1) ∧ vl o = vl (a.take k) - vl (b.take k) + c * 65536 ^ k,⟨a.length,0,rfl,rfl,rfl,dig_nil,Or.inl rfl,by simp [vl]⟩,?_⟩
  rintro n c x o ⟨k,rfl,hn,ho,hd,hc,hv⟩
  refine ⟨fun hx => ⟨⟨by omega,hx⟩,?_⟩,fun hx => ?_⟩
  · have hk : k < a.length := by omega
    have g1 := dig_getD ha k
    have g2 := dig_getD hb k
    have t1 := vl_take a k
    have t2 := vl_take b k
    rw [gI_nat,gI_nat]
    refine ⟨by omega,fun _ => ⟨fun d => d = a.getD k 0 - c - b.getD k 0,⟨fun hb' => ⟨⟨by omega,hb'⟩,by omega,rfl⟩,fun hb' => by rw [getD_ge (l := b) (by omega)];omega⟩,?_⟩⟩
    rintro d rfl
    generalize a.getD k 0 = y at *
    generalize b.getD k 0 = z at *
    have key : ∀ c' d',(c' = 0 ∨ c' = 1) → d' = y - c - z + 65536 * c' → 0 ≤ d' → d' < 65536 → ∃ m,m < n ∧ ∃ k' : Nat,((k : Int) + 1) = (k' : Int) ∧ m + k' = a.length ∧ (o ++ [d']).length = k' ∧ dig (o ++ [d']) ∧ (c' = 0 ∨ c' = 1) ∧ vl (o ++ [d']) = vl (a.take k') - vl (b.take k') + c' * 65536 ^ k' := by
      intro c' d' h1 h2 h3 h4
      refine ⟨n - 1,by omega,k + 1,by omega,by omega,by simp [ho],dig_append hd (dig_one h3 h4),h1,?_⟩
      rw [vl_append,ho,t1,t2,hv,Int.pow_succ,h2]
      simp only [vl]
      generalize (65536 : Int) ^ k = p
      grind
    refine ⟨fun hneg => ⟨⟨by omega,by omega⟩,⟨?_,?_⟩,⟨by omega,by omega⟩,key 1 _ (Or.inr rfl) (by omega) (by omega) (by omega)⟩,fun hneg => ⟨⟨?_,?_⟩,⟨by omega,by omega⟩,key 0 _ (Or.inl rfl) (by omega) (by omega) (by omega)⟩⟩
    all_goals rw [ho,List.length_singleton];omega
  · have hk : k = a.length := by omega
    subst hk
    refine ⟨⟨hd,by omega⟩,?_⟩
    rintro y rfl
    show dz (vl o) = dz (vl a - vl b)
    rw [List.take_of_length_le (Nat.le_refl _),List.take_of_length_le (by omega)] at hv
    have := vl_lt hd
    rw [ho] at this
    have : c = 0 := by rcases hc with e | e <;> subst e <;> omega
    rw [hv,this];simp

theorem ref09_plus.spec (a b : List Int) (h : ref09_plus.pre a b) : ref09_plus.wp a b (fun x => x = ref09_plus.fn a b) := by
  obtain ⟨⟨ha,hb⟩,hla,hlb⟩ := h
  refine ⟨fun n c x o => ∃ k : Nat,x = (k : Int) ∧ ((n + k = max a.length b.length + 1 ∧ (k ≤ max a.length b.length)) ∨ (n = 0 ∧ c = 0 ∧ k = max a.length b.length + 1)) ∧ o.length = k ∧ dig o ∧ (c = 0 ∨ c = 1) ∧ vl o + c * 65536 ^ k = vl (a.take k) + vl (b.take k),⟨max a.length b.length + 1,0,rfl,Or.inl ⟨rfl,Nat.zero_le _⟩,rfl,dig_nil,Or.inl rfl,by simp [vl]⟩,?_⟩
  rintro n c x o ⟨k,rfl,hn,ho,hd,hc,hv⟩
  intro _
  simp only [(mask16 _).1,shr16]
  have g1 := dig_getD ha k
  have g2 := dig_getD hb k
  have t1 := vl_take a k
  have t2 := vl_take b k
  refine ⟨fun hx _ => ?_,fun hx => ?_⟩
  · simp only [Bool.or_eq_true,decide_eq_true_eq] at hx
    rw [gI_nat,gI_nat]
    refine ⟨fun d => d = c + a.getD k 0,⟨fun ha' => ⟨⟨by omega,ha'⟩,by omega,rfl⟩,fun ha' => by rw [getD_ge (l := a) (by omega)];omega⟩,?_⟩
    rintro d rfl
    intro _
    have key : ∀ s,s = c + a.getD k 0 + b.getD k 0 → ∃ m,m < n ∧ ∃ k' : Nat,((k : Int) + 1) = (k' : Int) ∧ ((m + k' = max a.length b.length + 1 ∧ (k' ≤ max a.length b.length)) ∨ (m = 0 ∧ s / 65536 = 0 ∧ k' = max a.length b.length + 1)) ∧ (o ++ [s % 65536]).length = k' ∧ dig (o ++ [s % 65536]) ∧ (s / 65536 = 0 ∨ s / 65536 = 1) ∧ vl (o ++ [s % 65536]) + s / 65536 * 65536 ^ k' = vl (a.take k') + vl (b.take k') := by
      intro s hs
      have hmore : k = max a.length b.length → s / 65536 = 0 := fun e => by
        rw [getD_ge (l := a) (by omega),getD_ge (l := b) (by omega)] at hs;omega
      refine ⟨n - 1,by omega,k + 1,by omega,?_,by simp [ho],dig_append hd (dig_one (by omega) (by omega)),by omega,?_⟩
      · rcases hn with hn | hn
        · by_cases e : k = max a.length b.length
          · right;exact ⟨by omega,hmore e,by omega⟩
          · left;omega
        · omega
      · rw [vl_append,ho,t1,t2,Int.pow_succ]
        simp only [vl]
        have e : s % 65536 = s - 65536 * (s / 65536) := by omega
        rw [e]
        generalize s / 65536 = q
        generalize a.getD k 0 = y at *
        generalize b.getD k 0 = z at *
        subst hs
        generalize (65536 : Int) ^ k = p at *
        grind
    refine ⟨fun hb' => ⟨⟨by omega,hb'⟩,⟨by omega,by omega⟩,⟨?_,?_⟩,?_⟩,fun hb' => ⟨⟨?_,?_⟩,?_⟩⟩
    · rw [ho,List.length_singleton];omega
    · rw [ho,List.length_singleton];omega
    · rintro y rfl
      refine ⟨by decide,?_⟩
      rintro c' rfl
      exact ⟨⟨by omega,by omega⟩,key _ rfl⟩
    · rw [ho,List.length_singleton];omega
    · rw [ho,List.length_singleton];omega
    · rintro y rfl
      refine ⟨by decide,?_⟩
      rintro c' rfl
      exact ⟨⟨by omega,by omega⟩,key _ (by rw [getD_ge (l := b) (by omega)];omega)⟩
  · simp only [Bool.or_eq_false_iff,decide_eq_false_iff_not] at hx
    refine ⟨⟨hd,by omega⟩,?_⟩
    rintro y rfl
    show dz (vl o) = dz (vl a + vl b)
    rw [List.take_of_length_le (by omega),List.take_of_length_le (by omega)] at hv
    have : c = 0 := by omega
    rw [this] at hv
    rw [← hv];simp

theorem ref09_Int_Sign.spec (x : ref09_Int) : ref09_Int_Sign.wp x (fun y => y = ref09_Int_Sign.fn x) := by
  unfold ref09_Int_Sign.wp ref09_Int_Sign.fn
  intro hl
  refine ⟨fun h => ?_,fun h => ?_⟩
  · rw [if_pos (List.eq_nil_of_length_eq_zero (by omega))]
  · rw [if_neg (fun e => h (by rw [e];rfl))]
    exact ⟨fun h => by rw [if_pos h],fun h => by rw [if_neg (by rw [h];simp)]⟩

theorem ref09_order.spec (a b : List Int) (h : ref09_order.pre a b) : ref09_order.wp a b (fun x => x = ref09_order.fn a b) := by
  obtain ⟨ha,hb⟩ := h
  unfold ref09_order.wp ref09_order.fn sgn
  intro _ _
  refine ⟨fun h => ⟨fun h2 => ?_,fun h2 => ?_⟩,fun h => ⟨⟨by omega,by omega⟩,fun _ => ?_⟩⟩
  · have := ha.len_lt hb (by omega)
    rw [if_pos (by omega)]
  · have := hb.len_lt ha (by omega)
    rw [if_neg (by omega),if_pos (by omega)]
  · refine ⟨fun n x => ∃ k : Nat,x = (k : Int) - 1 ∧ n = k ∧ k ≤ a.length ∧ vl a - vl b = vl (a.take k) - vl (b.take k),⟨a.length,a.length,rfl,rfl,Nat.le_refl _,?_⟩,?_⟩
    · rw [List.take_of_length_le (Nat.le_refl _),List.take_of_length_le (by omega)]
    · rintro n x ⟨k,rfl,hnk,hk,hv⟩
      refine ⟨fun hx => ⟨⟨by omega,by omega⟩,⟨by omega,by omega⟩,?_⟩,fun hx => ?_⟩
      · obtain ⟨j,rfl⟩ : ∃ j,k = j + 1 := ⟨k - 1,by omega⟩
        have e : ((j + 1 : Nat) : Int) - 1 = (j : Int) := by omega
        rw [e,gI_nat,gI_nat]
        rw [vl_take,vl_take] at hv
        have l1 := vl_lt (l := a.take j) (dig_sub ha.1 fun _ h => List.mem_of_mem_take h)
        have l2 := vl_lt (l := b.take j) (dig_sub hb.1 fun _ h => List.mem_of_mem_take h)
        have n1 := vl_nonneg (l := a.take j) (dig_sub ha.1 fun _ h => List.mem_of_mem_take h)
        have n2 := vl_nonneg (l := b.take j) (dig_sub hb.1 fun _ h => List.mem_of_mem_take h)
        rw [List.length_take,Nat.min_eq_left (by omega)] at l1 l2
        generalize a.getD j 0 = y at *
        generalize b.getD j 0 = z at *
        generalize (65536 : Int) ^ j = p at *
        refine ⟨fun hne => ⟨⟨by omega,by omega⟩,⟨by omega,by omega⟩,fun hlt => ?_,fun hlt => ?_⟩,fun heq => ⟨⟨by omega,by omega⟩,j,by omega,j,by omega,rfl,by omega,by rw [heq] at hv;omega⟩⟩
        · have : p * y + p ≤ p * z := by
            have : p * (y + 1) ≤ p * z := Int.mul_le_mul_of_nonneg_left (by omega) (by omega)
            rw [Int.mul_add] at this;omega
          rw [if_pos (by omega)]
        · have : p * z + p ≤ p * y := by
            have : p * (z + 1) ≤ p * y := Int.mul_le_mul_of_nonneg_left (by omega) (by omega)
            rw [Int.mul_add] at this;omega
          rw [if_neg (by omega),if_pos (by omega)]
      · have : k = 0 := by omega
        subst this
        simp only [List.take_zero] at hv
        rw [if_neg (by omega),if_neg (by omega)]

theorem ref09_Int_Add.spec (x y : ref09_Int) (h : ref09_Int_Add.pre x y) : ref09_Int_Add.wp x y (fun z => z = ref09_Int_Add.fn x y) := by
  obtain ⟨⟨hx,hy⟩,lx,ly⟩ := h
  unfold ref09_Int_Add.wp ref09_Int_Add.fn
  refine ⟨fun h => ⟨⟨⟨hx.1,hy.1⟩,lx,ly⟩,?_⟩,fun h => ⟨⟨hx,hy⟩,?_⟩⟩
  · rintro z rfl;rw [if_pos h];rfl
  · rintro o rfl
    rw [if_neg h]
    have hs : ref09_order.fn x.2 y.2 ≥ 0 ↔ vl x.2 ≥ vl y.2 := by unfold ref09_order.fn sgn;split <;> (try split) <;> omega
    refine ⟨fun ho => ?_,fun ho => ?_⟩
    all_goals rw [hs] at ho
    · have : y.2.length ≤ x.2.length := by
        rcases Nat.lt_or_ge x.2.length y.2.length with e | e
        · have := hx.len_lt hy e;omega
        · exact e
      refine ⟨⟨⟨hx.1,hy.1⟩,lx,this,ho⟩,?_⟩
      rintro z rfl;rw [if_pos ho];rfl
    · have : x.2.length ≤ y.2.length := by
        rcases Nat.lt_or_ge y.2.length x.2.length with e | e
        · have := hy.len_lt hx e;omega
        · exact e
      refine ⟨⟨⟨hy.1,hx.1⟩,ly,this,by omega⟩,?_⟩
      rintro z rfl;rw [if_neg ho];rfl

theorem ref09_Of.spec (n : Int) (h : ref09_Of.pre n) : ref09_Of.wp n (fun x => x = ref09_Of.fn n) := by
  have hn : i64 n := h
  simp only [i64] at hn
  refine ⟨fun x => x = n.natAbs,⟨fun h => ?_,fun h => ?_⟩,?_⟩
  · simp only [wrap_u64];omega
  · simp only [wrap_u64];omega
  rintro x rfl
  have hN : n.natAbs ≤ 9223372036854775808 := by omega
  refine ⟨fun m u o => ∃ q : Nat,u = (q : Int) ∧ m = q ∧ q ≤ 9223372036854775808 ∧ o.length + (dg q).length ≤ 64 ∧ o ++ dg q = dg n.natAbs,⟨n.natAbs,n.natAbs,rfl,rfl,hN,?_,rfl⟩,?_⟩
  · have := dz_len (x := n.natAbs) (k := 64) (by omega) (Int.lt_of_le_of_lt (b := 9223372036854775808) (by omega) (by decide))
    rw [dz,Int.toNat_natCast] at this
    simpa using this
  rintro m u o ⟨q,rfl,hmq,hq,hl,ho⟩
  refine ⟨fun hp => ?_,fun hp => ?_⟩
  · have hp' : q ≠ 0 := by omega
    rw [dg_pos hp'] at hl ho
    simp only [List.length_cons] at hl
    simp only [(mask16 _).2,shr16]
    refine ⟨by omega,⟨by rw [List.length_singleton];omega,by rw [List.length_singleton];omega⟩,?_⟩
    rintro y rfl
    refine ⟨by decide,q / 65536,by omega,q / 65536,by omega,rfl,by omega,by rw [List.length_append,List.length_singleton];omega,?_⟩
    rw [← ho];simp
  · have : q = 0 := by omega
    subst this
    rw [dg_zero,List.append_nil] at ho
    rw [ho];rfl

theorem vl_set : ∀ (l : List Int) (k : Nat) (x : Int),k < l.length → vl (l.set k x) = vl l + 65536 ^ k * (x - l.getD k 0)
  | [],_,_,h => by simp at h
  | a :: l,0,x,_ => by simp [vl];omega
  | a :: l,k + 1,x,h => by
    have := vl_set l k x (by simpa using h)
    simp only [List.set_cons_succ,vl,this,List.getD_cons_succ,Int.pow_succ]
    generalize x - l.getD k 0 = y
    generalize (65536 : Int) ^ k = p
    grind
theorem dig_set {l : List Int} {k : Nat} {x : Int} (h : dig l) (h1 : 0 ≤ x) (h2 : x < 65536) : dig (l.set k x) := fun a ha => by
  rcases List.mem_or_eq_of_mem_set ha with e | e
  · exact h a e
  · subst e;exact ⟨h1,h2⟩
theorem vl_repl (n : Nat) : vl (List.replicate n 0) = 0 := by
  induction n with
  | zero => rfl
  | succ n ih => rw [List.replicate_succ,vl,ih];rfl
theorem dig_repl (n : Nat) : dig (List.replicate n 0) := fun a ha => by rw [(List.mem_replicate.1 ha).2];omega
theorem ref09_Int_Mul.spec (x y : ref09_Int) (h : ref09_Int_Mul.pre x y) : ref09_Int_Mul.wp x y (fun z => z = ref09_Int_Mul.fn x y) := by
  obtain ⟨hx,hy,lx,ly⟩ := h
  refine ⟨⟨by omega,by omega⟩,⟨by omega,by omega,by omega,by omega⟩,?_⟩
  rintro z rfl
  intro _ _ _
  have hN : Int.toNat ((x.2.length : Int) + (y.2.length : Int)) = x.2.length + y.2.length := by omega
  rw [hN]
  refine ⟨fun n i o => ∃ k : Nat,i = (k : Int) ∧ n + k = x.2.length ∧ o.length = x.2.length + y.2.length ∧ dig o ∧ vl o = vl (x.2.take k) * vl y.2 ∧ ∀ j,k + y.2.length ≤ j → o.getD j 0 = 0,⟨x.2.length,0,rfl,rfl,List.length_replicate,dig_repl _,by rw [vl_repl];simp [vl],fun j _ => ?_⟩,?_⟩
  · simp only [List.getD_eq_getElem?_getD,List.getElem?_replicate];split <;> rfl
  rintro n i o ⟨k,rfl,hn,hlo,hdo,hv,hz⟩
  refine ⟨fun hi => ⟨⟨by omega,hi⟩,fun _ => ?_⟩,fun hi => ?_⟩
  · have hk : k < x.2.length := by omega
    rw [gI_nat]
    have ga := dig_getD hx k
    have ta := vl_take x.2 k
    generalize x.2.getD k 0 = a at *
    have hkp : (65536 : Int) ^ k > 0 := Int.pow_pos (by decide)
    refine ⟨fun m c t s => ∃ j : Nat,t = (j : Int) ∧ m + j = y.2.length ∧ s.length = x.2.length + y.2.length ∧ dig s ∧ (0 ≤ c ∧ c < 65536) ∧ vl s + c * 65536 ^ (k + j) = vl o + 65536 ^ k * (a * vl (y.2.take j)) ∧ (∀ q,k + y.2.length ≤ q → s.getD q 0 = 0),⟨y.2.length,0,rfl,rfl,hlo,hdo,⟨by decide,by decide⟩,by simp [vl],hz⟩,?_⟩
    rintro m c t s ⟨j,rfl,hm,hls,hds,hc,hvs,hzs⟩
    have e1 : Int.toNat ((k : Int) + (j : Int)) = k + j := by omega
    have e2 : Int.toNat ((k : Int) + (y.2.length : Int)) = k + y.2.length := by omega
    rw [e1,e2]
    refine ⟨fun ht => ?_,fun ht => ?_⟩
    · have hj : j < y.2.length := by omega
      rw [gI_nat]
      have gb := dig_getD hy j
      have tb := vl_take y.2 j
      have gs := dig_getD hds (k + j)
      generalize y.2.getD j 0 = b at *
      have hab : 0 ≤ a * b ∧ a * b ≤ 65535 * 65535 := ⟨Int.mul_nonneg ga.1 gb.1,by
        have h1 : a * b ≤ a * 65535 := Int.mul_le_mul_of_nonneg_left (by omega) ga.1
        omega⟩
      refine ⟨⟨by omega,ht⟩,⟨by omega,by omega⟩,⟨by omega,by omega⟩,by omega,⟨by omega,by omega⟩,⟨by omega,by omega⟩,⟨by omega,by omega⟩,?_⟩
      rintro w hw
      refine ⟨⟨by omega,by omega⟩,⟨by omega,by omega⟩,by omega,?_⟩
      rintro s' rfl
      refine ⟨by decide,?_⟩
      rintro c' rfl
      rw [(mask16 _).1,shr16]
      refine ⟨⟨by omega,by omega⟩,m - 1,by omega,j + 1,by omega,by omega,by rw [List.length_set];exact hls,dig_set hds (by omega) (by omega),by omega,?_,fun q hq => ?_⟩
      · rw [vl_set _ _ _ (by omega),tb]
        have e3 : (65536 : Int) ^ (k + (j + 1)) = 65536 ^ k * 65536 ^ j * 65536 := by rw [← Nat.add_assoc,Int.pow_succ,Int.pow_add]
        rw [Int.pow_add] at hvs
        rw [e3,Int.pow_add]
        have e4 : w % 65536 = w - 65536 * (w / 65536) := by omega
        rw [e4]
        generalize w / 65536 = u
        generalize s.getD (k + j) 0 = v at *
        subst hw
        generalize (65536 : Int) ^ k = p at *
        generalize (65536 : Int) ^ j = r at *
        clear e4 e3 hab gb gs
        grind
      · rw [getD_set,if_neg (by omega)];exact hzs q hq
    · have hj : j = y.2.length := by omega
      subst hj
      have g0 := hzs (k + y.2.length) (Nat.le_refl _)
      rw [g0]
      refine ⟨⟨by omega,by omega⟩,⟨by omega,by omega⟩,by omega,⟨by omega,by omega⟩,⟨by omega,by omega⟩,by omega,?_⟩
      rintro s' rfl
      refine fun _ => ⟨⟨by omega,by omega⟩,n - 1,by omega,k + 1,by omega,by omega,by rw [List.length_set];exact hls,dig_set hds (by omega) (by omega),?_,fun q hq => ?_⟩
      · rw [vl_set _ _ _ (by omega),g0,ta]
        rw [List.take_of_length_le (Nat.le_refl _)] at hvs
        rw [hv] at hvs
        generalize (65536 : Int) ^ (k + y.2.length) = p at *
        generalize (65536 : Int) ^ k = p at *
        generalize vl y.2 = v at *
        grind
      · rw [getD_set,if_neg (by omega)];exact hzs q (by omega)
  · have hk : k = x.2.length := by omega
    subst hk
    refine ⟨⟨hdo,by omega⟩,?_⟩
    rintro w rfl
    rw [List.take_of_length_le (Nat.le_refl _)] at hv
    show (_,dz (vl o)) = (_,dz _)
    rw [hv]

theorem iv_nil : iv d_ref09_Int = 0 := rfl
theorem iv_of (n : Int) : iv (ref09_Of.fn n) = n ∧ can (ref09_Of.fn n).2 := by
  refine ⟨?_,by have := can_dz n.natAbs;rwa [dz,Int.toNat_natCast] at this⟩
  unfold iv ref09_Of.fn
  simp only [vl_dg,decide_eq_true_eq]
  split <;> omega
theorem iv_mul {x y : ref09_Int} (hx : can x.2) (hy : can y.2) : iv (ref09_Int_Mul.fn x y) = iv x * iv y ∧ can (ref09_Int_Mul.fn x y).2 := by
  refine ⟨?_,can_dz _⟩
  have h := Int.mul_nonneg (vl_nonneg hx.1) (vl_nonneg hy.1)
  unfold iv ref09_Int_Mul.fn
  rw [vl_dz h]
  cases hx1 : x.1 <;> cases hy1 : y.1 <;> simp [Int.neg_mul,Int.mul_neg]
theorem iv_add {x y : ref09_Int} (hx : can x.2) (hy : can y.2) : iv (ref09_Int_Add.fn x y) = iv x + iv y ∧ can (ref09_Int_Add.fn x y).2 := by
  have h1 := vl_nonneg hx.1
  have h2 := vl_nonneg hy.1
  unfold ref09_Int_Add.fn
  split
  · rename_i he
    refine ⟨?_,can_dz _⟩
    unfold iv
    simp only [vl_dz (Int.add_nonneg h1 h2),← he]
    split <;> omega
  · rename_i he
    split
    · rename_i hg
      refine ⟨?_,can_dz _⟩
      unfold iv
      simp only [vl_dz (show 0 ≤ vl x.2 - vl y.2 by omega)]
      cases hx1 : x.1 <;> cases hy1 : y.1 <;> simp_all <;> omega
    · rename_i hg
      refine ⟨?_,can_dz _⟩
      unfold iv
      simp only [vl_dz (show 0 ≤ vl y.2 - vl x.2 by omega)]
      cases hx1 : x.1 <;> cases hy1 : y.1 <;> simp_all <;> omega
theorem sign_iv {x : ref09_Int} (hx : can x.2) : ref09_Int_Sign.fn x = sgn (iv x) := by
  have h1 := vl_nonneg hx.1
  unfold ref09_Int_Sign.fn iv sgn
  by_cases e : x.2 = []
  · rw [if_pos e,e];simp [vl]
  · rw [if_neg e]
    have : vl x.2 ≠ 0 := fun h => e (hx.nil_iff.2 h)
    split
    · rw [if_pos (by omega)]
    · rw [if_neg (by omega),if_pos (by omega)]
theorem vl_iv (x : ref09_Int) (hx : can x.2) : vl x.2 = (iv x).natAbs := by
  have h1 := vl_nonneg hx.1
  unfold iv;split <;> omega
/-- Numbers of few digits. -/
theorem iv_len {x : ref09_Int} (hx : can x.2) {k : Nat} (h : ((iv x).natAbs : Int) < 65536 ^ k) : x.2.length ≤ k := by
  have := dz_len (x := vl x.2) (k := k) (vl_nonneg hx.1) (by rw [vl_iv x hx];exact h)
  rwa [hx.2] at this

theorem ref09_Int_Abs.spec (x : ref09_Int) : ref09_Int_Abs.wp x (fun y => y = ref09_Int_Abs.fn x) := rfl
theorem ref09_Int_Neg.spec (x : ref09_Int) : ref09_Int_Neg.wp x (fun y => y = ref09_Int_Neg.fn x) := rfl
theorem iv_neg (x : ref09_Int) : iv (ref09_Int_Neg.fn x) = -(iv x) := by unfold iv ref09_Int_Neg.fn;cases x.1 <;> simp
theorem ref09_Int_Cmp.spec (x y : ref09_Int) (h : ref09_Int_Cmp.pre x y) : ref09_Int_Cmp.wp x y (fun z => z = ref09_Int_Cmp.fn x y) := by
  obtain ⟨⟨hx,hy⟩,lx,ly⟩ := h
  unfold ref09_Int_Cmp.wp
  refine ⟨⟨⟨hx,hy⟩,lx,ly⟩,?_⟩
  rintro a rfl
  rintro b rfl
  rintro c rfl
  have ha := iv_add (x := x) (y := ref09_Int_Neg.fn y) hx hy
  show ref09_Int_Sign.fn (ref09_Int_Add.fn x (ref09_Int_Neg.fn y)) = sgn (iv x - iv y)
  rw [sign_iv ha.2,ha.1,iv_neg];rfl

theorem can_eq {l : List Int} (h : can l) : l = dz (vl l) := h.2.symm
theorem dz_lt {v : Int} {l : List Int} (h0 : 0 ≤ v) (hl : dig l) (h : v ≤ vl l) : (dz v).length ≤ l.length := dz_len h0 (Int.lt_of_le_of_lt h (vl_lt hl))
theorem add_dz {a b : Int} (ha : 0 ≤ a) (hb : 0 ≤ b) : ref09_Int_Add.fn (false,dz a) (false,dz b) = (false,dz (a + b)) := by
  unfold ref09_Int_Add.fn;rw [if_pos rfl,vl_dz ha,vl_dz hb]
theorem sub_dz {a : Int} {y : List Int} (ha : 0 ≤ a) (h : vl y ≤ a) : ref09_Int_Add.fn (false,dz a) (true,y) = (false,dz (a - vl y)) := by
  unfold ref09_Int_Add.fn
  rw [if_neg (by simp),vl_dz ha,if_pos h]
theorem of_one : ref09_Of.fn 1 = (false,dz 1) := rfl
theorem cmp_dz {a : Int} {y : ref09_Int} (ha : 0 ≤ a) (hy : y.1 = false) : ref09_Int_Cmp.fn (false,dz a) y = sgn (a - vl y.2) := by
  unfold ref09_Int_Cmp.fn iv;rw [hy];simp [vl_dz ha]
theorem sgn_ge {x : Int} : sgn x ≥ 0 ↔ x ≥ 0 := by unfold sgn;split <;> (try split) <;> omega
theorem sgn_gt {x : Int} : sgn x > 0 ↔ x > 0 := by unfold sgn;split <;> (try split) <;> omega
theorem sgn_zero {x : Int} : sgn x = 0 ↔ x = 0 := by unfold sgn;split <;> (try split) <;> omega
theorem mask1 (w : Int) : IntKind.wrap .i64 ((BitVec.ofInt 64 w &&& BitVec.ofInt 64 (1 : Int)).toNat : Int) = w % 2 := by
  have h : (BitVec.ofInt 64 w &&& BitVec.ofInt 64 (1 : Int)).toNat = (w % 18446744073709551616).toNat % 2 := by
    rw [BitVec.toNat_and,BitVec.toNat_ofInt,show (BitVec.ofInt 64 (1 : Int)).toNat = 2 ^ 1 - 1 from by decide,Nat.and_two_pow_sub_one_eq_mod]
    rfl
  rw [h]
  have h1 : (((w % 18446744073709551616).toNat % 2 : Nat) : Int) = w % 2 := by omega
  rw [h1]
  have h2 : 0 ≤ w % 2 ∧ w % 2 < 2 := by omega
  generalize w % 2 = y at h2
  simp [IntKind.wrap,IntKind.bits,IntKind.signed]
  omega

theorem vl_drop : ∀ (l : List Int),dig l → ∀ k,vl l / 65536 ^ k = vl (l.drop k)
  | l,_,0 => by simp
  | [],_,k + 1 => by simp [vl]
  | a :: l,h,k + 1 => by
    have h1 := h a List.mem_cons_self
    have ih := vl_drop l (fun b hb => h b (List.mem_cons_of_mem _ hb)) k
    simp only [vl,List.drop_succ_cons]
    rw [Int.pow_succ,Int.mul_comm (65536 ^ k) 65536,← Int.ediv_ediv_of_nonneg (show (0 : Int) ≤ 65536 by decide),← ih]
    congr 1;omega
theorem vl_drop_le {l : List Int} (h : dig l) (k : Nat) : 0 ≤ vl (l.drop k) ∧ vl (l.drop k) ≤ vl l := by
  have h0 := vl_nonneg h
  rw [← vl_drop l h k]
  exact ⟨Int.ediv_nonneg h0 (Int.le_of_lt (Int.pow_pos (by decide))),Int.ediv_le_self _ h0⟩
/-- The bits of a number,out of its digits. -/
theorem bit_of {l : List Int} (h : dig l) {k m : Nat} (hm : m < 16) : vl l / 2 ^ (16 * k + m) % 2 = l.getD k 0 / 2 ^ m % 2 := by
  have e1 : (2 : Int) ^ (16 * k + m) = 65536 ^ k * 2 ^ m := by
    rw [Int.pow_add,Int.pow_mul];rfl
  have hp : (0 : Int) < 2 ^ m := Int.pow_pos (by decide)
  rw [e1,← Int.ediv_ediv_of_nonneg (Int.le_of_lt (Int.pow_pos (by decide))),vl_drop l h k]
  have e2 : vl (l.drop k) = l.getD k 0 + 65536 * vl (l.drop (k + 1)) := by
    by_cases hk : k < l.length
    · rw [drop_get 0 hk,vl]
    · rw [getD_ge (by omega),List.drop_of_length_le (by omega),List.drop_of_length_le (by omega)];simp [vl]
  have e3 : (65536 : Int) = 2 ^ m * (2 * 2 ^ (15 - m)) := by
    have : (65536 : Int) = 2 ^ (m + 1 + (15 - m)) := by rw [show m + 1 + (15 - m) = 16 from by omega];rfl
    rw [this,Int.pow_add,Int.pow_succ,Int.mul_assoc]
  rw [e2,e3,Int.mul_assoc,Int.add_mul_ediv_left _ _ (by omega)]
  generalize l.getD k 0 / 2 ^ m = d
  generalize (2 : Int) ^ (15 - m) = z
  rw [Int.mul_assoc]
  omega

theorem ref09_Int_Quo.spec (x y : ref09_Int) (h : ref09_Int_Quo.pre x y) : ref09_Int_Quo.wp x y (fun z => z = ref09_Int_Quo.fn x y) := by
  obtain ⟨⟨hx,lx⟩,⟨hy,ly⟩,hy1,hy0⟩ := h
  refine ⟨⟨by omega,by omega⟩,⟨by omega,by omega⟩,?_⟩
  rintro i0 rfl
  intro _
  have hX := vl_nonneg hx.1
  have hlt := vl_lt hx.1
  have hlY := vl_lt hy.1
  refine ⟨fun n i s1 q s2 r => ∃ (j : Nat) (Q R : Int),i = (j : Int) - 1 ∧ n = j ∧ j ≤ 16 * x.2.length ∧ s1 = false ∧ s2 = false ∧ q = dz Q ∧ r = dz R ∧ 0 ≤ Q ∧ 0 ≤ R ∧ R < vl y.2 ∧ vl x.2 / 2 ^ j = Q * vl y.2 + R,
    ⟨16 * x.2.length,16 * x.2.length,0,0,by omega,rfl,Nat.le_refl _,rfl,rfl,(dz_neg (Int.le_refl 0)).symm,(dz_neg (Int.le_refl 0)).symm,Int.le_refl 0,Int.le_refl 0,hy0,?_⟩,?_⟩
  · have : (2 : Int) ^ (16 * x.2.length) = 65536 ^ x.2.length := by rw [Int.pow_mul];rfl
    rw [this,Int.ediv_eq_zero_of_lt hX hlt];simp
  rintro n i s1 q s2 r ⟨j,Q,R,rfl,hn,hj,rfl,rfl,rfl,rfl,hQ,hR,hRY,hval⟩
  refine ⟨fun hi => ?_,fun hi => ?_⟩
  · obtain ⟨u,rfl⟩ : ∃ u,j = u + 1 := ⟨j - 1,by omega⟩
    have eu : ((u + 1 : Nat) : Int) - 1 = (u : Int) := by omega
    rw [eu]
    have ek : Int.tdiv (u : Int) 16 = ((u / 16 : Nat) : Int) := by rw [Int.tdiv_eq_ediv_of_nonneg (by omega)];rfl
    have em : Int.tmod (u : Int) 16 = ((u % 16 : Nat) : Int) := by rw [Int.tmod_eq_emod_of_nonneg (by omega)];rfl
    rw [ek,em,gI_nat]
    have hk : u / 16 < x.2.length := by omega
    have hm : u % 16 < 16 := Nat.mod_lt _ (by decide)
    have hb := bit_of hx.1 (k := u / 16) hm
    rw [Nat.div_add_mod] at hb
    have hpow : vl x.2 / 2 ^ u / 2 = vl x.2 / 2 ^ (u + 1) := by rw [Int.ediv_ediv_of_nonneg (Int.le_of_lt (Int.pow_pos (by decide))),Int.pow_succ]
    have hQX : Q ≤ vl x.2 := by
      have h1 : vl x.2 / 2 ^ (u + 1) ≤ vl x.2 := Int.ediv_le_self _ hX
      have h2 : Q * 1 ≤ Q * vl y.2 := Int.mul_le_mul_of_nonneg_left (by omega) hQ
      omega
    have lQ := dz_lt hQ hx.1 hQX
    have lR := dz_lt hR hy.1 (Int.le_of_lt hRY)
    have hfd : Int.fdiv (x.2.getD (u / 16) 0) (2 ^ min (Int.toNat ((u % 16 : Nat) : Int)) 64) = x.2.getD (u / 16) 0 / 2 ^ (u % 16) := by
      rw [Int.toNat_natCast,Nat.min_eq_left (by omega)]
      exact Int.fdiv_eq_ediv_of_nonneg _ (Int.le_of_lt (Int.pow_pos (by decide)))
    rw [hfd,mask1,← hb]
    have lR4 : (dz R).length ≤ 1099511627776 := by omega
    have lQ4 : (dz Q).length ≤ 1099511627776 := by omega
    have ly4 : y.2.length ≤ 1099511627776 := by omega
    refine ⟨⟨⟨can_dz R,can_dz R⟩,lR4,lR4⟩,?_⟩
    rintro a ha
    rw [add_dz hR hR] at ha
    rintro a2 ha2
    have ha1 : a.1 = false := by rw [ha]
    have ha2' : a2 = dz (R + R) := by rw [ha2,ha]
    rw [ha1,ha2']
    have l2 : (dz (R + R)).length ≤ y.2.length + 1 := dz_len (by omega) (by rw [Int.pow_succ];omega)
    have l24 : (dz (R + R)).length ≤ 1099511627776 := by omega
    have lone : (dz 1).length ≤ 1099511627776 := Nat.le_trans (dz_len (k := 1) (by decide) (by decide)) (by decide)
    refine ⟨⟨by decide,by omega,by omega⟩,⟨by omega,by omega⟩,by decide,by omega,?_⟩
    refine ⟨fun s r => s = false ∧ r = dz (R + R + vl x.2 / 2 ^ u % 2),⟨fun h1 => ⟨⟨by decide,by decide⟩,⟨⟨can_dz _,can_dz 1⟩,l24,lone⟩,?_⟩,fun h1 => ⟨rfl,?_⟩⟩,?_⟩
    · rw [of_one,add_dz (by omega) (by decide),h1];exact ⟨rfl,rfl⟩
    · have : vl x.2 / 2 ^ u % 2 = 0 := by omega
      rw [this,Int.add_zero]
    rintro s r ⟨rfl,rfl⟩
    have hb2 : 0 ≤ vl x.2 / 2 ^ u % 2 ∧ vl x.2 / 2 ^ u % 2 ≤ 1 := by omega
    generalize hB : vl x.2 / 2 ^ u % 2 = B at *
    have l3 : (dz (R + R + B)).length ≤ y.2.length + 1 := dz_len (by omega) (by rw [Int.pow_succ];omega)
    have l34 : (dz (R + R + B)).length ≤ 1099511627776 := by omega
    refine ⟨⟨⟨can_dz Q,can_dz Q⟩,lQ4,lQ4⟩,?_⟩
    rintro c hc
    rw [add_dz hQ hQ] at hc
    rintro c2 hc2
    have hc1 : c.1 = false := by rw [hc]
    have hc2' : c2 = dz (Q + Q) := by rw [hc2,hc]
    have hstep : vl x.2 / 2 ^ u = (Q + Q) * vl y.2 + (R + R + B) := by
      have h1 : vl x.2 / 2 ^ u = 2 * (vl x.2 / 2 ^ u / 2) + B := by omega
      rw [h1,hpow,hval];grind
    have hQ2 : Q + Q ≤ vl x.2 := by
      have h1 : vl x.2 / 2 ^ u ≤ vl x.2 := Int.ediv_le_self _ hX
      have h2 : (Q + Q) * 1 ≤ (Q + Q) * vl y.2 := Int.mul_le_mul_of_nonneg_left (by omega) (by omega)
      omega
    have lQ2 := dz_lt (v := Q + Q) (by omega) hx.1 hQ2
    have lQ24 : (dz (Q + Q)).length ≤ 1099511627776 := by omega
    refine ⟨⟨⟨can_dz _,hy⟩,l34,ly4⟩,?_⟩
    rintro e he
    rw [cmp_dz (by omega) hy1] at he
    rw [hc1,hc2']
    refine ⟨fun hge => ?_,fun hlt' => ⟨⟨by omega,by omega⟩,u,by omega,u,Q + Q,R + R + B,rfl,rfl,by omega,rfl,rfl,rfl,rfl,by omega,by omega,?_,hstep⟩⟩
    · rw [he,sgn_ge] at hge
      have hny : ref09_Int_Neg.fn y = (true,y.2) := by unfold ref09_Int_Neg.fn;rw [hy1];rfl
      rw [hny]
      refine ⟨⟨⟨can_dz _,hy⟩,l34,ly4⟩,?_⟩
      rintro f rfl
      rintro g hg
      rw [sub_dz (by omega) (by omega)] at hg
      rintro g2 hg2
      refine ⟨⟨by decide,by decide⟩,⟨⟨can_dz _,can_dz 1⟩,lQ24,lone⟩,?_⟩
      rintro o rfl
      rintro p hp
      rw [of_one,add_dz (by omega) (by decide)] at hp
      rintro p2 hp2
      refine ⟨⟨by omega,by omega⟩,u,by omega,u,Q + Q + 1,R + R + B - vl y.2,rfl,rfl,by omega,by rw [hp],by rw [hg],by rw [hp2,hp],by rw [hg2,hg],by omega,by omega,by omega,?_⟩
      rw [hstep];grind
    · rw [he,sgn_ge] at hlt';omega
  · have : j = 0 := by omega
    subst this
    simp only [Int.pow_zero,Int.ediv_one] at hval
    have hm : vl x.2 % vl y.2 = R := by rw [hval,Int.mul_comm,Int.mul_add_emod_self_left,Int.emod_eq_of_lt hR hRY]
    have hd : vl x.2 / vl y.2 = Q := by
      have h1 : (Q * vl y.2 + R) / vl y.2 = Q + R / vl y.2 := by rw [Int.mul_comm,Int.mul_add_ediv_left _ _ (by omega)]
      rw [hval,h1,Int.ediv_eq_zero_of_lt hR hRY];omega
    show _ = ((false,dz _),(false,dz _))
    rw [hm,hd]

theorem ref09_Gcd.spec (x y : ref09_Int) (h : ref09_Gcd.pre x y) : ref09_Gcd.wp x y (fun z => z = ref09_Gcd.fn x y) := by
  obtain ⟨⟨hx,lx⟩,hy,ly⟩ := h
  unfold ref09_Gcd.wp
  rintro a rfl
  rintro b rfl
  have hX := vl_nonneg hx.1
  have hY := vl_nonneg hy.1
  refine ⟨fun n s1 p s2 q => ∃ A B : Nat,s1 = false ∧ s2 = false ∧ p = dz A ∧ q = dz B ∧ n = B ∧ (dz (A : Int)).length ≤ 1048576 ∧ (dz (B : Int)).length ≤ 1048576 ∧ Nat.gcd A B = Nat.gcd (vl x.2).toNat (vl y.2).toNat,
    ⟨(vl y.2).toNat,(vl x.2).toNat,(vl y.2).toNat,rfl,rfl,?_,?_,rfl,?_,?_,rfl⟩,?_⟩
  · rw [Int.toNat_of_nonneg hX];exact can_eq hx
  · rw [Int.toNat_of_nonneg hY];exact can_eq hy
  · rw [Int.toNat_of_nonneg hX,← can_eq hx];exact lx
  · rw [Int.toNat_of_nonneg hY,← can_eq hy];exact ly
  rintro n s1 p s2 q ⟨A,B,rfl,rfl,rfl,rfl,hn,lA,lB,hg⟩
  rintro s hs
  have hs : s = sgn (B : Int) := by
    rw [hs,sign_iv (x := (false,dz (B : Int))) (can_dz _)]
    unfold iv;simp [vl_dz (show (0 : Int) ≤ B by omega)]
  rw [hs]
  refine ⟨fun hne => ?_,fun h0 => ?_⟩
  · have hB : 0 < B := by have := sgn_ne.1 hne;omega
    have eB : vl (dz (B : Int)) = B := vl_dz (by omega)
    have eA : vl (dz (A : Int)) = A := vl_dz (by omega)
    refine ⟨⟨⟨can_dz _,lA⟩,⟨can_dz _,lB⟩,rfl,by show 0 < vl (dz (B : Int));omega⟩,?_⟩
    rintro w rfl
    rintro w1 rfl
    rintro w2 rfl
    refine ⟨A % B,by rw [hn];exact Nat.mod_lt _ hB,B,A % B,rfl,rfl,rfl,?_,rfl,lB,?_,?_⟩
    · show dz (vl (dz (A : Int)) % vl (dz (B : Int))) = _
      rw [eA,eB];rfl
    · refine Nat.le_trans (dz_lt (l := dz (B : Int)) (by omega) (dig_dz _) ?_) lB
      rw [eB];have := Nat.mod_lt A hB;omega
    · rw [Nat.gcd_comm B,← Nat.gcd_rec,Nat.gcd_comm];exact hg
  · have : B = 0 := by have := sgn_zero.1 h0;omega
    subst this
    rw [Nat.gcd_zero_right] at hg
    show (false,dz (A : Int)) = (false,dg _)
    rw [← hg];rfl

theorem ref09_Int_Over.spec (x y : ref09_Int) (h : ref09_Int_Over.pre x y) : ref09_Int_Over.wp x y (fun z => z = ref09_Int_Over.fn x y) := by
  obtain ⟨⟨hx,lx⟩,⟨hy,ly⟩,hy1,hy0⟩ := h
  have lone : (dz 1).length ≤ 1 := dz_len (by decide) (by decide)
  refine ⟨⟨by decide,by decide⟩,⟨⟨hy,can_dz 1⟩,by omega,by rw [of_one];show (dz 1).length ≤ _;omega⟩,?_⟩
  rintro a rfl
  rintro c hc
  have hc : c = sgn (vl y.2 - 1) := by
    rw [hc,of_one]
    unfold ref09_Int_Cmp.fn iv
    rw [hy1]
    simp [vl_dz (show (0 : Int) ≤ 1 by decide)]
  rw [hc]
  refine ⟨fun h0 => ?_,fun hne => ⟨⟨⟨hx,lx⟩,⟨hy,ly⟩,hy1,hy0⟩,?_⟩⟩
  · have : vl y.2 = 1 := by have := sgn_zero.1 h0;omega
    unfold ref09_Int_Over.fn
    rw [this,Int.ediv_one,hx.2]
  · rintro b rfl
    rintro w rfl
    rintro w1 rfl
    rintro w2 rfl
    rfl

theorem ref09_Int_Small.spec (x : ref09_Int) (h : ref09_Int_Small.pre x) : ref09_Int_Small.wp x (fun z => z = ref09_Int_Small.fn x) := by
  obtain ⟨hx,lx⟩ := h
  have hX := vl_nonneg hx.1
  have e28 : ref09_Of.fn 268435456 = (false,dz 268435456) := rfl
  have l28 : (dz 268435456).length ≤ 2 := dz_len (by decide) (by decide)
  refine ⟨⟨by decide,by decide⟩,⟨⟨hx,by rw [e28];exact can_dz _⟩,by show x.2.length ≤ _;omega,by rw [e28];show (dz 268435456).length ≤ _;omega⟩,?_⟩
  rintro a rfl
  rintro b rfl
  rintro c hc
  have hc : c = sgn (vl x.2 - 268435456) := by
    rw [hc,e28]
    unfold ref09_Int_Cmp.fn iv ref09_Int_Abs.fn
    simp [vl_dz (show (0 : Int) ≤ 268435456 by decide)]
  rw [hc]
  unfold ref09_Int_Small.fn
  refine ⟨fun h1 => by rw [if_pos (by have := sgn_gt.1 h1;omega)],fun h1 => ⟨⟨by omega,by omega⟩,?_⟩⟩
  have hs : vl x.2 ≤ 268435456 := by
    apply Classical.byContradiction
    intro h2
    exact h1 (sgn_gt.2 (by omega))
  rw [if_neg (by omega)]
  rintro i0 rfl
  intro _
  refine ⟨fun n v i => ∃ j : Nat,i = (j : Int) - 1 ∧ n = j ∧ j ≤ x.2.length ∧ v = vl (x.2.drop j),⟨x.2.length,x.2.length,rfl,rfl,Nat.le_refl _,by rw [List.drop_of_length_le (Nat.le_refl _)];rfl⟩,?_⟩
  rintro n v i ⟨j,rfl,hn,hj,rfl⟩
  refine ⟨fun hi => ?_,fun hi => ?_⟩
  · obtain ⟨u,rfl⟩ : ∃ u,j = u + 1 := ⟨j - 1,by omega⟩
    have eu : ((u + 1 : Nat) : Int) - 1 = (u : Int) := by omega
    rw [eu,gI_nat]
    have hb := vl_drop_le hx.1 (u + 1)
    have hd := dig_getD hx.1 u
    refine ⟨by decide,⟨by omega,by omega⟩,?_⟩
    rintro w hw
    refine ⟨⟨by omega,by omega⟩,u,by omega,u,rfl,rfl,by omega,?_⟩
    rw [hw,drop_get 0 (by omega : u < x.2.length),vl]
    generalize vl (x.2.drop (u + 1)) = p at *
    generalize x.2.getD u 0 = d at *
    have e16 : (2 : Int) ^ (min (Int.toNat (16 : Int)) 64) = 65536 := by decide
    rw [e16]
    have e1 : IntKind.wrap .i64 (p * 65536) = p * 65536 := by
      simp [IntKind.wrap,IntKind.bits,IntKind.signed];omega
    rw [e1]
    obtain ⟨P,rfl⟩ : ∃ P : Nat,p = (P : Int) := ⟨p.toNat,by omega⟩
    obtain ⟨D,rfl⟩ : ∃ D : Nat,d = (D : Int) := ⟨d.toNat,by omega⟩
    have e2 : (BitVec.ofInt 64 ((P : Int) * 65536) ||| BitVec.ofInt 64 (D : Int)).toNat = 65536 * P + D := by
      rw [BitVec.toNat_or,BitVec.toNat_ofInt,BitVec.toNat_ofInt]
      have h1 : (((P : Int) * 65536) % (2 ^ 64 : Nat)).toNat = 2 ^ 16 * P := by omega
      have h2 : ((D : Int) % (2 ^ 64 : Nat)).toNat = D := by omega
      rw [h1,h2,← Nat.two_pow_add_eq_or_of_lt (by omega : D < 2 ^ 16)]
    rw [e2]
    simp [IntKind.wrap,IntKind.bits,IntKind.signed];omega
  · have : j = 0 := by omega
    subst this
    unfold iv
    simp only [List.drop_zero]
    refine ⟨fun h2 => ⟨⟨by omega,by omega⟩,by rw [if_pos h2]⟩,fun h2 => by rw [if_neg (by rw [h2];simp)]⟩

theorem pow_le {a : Nat} : ∀ {k : Nat},a ≤ k → (65536 : Int) ^ a ≤ 65536 ^ k
  | 0, h => by have : a = 0 := by omega
               subst this;exact Int.le_refl _
  | k + 1,h => by
    by_cases e : a = k + 1
    · subst e;exact Int.le_refl _
    · have := pow_le (a := a) (k := k) (by omega)
      have hp : (0 : Int) < 65536 ^ k := Int.pow_pos (by decide)
      rw [Int.pow_succ];omega
theorem mul_len {x y : ref09_Int} (hx : can x.2) (hy : can y.2) {k : Nat} (h : x.2.length + y.2.length ≤ k) : (ref09_Int_Mul.fn x y).2.length ≤ k := by
  have h1 := vl_lt hx.1
  have h2 := vl_lt hy.1
  have n1 := vl_nonneg hx.1
  have n2 := vl_nonneg hy.1
  have hl : (dz (vl x.2 * vl y.2)).length ≤ x.2.length + y.2.length := by
    refine dz_len (Int.mul_nonneg n1 n2) ?_
    rw [Int.pow_add]
    have a1 : vl x.2 * vl y.2 ≤ vl x.2 * 65536 ^ y.2.length := Int.mul_le_mul_of_nonneg_left (Int.le_of_lt h2) n1
    have a2 : vl x.2 * 65536 ^ y.2.length < 65536 ^ x.2.length * 65536 ^ y.2.length := Int.mul_lt_mul_of_pos_right h1 (Int.pow_pos (by decide))
    omega
  exact Nat.le_trans hl h
theorem add_len {x y : ref09_Int} (hx : can x.2) (hy : can y.2) {k : Nat} (h1 : x.2.length ≤ k) (h2 : y.2.length ≤ k) : (ref09_Int_Add.fn x y).2.length ≤ k + 1 := by
  have b1 := vl_lt hx.1
  have b2 := vl_lt hy.1
  have n1 := vl_nonneg hx.1
  have n2 := vl_nonneg hy.1
  have m1 : (65536 : Int) ^ x.2.length ≤ 65536 ^ k := pow_le h1
  have m2 : (65536 : Int) ^ y.2.length ≤ 65536 ^ k := pow_le h2
  have m0 : (0 : Int) < 65536 ^ k := Int.pow_pos (by decide)
  have e : (65536 : Int) ^ (k + 1) = 65536 ^ k * 65536 := Int.pow_succ ..
  unfold ref09_Int_Add.fn
  split
  · exact dz_len (by omega) (by omega)
  · split
    · exact dz_len (by omega) (by omega)
    · exact dz_len (by omega) (by omega)
theorem over_ok {x y : ref09_Int} (hx : can x.2) (hy0 : 0 < vl y.2) : can (ref09_Int_Over.fn x y).2 ∧ (ref09_Int_Over.fn x y).2.length ≤ x.2.length ∧ vl (ref09_Int_Over.fn x y).2 = vl x.2 / vl y.2 ∧ (ref09_Int_Over.fn x y).1 = x.1 := by
  have n1 := vl_nonneg hx.1
  have hd : 0 ≤ vl x.2 / vl y.2 := Int.ediv_nonneg n1 (by omega)
  exact ⟨can_dz _,dz_lt hd hx.1 (Int.ediv_le_self _ n1),vl_dz hd,rfl⟩
theorem gcd_ok (x y : ref09_Int) : can (ref09_Gcd.fn x y).2 ∧ vl (ref09_Gcd.fn x y).2 = Nat.gcd (vl x.2).toNat (vl y.2).toNat ∧ (ref09_Gcd.fn x y).1 = false := by
  refine ⟨?_,vl_dg _,rfl⟩
  have := can_dz (Nat.gcd (vl x.2).toNat (vl y.2).toNat : Nat)
  rwa [dz,Int.toNat_natCast] at this

/-- What two numbers over what they have in common are. -/
theorem ratioS_ok {a b : ref09_Int} (ha : canL a) (hb : canL b) (hb1 : b.1 = false) (hb0 : 0 < vl b.2) :
    (ref09_Gcd.pre a b ∧ ref09_Int_Over.pre a (ref09_Gcd.fn a b) ∧ ref09_Int_Over.pre b (ref09_Gcd.fn a b)) ∧ (can (ratioS a b).1.2 ∧ can (ratioS a b).2.2) ∧ ((ratioS a b).1.2.length ≤ a.2.length ∧ (ratioS a b).2.2.length ≤ b.2.length) ∧ ((ratioS a b).2.1 = false ∧ 0 < vl (ratioS a b).2.2) ∧
    Nat.gcd (vl (ratioS a b).1.2).toNat (vl (ratioS a b).2.2).toNat = 1 ∧ iv (ratioS a b).1 * vl b.2 = iv a * vl (ratioS a b).2.2 := by
  obtain ⟨g1,g2,g3⟩ := gcd_ok a b
  have na := vl_nonneg ha.1.1
  generalize hA : (vl a.2).toNat = A at *
  generalize hB : (vl b.2).toNat = B at *
  have eA : vl a.2 = (A : Int) := by omega
  have eB : vl b.2 = (B : Int) := by omega
  have hB0 : 0 < B := by omega
  have hg0 : 0 < Nat.gcd A B := Nat.gcd_pos_of_pos_right A hB0
  have hgB : Nat.gcd A B ≤ B := Nat.gcd_le_right A hB0
  have hg : canL (ref09_Gcd.fn a b) := by
    refine ⟨g1,Nat.le_trans ?_ hb.2⟩
    have := dz_lt (v := vl (ref09_Gcd.fn a b).2) (by omega) hb.1.1 (by omega)
    rwa [g1.2] at this
  have hgp : 0 < vl (ref09_Gcd.fn a b).2 := by omega
  obtain ⟨o1,o2,o3,o4⟩ := over_ok (y := ref09_Gcd.fn a b) ha.1 hgp
  obtain ⟨p1,p2,p3,p4⟩ := over_ok (y := ref09_Gcd.fn a b) hb.1 hgp
  have q3 : vl (ratioS a b).1.2 = ((A / Nat.gcd A B : Nat) : Int) := by show vl (ref09_Int_Over.fn a _).2 = _;rw [o3,g2,eA];rfl
  have r3 : vl (ratioS a b).2.2 = ((B / Nat.gcd A B : Nat) : Int) := by show vl (ref09_Int_Over.fn b _).2 = _;rw [p3,g2,eB];rfl
  have hdp : 0 < B / Nat.gcd A B := Nat.div_pos hgB hg0
  refine ⟨⟨⟨ha,hb⟩,⟨ha,hg,g3,hgp⟩,hb,hg,g3,hgp⟩,⟨o1,p1⟩,⟨o2,p2⟩,⟨p4.trans hb1,by omega⟩,?_,?_⟩
  · rw [q3,r3,Int.toNat_natCast,Int.toNat_natCast]
    exact Nat.coprime_div_gcd_div_gcd hg0
  · have hiv : iv (ratioS a b).1 = (if a.1 = true then -1 else 1) * vl (ratioS a b).1.2 := by
      unfold iv
      rw [show (ratioS a b).1.1 = a.1 from o4];split <;> omega
    have hia : iv a = (if a.1 = true then -1 else 1) * vl a.2 := by unfold iv;split <;> omega
    rw [hiv,hia,q3,r3,eA,eB]
    have e1 : (A / Nat.gcd A B) * B = A * (B / Nat.gcd A B) := by
      have h1 := Nat.div_mul_cancel (Nat.gcd_dvd_left A B)
      have h2 := Nat.div_mul_cancel (Nat.gcd_dvd_right A B)
      generalize Nat.gcd A B = g at *
      generalize A / g = u at *
      generalize B / g = w at *
      rw [← h1,← h2]
      rw [← Nat.mul_assoc,Nat.mul_assoc u w g,Nat.mul_assoc u g w,Nat.mul_comm w g]
    have e2 : ((A / Nat.gcd A B : Nat) : Int) * (B : Int) = (A : Int) * ((B / Nat.gcd A B : Nat) : Int) := by exact_mod_cast e1
    rw [Int.mul_assoc,Int.mul_assoc,e2]

/-- A ratio that is p over q. -/
theorem RatioOf_ok {a b : ref09_Int} (h : ref09_RatioOf.pre a b) :
    (can (ref09_RatioOf.fn a b).1.2 ∧ can (ref09_RatioOf.fn a b).2.2) ∧ ((ref09_RatioOf.fn a b).1.2.length ≤ a.2.length ∧ (ref09_RatioOf.fn a b).2.2.length ≤ b.2.length) ∧ ((ref09_RatioOf.fn a b).2.1 = false ∧ 0 < vl (ref09_RatioOf.fn a b).2.2) ∧
    Nat.gcd (vl (ref09_RatioOf.fn a b).1.2).toNat (vl (ref09_RatioOf.fn a b).2.2).toNat = 1 ∧ iv (ref09_RatioOf.fn a b).1 * iv b = iv a * vl (ref09_RatioOf.fn a b).2.2 := by
  obtain ⟨ha,hb,hb0⟩ := h
  have nb := vl_nonneg hb.1.1
  unfold ref09_RatioOf.fn
  split
  · rename_i h1
    obtain ⟨_,k1,k2,k3,k4,k5⟩ := ratioS_ok (a := ref09_Int_Neg.fn a) (b := ref09_Int_Neg.fn b) ha hb (by show (!b.1) = false;rw [h1];rfl) (by show 0 < vl b.2;omega)
    refine ⟨k1,k2,k3,k4,?_⟩
    rw [iv_neg] at k5
    have e : iv b = -(vl (ref09_Int_Neg.fn b).2) := by unfold iv;rw [if_pos h1];rfl
    rw [e,Int.mul_neg,k5,Int.neg_mul,Int.neg_neg]
  · rename_i h1
    have h1' : b.1 = false := by cases hb' : b.1 with | true => exact absurd hb' h1 | false => rfl
    obtain ⟨_,k1,k2,k3,k4,k5⟩ := ratioS_ok ha hb h1' (by omega)
    refine ⟨k1,k2,k3,k4,?_⟩
    have e : iv b = vl b.2 := by unfold iv;rw [h1'];simp
    rw [e];exact k5

theorem ref09_RatioOf.spec (a b : ref09_Int) (h : ref09_RatioOf.pre a b) : ref09_RatioOf.wp a b (fun z => z = ref09_RatioOf.fn a b) := by
  obtain ⟨ha,hb,hb0⟩ := h
  have nb := vl_nonneg hb.1.1
  have hne : b.2 ≠ [] := fun e => hb0 (by rw [e];rfl)
  have fin : ∀ a b : ref09_Int, canL a → canL b → b.1 = false → 0 < vl b.2 → (ref09_Gcd.pre (a.1, a.2) (b.1, b.2)) ∧ ∀ (x7 : ref09_Int), x7 = (ref09_Gcd.fn (a.1, a.2) (b.1, b.2)) → ∀ (x8 : (List Int)), x8 = x7.2 →
      (ref09_Int_Over.pre (a.1,a.2) (x7.1,x8)) ∧ (ref09_Int_Over.pre (b.1,b.2) (x7.1,x8)) ∧ ∀ (x9 : ref09_Int),x9 = (ref09_Int_Over.fn (a.1,a.2) (x7.1,x8)) → ∀ (x10 : ref09_Int),x10 = (ref09_Int_Over.fn (b.1,b.2) (x7.1,x8)) →
      ∀ (x11 : (List Int)),x11 = x9.2 → ∀ (x12 : (List Int)),x12 = x10.2 → ((x9.1,x11),(x10.1,x12)) = ratioS a b := by
    intro a b ha hb h1 h0
    obtain ⟨⟨k1,k2,k3⟩,_⟩ := ratioS_ok ha hb h1 h0
    refine ⟨k1,?_⟩
    rintro x rfl
    rintro y rfl
    refine ⟨k2,k3,?_⟩
    rintro u rfl
    rintro w rfl
    rintro s rfl
    rintro t rfl
    rfl
  unfold ref09_RatioOf.wp
  rintro s rfl
  have hs : ref09_Int_Sign.fn b < 0 ↔ b.1 = true := by
    unfold ref09_Int_Sign.fn
    rw [if_neg hne]
    split
    · rename_i h;exact ⟨fun _ => h,fun _ => by decide⟩
    · rename_i h;exact ⟨fun h' => absurd h' (by decide),fun h' => absurd h' h⟩
  unfold ref09_RatioOf.fn
  by_cases h1 : b.1 = true
  · rw [if_pos h1]
    refine ⟨fun s1 p s2 q => s1 = (ref09_Int_Neg.fn a).1 ∧ p = (ref09_Int_Neg.fn a).2 ∧ s2 = (ref09_Int_Neg.fn b).1 ∧ q = (ref09_Int_Neg.fn b).2,⟨fun h => ⟨rfl,rfl,rfl,rfl⟩,fun h => absurd (hs.2 h1) h⟩,?_⟩
    rintro s1 p s2 q ⟨rfl,rfl,rfl,rfl⟩
    exact fin (ref09_Int_Neg.fn a) (ref09_Int_Neg.fn b) ha hb (by show (!b.1) = false;rw [h1];rfl) (by show 0 < vl b.2;omega)
  · rw [if_neg h1]
    have h1' : b.1 = false := by cases hb' : b.1 with | true => exact absurd hb' h1 | false => rfl
    refine ⟨fun s1 p s2 q => s1 = a.1 ∧ p = a.2 ∧ s2 = b.1 ∧ q = b.2,⟨fun h => absurd (hs.1 h) h1,fun h => ⟨rfl,rfl,rfl,rfl⟩⟩,?_⟩
    rintro s1 p s2 q ⟨rfl,rfl,rfl,rfl⟩
    exact fin a b ha hb h1' (by omega)

theorem good_den {x : ref09_Ratio} (h : goodR x) : iv x.2 = vl x.2.2 := by unfold iv;rw [h.2.2.1];simp
theorem mul_pre {x y : ref09_Ratio} (hx : goodR x) (hy : goodR y) : ref09_RatioOf.pre (ref09_Int_Mul.fn x.1 y.1) (ref09_Int_Mul.fn x.2 y.2) := by
  obtain ⟨⟨x1,x2⟩,⟨l1,l2⟩,x3,x4⟩ := hx
  obtain ⟨⟨y1,y2⟩,⟨m1,m2⟩,y3,y4⟩ := hy
  refine ⟨⟨can_dz _,Nat.le_trans (mul_len x1 y1 (Nat.le_refl _)) (by omega)⟩,⟨can_dz _,Nat.le_trans (mul_len x2 y2 (Nat.le_refl _)) (by omega)⟩,?_⟩
  have : 0 < vl x.2.2 * vl y.2.2 := Int.mul_pos x4 y4
  show vl (dz (vl x.2.2 * vl y.2.2)) ≠ 0
  rw [vl_dz (by omega)];omega
theorem add_pre {x y : ref09_Ratio} (hx : goodR x) (hy : goodR y) : ref09_Int_Add.pre (ref09_Int_Mul.fn x.1 y.2) (ref09_Int_Mul.fn y.1 x.2) ∧ ref09_RatioOf.pre (ref09_Int_Add.fn (ref09_Int_Mul.fn x.1 y.2) (ref09_Int_Mul.fn y.1 x.2)) (ref09_Int_Mul.fn x.2 y.2) := by
  have hp := mul_pre hx hy
  obtain ⟨⟨x1,x2⟩,⟨l1,l2⟩,x3,x4⟩ := hx
  obtain ⟨⟨y1,y2⟩,⟨m1,m2⟩,y3,y4⟩ := hy
  have k1 := mul_len x1 y2 (k := 524288) (by omega)
  have k2 := mul_len y1 x2 (k := 524288) (by omega)
  exact ⟨⟨⟨can_dz _,can_dz _⟩,by omega,by omega⟩,⟨(iv_add (x := ref09_Int_Mul.fn x.1 y.2) (y := ref09_Int_Mul.fn y.1 x.2) (can_dz _) (can_dz _)).2,Nat.le_trans (add_len (can_dz _) (can_dz _) k1 k2) (by omega)⟩,hp.2.1,hp.2.2⟩
theorem mulI_pre {x y : ref09_Int} (hx : can x.2) (hy : can y.2) (lx : x.2.length ≤ 262144) (ly : y.2.length ≤ 262144) : ref09_Int_Mul.pre x y := ⟨hx.1,hy.1,by omega,by omega⟩

theorem ref09_Ratio_Mul.spec (x y : ref09_Ratio) (h : ref09_Ratio_Mul.pre x y) : ref09_Ratio_Mul.wp x y (fun z => z = ref09_Ratio_Mul.fn x y) := by
  obtain ⟨hx,hy⟩ := h
  refine ⟨mulI_pre hx.1.1 hy.1.1 hx.2.1.1 hy.2.1.1,mulI_pre hx.1.2 hy.1.2 hx.2.1.2 hy.2.1.2,mul_pre hx hy,?_⟩
  rintro a rfl
  rintro b rfl
  rintro c rfl
  rintro d rfl
  rintro e rfl
  rfl
theorem ref09_Ratio_Add.spec (x y : ref09_Ratio) (h : ref09_Ratio_Add.pre x y) : ref09_Ratio_Add.wp x y (fun z => z = ref09_Ratio_Add.fn x y) := by
  obtain ⟨hx,hy⟩ := h
  obtain ⟨p1,p2⟩ := add_pre hx hy
  refine ⟨mulI_pre hx.1.1 hy.1.2 hx.2.1.1 hy.2.1.2,mulI_pre hy.1.1 hx.1.2 hy.2.1.1 hx.2.1.2,p1,mulI_pre hx.1.2 hy.1.2 hx.2.1.2 hy.2.1.2,p2,?_⟩
  rintro a rfl
  rintro b rfl
  rintro c rfl
  rintro d rfl
  rintro e rfl
  rintro f rfl
  rintro g rfl
  rfl
theorem cmp_pre {x y : ref09_Ratio} (hx : goodR x) (hy : goodR y) : ref09_Int_Cmp.pre (ref09_Int_Mul.fn x.1 y.2) (ref09_Int_Mul.fn y.1 x.2) := by
  have := (add_pre hx hy).1
  exact this
theorem ref09_Ratio_Cmp.spec (x y : ref09_Ratio) (h : ref09_Ratio_Cmp.pre x y) : ref09_Ratio_Cmp.wp x y (fun z => z = ref09_Ratio_Cmp.fn x y) := by
  obtain ⟨hx,hy⟩ := h
  refine ⟨mulI_pre hx.1.1 hy.1.2 hx.2.1.1 hy.2.1.2,mulI_pre hy.1.1 hx.1.2 hy.2.1.1 hx.2.1.2,cmp_pre hx hy,?_⟩
  rintro a rfl
  rintro b rfl
  rintro c rfl
  rfl

/-! ## What ratios mean -/
/-- A ratio in lowest terms that is p over q,of at most k digits. -/
structure Rat (y : ref09_Ratio) (k : Nat) (p q : Int) : Prop where
  c : can y.1.2 ∧ can y.2.2
  l : y.1.2.length ≤ k ∧ y.2.2.length ≤ k
  s : y.2.1 = false ∧ 0 < vl y.2.2
  g : Nat.gcd (vl y.1.2).toNat (vl y.2.2).toNat = 1
  v : iv y.1 * q = p * vl y.2.2
theorem Rat.good {y : ref09_Ratio} {k : Nat} {p q : Int} (h : Rat y k p q) (hk : k ≤ 262144) : goodR y := ⟨h.c,⟨by have := h.l.1;omega,by have := h.l.2;omega⟩,h.s.1,h.s.2⟩
theorem iv_mulD {x y : ref09_Int} (hx : can x.2) (hy : can y.2) (h1 : x.1 = false) (h2 : y.1 = false) : iv (ref09_Int_Mul.fn x y) = vl x.2 * vl y.2 := by
  rw [(iv_mul hx hy).1];unfold iv;rw [h1,h2];simp
theorem Rat.mul {x y : ref09_Ratio} {k m : Nat} {p q u w : Int} (hx : Rat x k p q) (hy : Rat y m u w) (hk : k ≤ 262144) (hm : m ≤ 262144) : Rat (ref09_Ratio_Mul.fn x y) (k + m) (p * u) (q * w) := by
  have gx := hx.good hk
  have gy := hy.good hm
  obtain ⟨r1,r2,r3,r4,r5⟩ := RatioOf_ok (mul_pre gx gy)
  have l1 := mul_len hx.c.1 hy.c.1 (k := k + m) (by have := hx.l.1;have := hy.l.1;omega)
  have l2 := mul_len hx.c.2 hy.c.2 (k := k + m) (by have := hx.l.2;have := hy.l.2;omega)
  refine ⟨r1,⟨Nat.le_trans r2.1 l1,Nat.le_trans r2.2 l2⟩,r3,r4,?_⟩
  rw [iv_mulD hx.c.2 hy.c.2 hx.s.1 hy.s.1,(iv_mul hx.c.1 hy.c.1).1] at r5
  have v1 := hx.v
  have v2 := hy.v
  show iv (ref09_Ratio_Mul.fn x y).1 * (q * w) = p * u * vl (ref09_Ratio_Mul.fn x y).2.2
  change iv (ref09_Ratio_Mul.fn x y).1 * _ = _ * vl (ref09_Ratio_Mul.fn x y).2.2 at r5
  generalize iv (ref09_Ratio_Mul.fn x y).1 = N at *
  generalize vl (ref09_Ratio_Mul.fn x y).2.2 = D at *
  have p1 := hx.s.2
  have p2 := hy.s.2
  generalize vl x.2.2 = a at *
  generalize vl y.2.2 = b at *
  generalize iv x.1 = c at *
  generalize iv y.1 = d at *
  refine Int.eq_of_mul_eq_mul_right (a := a * b) (by have := Int.mul_pos p1 p2;omega) ?_
  have : N * (a * b) * (q * w) = c * d * D * (q * w) := by rw [r5]
  have e1 : c * d * D * (q * w) = (c * q) * (d * w) * D := by grind
  rw [e1,v1,v2] at this
  grind
theorem Rat.add {x y : ref09_Ratio} {k m : Nat} {p q u : Int} (hx : Rat x k p q) (hy : Rat y m u q) (hk : k ≤ 262144) (hm : m ≤ 262144) : Rat (ref09_Ratio_Add.fn x y) (k + m + 1) (p + u) q := by
  have gx := hx.good hk
  have gy := hy.good hm
  obtain ⟨a1,a2⟩ := add_pre gx gy
  obtain ⟨r1,r2,r3,r4,r5⟩ := RatioOf_ok a2
  have l1 := mul_len hx.c.1 hy.c.2 (k := k + m) (by have := hx.l.1;have := hy.l.2;omega)
  have l1' := mul_len hy.c.1 hx.c.2 (k := k + m) (by have := hy.l.1;have := hx.l.2;omega)
  have l3 := add_len (x := ref09_Int_Mul.fn x.1 y.2) (y := ref09_Int_Mul.fn y.1 x.2) (can_dz _) (can_dz _) l1 l1'
  have l2 := mul_len hx.c.2 hy.c.2 (k := k + m) (by have := hx.l.2;have := hy.l.2;omega)
  refine ⟨r1,⟨Nat.le_trans r2.1 l3,Nat.le_trans r2.2 (by omega)⟩,r3,r4,?_⟩
  rw [iv_mulD hx.c.2 hy.c.2 hx.s.1 hy.s.1,(iv_add (x := ref09_Int_Mul.fn x.1 y.2) (y := ref09_Int_Mul.fn y.1 x.2) (can_dz _) (can_dz _)).1,(iv_mul hx.c.1 hy.c.2).1,(iv_mul hy.c.1 hx.c.2).1,good_den gx,good_den gy] at r5
  have v1 := hx.v
  have v2 := hy.v
  show iv (ref09_Ratio_Add.fn x y).1 * q = (p + u) * vl (ref09_Ratio_Add.fn x y).2.2
  change iv (ref09_Ratio_Add.fn x y).1 * _ = _ * vl (ref09_Ratio_Add.fn x y).2.2 at r5
  generalize iv (ref09_Ratio_Add.fn x y).1 = N at *
  generalize vl (ref09_Ratio_Add.fn x y).2.2 = D at *
  have p1 := hx.s.2
  have p2 := hy.s.2
  generalize vl x.2.2 = a at *
  generalize vl y.2.2 = b at *
  generalize iv x.1 = c at *
  generalize iv y.1 = d at *
  refine Int.eq_of_mul_eq_mul_right (a := a * b) (by have := Int.mul_pos p1 p2;omega) ?_
  have : N * (a * b) * q = (c * b + d * a) * D * q := by rw [r5]
  have e1 : (c * b + d * a) * D * q = (c * q) * b * D + (d * q) * a * D := by grind
  rw [e1,v1,v2] at this
  grind
/-- The same number over the same other one: the same ratio,but for a zero's sign. -/
theorem Rat.scale {y : ref09_Ratio} {k : Nat} {p q : Int} (h : Rat y k p q) (c : Int) : Rat y k (c * p) (c * q) := ⟨h.c,h.l,h.s,h.g,by have := h.v;grind⟩
theorem Rat.mono {y : ref09_Ratio} {k m : Nat} {p q : Int} (h : Rat y k p q) (hk : k ≤ m) : Rat y m p q := ⟨h.c,⟨by have := h.l.1;omega,by have := h.l.2;omega⟩,h.s,h.g,h.v⟩
/-- In lowest terms the numbers are the least. -/
theorem Rat.le {y : ref09_Ratio} {k : Nat} {p q : Int} (h : Rat y k p q) (hq : 0 < q) : (vl y.2.2 ∣ q ∧ vl y.2.2 ≤ q) ∧ (iv y.1).natAbs ≤ p.natAbs ∧ vl y.1.2 = (iv y.1).natAbs := by
  have hv := vl_iv y.1 h.c.1
  have hN : (vl y.1.2).toNat = (iv y.1).natAbs := by omega
  have hg := h.g
  rw [hN] at hg
  have hm := congrArg Int.natAbs h.v
  rw [Int.natAbs_mul,Int.natAbs_mul] at hm
  have hD : (vl y.2.2).natAbs = (vl y.2.2).toNat := by have := h.s.2;omega
  rw [hD] at hm
  have hd : (vl y.2.2).toNat ∣ q.natAbs := by
    have h1 : (vl y.2.2).toNat ∣ (iv y.1).natAbs * q.natAbs := ⟨p.natAbs,by rw [hm,Nat.mul_comm]⟩
    exact Nat.Coprime.dvd_of_dvd_mul_left (Nat.Coprime.symm hg) h1
  have hle := Nat.le_of_dvd (by omega) hd
  have hs := h.s.2
  refine ⟨⟨?_,by omega⟩,?_,hv⟩
  · have := Int.ofNat_dvd.2 hd
    have e1 : (((vl y.2.2).toNat : Nat) : Int) = vl y.2.2 := by omega
    have e2 : ((q.natAbs : Nat) : Int) = q := by omega
    rwa [e1,e2] at this
  · obtain ⟨c,hc⟩ := hd
    have hc0 : 0 < c := by
      rcases Nat.eq_zero_or_pos c with h0 | h0
      · subst h0;omega
      · exact h0
    rw [hc] at hm
    have h2 : (iv y.1).natAbs * c = p.natAbs := by
      have : ((iv y.1).natAbs * c) * (vl y.2.2).toNat = p.natAbs * (vl y.2.2).toNat := by rw [← hm];rw [Nat.mul_assoc,Nat.mul_comm c]
      exact Nat.eq_of_mul_eq_mul_right (by omega) this
    have := Nat.le_mul_of_pos_right (iv y.1).natAbs hc0
    omega
/-- Two ways to say a ratio in lowest terms. -/
theorem Rat.eq {y : ref09_Ratio} {k : Nat} {p q n d : Int} (h : Rat y k p q) (hq : 0 < q) (hd : 0 < d) (hg : Nat.gcd n.natAbs d.natAbs = 1) (hn : n * q = p * d) : iv y.1 = n ∧ vl y.2.2 = d := by
  have hv := vl_iv y.1 h.c.1
  have hN : (vl y.1.2).toNat = (iv y.1).natAbs := by omega
  have h1 := h.v
  have hs := h.s.2
  have hgy := h.g
  rw [hN] at hgy
  have hx : iv y.1 * d = n * vl y.2.2 := by
    refine Int.eq_of_mul_eq_mul_right (a := q) (by omega) ?_
    have e1 : iv y.1 * d * q = iv y.1 * q * d := by grind
    have e2 : n * vl y.2.2 * q = n * q * vl y.2.2 := by grind
    rw [e1,e2,h1,hn];grind
  have hm := congrArg Int.natAbs hx
  rw [Int.natAbs_mul,Int.natAbs_mul] at hm
  have hDy : (vl y.2.2).natAbs = (vl y.2.2).toNat := by omega
  rw [hDy] at hm
  have d1 : (vl y.2.2).toNat ∣ d.natAbs := Nat.Coprime.dvd_of_dvd_mul_left (Nat.Coprime.symm hgy) ⟨n.natAbs,by rw [hm,Nat.mul_comm]⟩
  have d2 : d.natAbs ∣ (vl y.2.2).toNat := Nat.Coprime.dvd_of_dvd_mul_left (Nat.Coprime.symm hg) ⟨(iv y.1).natAbs,by rw [← hm,Nat.mul_comm]⟩
  have e := Nat.dvd_antisymm d1 d2
  have ed : vl y.2.2 = d := by omega
  refine ⟨?_,ed⟩
  rw [ed] at hx
  exact Int.eq_of_mul_eq_mul_right (by omega) hx
theorem Rat.of {c : Int} (hc : -18446744073709551616 < c ∧ c < 18446744073709551616) : Rat (ref09_Of.fn c,ref09_Of.fn 1) 4 c 1 := by
  have h := iv_of c
  have h1 := iv_of 1
  have l := iv_len (k := 4) h.2 (by rw [h.1]; have : (65536 : Int) ^ 4 = 18446744073709551616 := by decide
                                    omega)
  have l1 := iv_len (k := 4) h1.2 (by rw [h1.1];decide)
  have e1 : vl (ref09_Of.fn 1).2 = 1 := by rw [of_one];exact vl_dz (by decide)
  refine ⟨⟨h.2,h1.2⟩,⟨l,l1⟩,⟨rfl,by show 0 < vl (ref09_Of.fn 1).2;omega⟩,?_,?_⟩
  · show Nat.gcd _ (vl (ref09_Of.fn 1).2).toNat = 1
    rw [e1];exact Nat.gcd_one_right _
  · show iv (ref09_Of.fn c) * 1 = c * vl (ref09_Of.fn 1).2
    rw [e1,h.1]
theorem Rat.inv {c : Int} (hc : -18446744073709551616 < c ∧ c < 18446744073709551616) (h0 : c ≠ 0) : ref09_RatioOf.pre (ref09_Of.fn (-1)) (ref09_Of.fn c) ∧ Rat (ref09_RatioOf.fn (ref09_Of.fn (-1)) (ref09_Of.fn c)) 4 (-1) c := by
  have h := iv_of c
  have h1 := iv_of (-1)
  have l := iv_len (k := 4) h.2 (by rw [h.1]; have : (65536 : Int) ^ 4 = 18446744073709551616 := by decide
                                    omega)
  have l1 := iv_len (k := 4) h1.2 (by rw [h1.1];decide)
  have hp : ref09_RatioOf.pre (ref09_Of.fn (-1)) (ref09_Of.fn c) := by
    refine ⟨⟨h1.2,by omega⟩,⟨h.2,by omega⟩,?_⟩
    have := vl_iv _ h.2
    rw [h.1] at this;omega
  obtain ⟨r1,r2,r3,r4,r5⟩ := RatioOf_ok hp
  rw [h.1,h1.1] at r5
  exact ⟨hp,r1,⟨by omega,by omega⟩,r3,r4,r5⟩
/-- How ratios compare. -/
theorem cmp_rat {x y : ref09_Ratio} {k m : Nat} {p q u w : Int} (hx : Rat x k p q) (hy : Rat y m u w) (hk : k ≤ 262144) (hm : m ≤ 262144) (hq : 0 < q) (hw : 0 < w) : ref09_Ratio_Cmp.fn x y = sgn (p * w - u * q) := by
  unfold ref09_Ratio_Cmp.fn ref09_Int_Cmp.fn
  rw [(iv_mul hx.c.1 hy.c.2).1,(iv_mul hy.c.1 hx.c.2).1,good_den (hx.good hk),good_den (hy.good hm)]
  have v1 := hx.v
  have v2 := hy.v
  have p1 := hx.s.2
  have p2 := hy.s.2
  generalize vl x.2.2 = a at *
  generalize vl y.2.2 = b at *
  generalize iv x.1 = c at *
  generalize iv y.1 = d at *
  have e : (c * b - d * a) * (q * w) = (p * w - u * q) * (a * b) := by
    have e1 : (c * b - d * a) * (q * w) = (c * q) * (b * w) - (d * w) * (a * q) := by grind
    rw [e1,v1,v2];grind
  have h1 := Int.mul_pos hq hw
  have h2 := Int.mul_pos p1 p2
  generalize c * b - d * a = s at *
  generalize p * w - u * q = t at *
  generalize q * w = f at *
  generalize a * b = g at *
  unfold sgn
  rcases Int.lt_trichotomy s 0 with hs | hs | hs
  · have : s * f < 0 := Int.mul_neg_of_neg_of_pos hs h1
    have ht : t < 0 := by
      apply Classical.byContradiction
      intro h
      have := Int.mul_nonneg (show 0 ≤ t by omega) (Int.le_of_lt h2)
      omega
    rw [if_pos hs,if_pos ht]
  · subst hs
    have ht : t = 0 := by
      rw [Int.zero_mul] at e
      rcases Int.mul_eq_zero.1 e.symm with h | h
      · exact h
      · omega
    rw [ht]
  · have : 0 < s * f := Int.mul_pos hs h1
    have ht : 0 < t := by
      apply Classical.byContradiction
      intro h
      have := Int.mul_nonneg (show 0 ≤ -t by omega) (Int.le_of_lt h2)
      rw [Int.neg_mul] at this;omega
    rw [if_neg (by omega),if_pos hs,if_neg (by omega),if_pos ht]

/-! ## Lists made place by place -/
theorem map_set_step {α : Type} (f : Int → Int) (l : List Int) (k : Nat) (hk : k < l.length) :
    ((l.take k).map f ++ l.drop k).set k (f (l.getD k 0)) = (l.take (k + 1)).map f ++ l.drop (k + 1) := by
  have h1 : ((l.take k).map f).length = k := by rw [List.length_map,List.length_take];omega
  rw [List.set_append_right _ _ (by omega),h1,Nat.sub_self,drop_get 0 hk,List.set_cons_zero,take_get 0 hk,List.map_append]
  simp
theorem map_get_step (f : Int → Int) (l : List Int) (k : Nat) (hk : k < l.length) : ((l.take k).map f ++ l.drop k).getD k 0 = l.getD k 0 := by
  have h1 : ((l.take k).map f).length = k := by rw [List.length_map,List.length_take];omega
  simp only [List.getD_eq_getElem?_getD]
  rw [List.getElem?_append_right (by omega),h1,Nat.sub_self,List.getElem?_drop];simp
theorem len_step {α : Type} (f : α → α) (l : List α) (k : Nat) : ((l.take k).map f ++ l.drop k).length = l.length := by
  rw [List.length_append,List.length_map,List.length_take,List.length_drop];omega

theorem tdiv_bound {x g B : Int} (hg : 1 ≤ g) (hx : -B ≤ x ∧ x ≤ B) : -B ≤ Int.tdiv x g ∧ Int.tdiv x g ≤ B := by
  have h := Int.natAbs_tdiv x g
  have h2 : x.natAbs / g.natAbs ≤ x.natAbs := Nat.div_le_self _ _
  have h3 : (Int.tdiv x g).natAbs ≤ x.natAbs := by rw [h];exact h2
  omega

theorem farkas_vector_int_by.spec (v : List Int) (g : Int) (h : farkas_vector_int_by.pre v g) : farkas_vector_int_by.wp v g (fun x => x = farkas_vector_int_by.fn v g) := by
  obtain ⟨hg,hl,hv⟩ := h
  refine ⟨⟨by omega,by omega,by omega,by omega⟩,?_⟩
  rintro x rfl
  intro _
  rintro y hy
  have hy' : y = v := by
    rw [hy,List.length_replicate,Int.toNat_natCast,Nat.min_self,List.take_of_length_le (Nat.le_refl _),List.drop_of_length_le (by rw [List.length_replicate];omega),List.append_nil]
  subst hy'
  clear hy
  refine ⟨fun n i o => ∃ k : Nat,i = (k : Int) ∧ n + k = y.length ∧ o = (y.take k).map (fun x => Int.tdiv x g) ++ y.drop k,⟨y.length,0,rfl,rfl,by simp⟩,?_⟩
  rintro n i o ⟨k,rfl,hn,rfl⟩
  rw [len_step,Int.toNat_natCast]
  refine ⟨fun hi => ?_,fun hi => ?_⟩
  · have hk : k < y.length := by omega
    rw [map_get_step _ _ _ hk]
    have := tdiv_bound hg (hv _ (getD_mem 0 hk))
    refine ⟨⟨by omega,hi⟩,hk,⟨by omega,by omega,by omega⟩,⟨by omega,hi⟩,hk,?_⟩
    rintro z rfl
    exact ⟨⟨by omega,by omega⟩,n - 1,by omega,k + 1,by omega,by omega,map_set_step (α := Int) _ _ _ hk⟩
  · have hk : k = y.length := by omega
    subst hk
    simp [farkas_vector_int_by.fn]

theorem num_common.spec (a b : Int) (h : num_common.pre a b) : num_common.wp a b (fun x => x = num_common.fn a b) := by
  obtain ⟨ha,hb⟩ := h
  refine ⟨fun n x y => ∃ p q : Nat,x = (p : Int) ∧ y = (q : Int) ∧ n = q ∧ Nat.gcd p q = Nat.gcd a.natAbs b.natAbs,⟨b.natAbs,a.natAbs,b.natAbs,by omega,by omega,rfl,rfl⟩,?_⟩
  rintro n x y ⟨p,q,rfl,rfl,hn,hg⟩
  refine ⟨fun hq => ⟨by omega,p % q,by rw [hn];exact Nat.mod_lt _ (by omega),q,p % q,rfl,(Int.ofNat_tmod p q).symm,rfl,?_⟩,fun hq => ?_⟩
  · rw [Nat.gcd_comm q,← Nat.gcd_rec,Nat.gcd_comm];exact hg
  · have : q = 0 := by omega
    subst this
    rw [Nat.gcd_zero_right] at hg
    rw [hg];rfl

theorem num_size.spec (a : Int) (h : num_size.pre a) : num_size.wp a (fun x => x = num_size.fn a) := by
  have ha : i64 a := h
  simp only [i64] at ha
  unfold num_size.wp num_size.fn
  simp only [wrap_u64]
  refine ⟨fun h => ?_,fun h => by omega⟩
  rintro x rfl
  omega
theorem farkas_size.spec (a : Int) (h : farkas_size.pre a) : farkas_size.wp a (fun x => x = farkas_size.fn a) := by
  have ha : i64 a := h
  simp only [i64] at ha
  unfold farkas_size.wp farkas_size.fn
  simp only [wrap_u64]
  refine ⟨fun h => ?_,fun h => by omega⟩
  rintro x rfl
  omega

theorem num_Gcd_1.spec (a b : Int) (h : num_Gcd_1.pre a b) : num_Gcd_1.wp a b (fun x => x = num_Gcd_1.fn a b) := by
  obtain ⟨ha,hb⟩ := h
  refine ⟨hb,⟨ha,by unfold num_size.fn;omega⟩,?_⟩
  rintro x rfl
  rintro y rfl
  rfl
theorem num_Gcd_1.nonneg (a b : Int) : 0 ≤ num_Gcd_1.fn a b := by unfold num_Gcd_1.fn;omega

theorem num_fold_uint64__num_Gcd_1.spec (l : List Int) (a : Int) (h : num_fold_uint64__num_Gcd_1.pre l a) : num_fold_uint64__num_Gcd_1.wp l a (fun x => x = num_fold_uint64__num_Gcd_1.fn l a) := by
  obtain ⟨ha,hl⟩ := h
  intro _
  refine ⟨fun n x i => ∃ k : Nat,i = (k : Int) ∧ n + k = l.length ∧ 0 ≤ x ∧ x = (l.take k).foldl num_Gcd_1.fn a,⟨l.length,0,rfl,rfl,ha,rfl⟩,?_⟩
  rintro n x i ⟨k,rfl,hn,hx0,hx⟩
  refine ⟨fun hi => ?_,fun hi => ?_⟩
  · have hk : k < l.length := by omega
    rw [gI_nat]
    refine ⟨⟨by omega,hi⟩,⟨hx0,hl _ (getD_mem 0 hk)⟩,?_⟩
    rintro y rfl
    refine ⟨⟨by omega,by omega⟩,n - 1,by omega,k + 1,by omega,by omega,num_Gcd_1.nonneg _ _,?_⟩
    rw [take_get 0 hk,List.foldl_append,hx];rfl
  · have hk : k = l.length := by omega
    subst hk
    rw [List.take_of_length_le (Nat.le_refl _)] at hx
    exact hx

theorem num_Gcd.spec (l : List Int) (h : num_Gcd.pre l) : num_Gcd.wp l (fun x => x = num_Gcd.fn l) := by
  refine ⟨⟨Int.le_refl 0,h⟩,?_⟩
  rintro x rfl
  have e : num_fold_uint64__num_Gcd_1.fn l 0 = gcdL l := rfl
  rw [e]
  have h0 : 0 ≤ gcdL l := by
    have : ∀ (l : List Int) (a : Int),0 ≤ a → 0 ≤ l.foldl num_Gcd_1.fn a := by
      intro l
      induction l with
      | nil => exact fun a h => h
      | cons x l ih => exact fun a h => ih _ (num_Gcd_1.nonneg _ _)
    exact this l 0 (Int.le_refl 0)
  unfold num_Gcd.fn
  refine ⟨fun h => by rw [if_pos h],fun h => ⟨⟨by omega,by omega⟩,by rw [if_neg h]⟩⟩

/-! ## What numbers have in common -/
theorem foldl_gcd_dvd : ∀ (l : List Int) (a : Int),l.foldl num_Gcd_1.fn a ∣ a ∧ ∀ x ∈ l,l.foldl num_Gcd_1.fn a ∣ x
  | [],a => ⟨Int.dvd_refl a,fun x hx => by cases hx⟩
  | y :: l,a => by
    obtain ⟨h1,h2⟩ := foldl_gcd_dvd l (num_Gcd_1.fn a y)
    have d1 : num_Gcd_1.fn a y ∣ a := Int.ofNat_dvd_left.2 (Nat.gcd_dvd_left _ _)
    have d2 : num_Gcd_1.fn a y ∣ y := Int.ofNat_dvd_left.2 (Nat.gcd_dvd_right _ _)
    refine ⟨Int.dvd_trans h1 d1,fun x hx => ?_⟩
    rcases List.mem_cons.1 hx with e | e
    · subst e;exact Int.dvd_trans h1 d2
    · exact h2 x e
theorem gcdL_dvd {l : List Int} {x : Int} (h : x ∈ l) : gcdL l ∣ x := (foldl_gcd_dvd l 0).2 x h
theorem gcdL_nonneg (l : List Int) : 0 ≤ gcdL l := by
  have : ∀ (l : List Int) (a : Int),0 ≤ a → 0 ≤ l.foldl num_Gcd_1.fn a := by
    intro l
    induction l with
    | nil => exact fun a h => h
    | cons x l ih => exact fun a h => ih _ (num_Gcd_1.nonneg _ _)
  exact this l 0 (Int.le_refl 0)
/-- Whatever divides all numbers divides what they have in common. -/
theorem dvd_gcdL {l : List Int} {d : Int} (h : ∀ x ∈ l,d ∣ x) : d ∣ gcdL l := by
  have : ∀ (l : List Int) (a : Int),d ∣ a → (∀ x ∈ l,d ∣ x) → d ∣ l.foldl num_Gcd_1.fn a := by
    intro l
    induction l with
    | nil => exact fun a h _ => h
    | cons y l ih =>
      refine fun a ha hl => ih _ ?_ fun x hx => hl x (List.mem_cons_of_mem _ hx)
      have h1 : d.natAbs ∣ a.natAbs := Int.natAbs_dvd_natAbs.2 ha
      have h2 : d.natAbs ∣ y.natAbs := Int.natAbs_dvd_natAbs.2 (hl y List.mem_cons_self)
      have := Nat.dvd_gcd h1 h2
      unfold num_Gcd_1.fn
      exact Int.natAbs_dvd.1 (Int.ofNat_dvd.2 this)
  exact this l 0 ⟨0,by simp⟩ h
theorem gcdL_bound {l : List Int} {B : Int} (h0 : 0 ≤ B) (h : inB B l) : gcdL l ≤ B := by
  by_cases hz : ∃ x ∈ l,x ≠ 0
  · obtain ⟨x,hx,hne⟩ := hz
    have hd := gcdL_dvd hx
    have hb := h x hx
    have := Int.le_of_dvd (b := (x.natAbs : Int)) (by omega) (Int.dvd_natAbs.2 hd)
    omega
  · have : gcdL l = 0 := by
      have hd : ∀ x ∈ l,(0 : Int) ∣ x := fun x hx => by
        have : x = 0 := Classical.byContradiction fun e => hz ⟨x,hx,e⟩
        rw [this];exact Int.dvd_refl 0
      exact Int.zero_dvd.1 (dvd_gcdL hd)
    omega
theorem gcdL_fn {l : List Int} (h : inB 4611686018427387904 l) : num_Gcd.fn l = (gcdL l,0) := by
  have := gcdL_bound (by decide) h
  unfold num_Gcd.fn;rw [if_neg (by omega)]
theorem inB.i64 {B : Int} {l : List Int} (h : inB B l) (hB : B ≤ 4611686018427387904) : ∀ x ∈ l,i64 x := fun x hx => by
  have := h x hx
  exact ⟨by omega,by omega⟩
theorem inB.mono {A B : Int} {l : List Int} (h : inB A l) (hB : A ≤ B) : inB B l := fun x hx => by
  have := h x hx
  exact ⟨by omega,by omega⟩

theorem farkas_row_reduced.spec (r : farkas_row) (h : farkas_row_reduced.pre r) : farkas_row_reduced.wp r (fun x => x = farkas_row_reduced.fn r) := by
  obtain ⟨hl,hv⟩ := h
  refine ⟨inB.i64 hv (by decide),?_⟩
  rintro x rfl
  rw [gcdL_fn hv]
  unfold farkas_row_reduced.fn
  refine ⟨fun h => ⟨⟨by omega,hl,hv⟩,?_⟩,fun h => by rw [if_neg h]⟩
  rintro y rfl
  rw [if_pos h]
theorem reduced_len (r : farkas_row) : (farkas_row_reduced.fn r).2.length = r.2.length := by
  unfold farkas_row_reduced.fn;split
  · exact List.length_map ..
  · rfl
theorem reduced_inB {B : Int} {r : farkas_row} (h : inB B r.2) : inB B (farkas_row_reduced.fn r).2 := by
  unfold farkas_row_reduced.fn;split
  · rename_i hg
    intro x hx
    obtain ⟨y,hy,rfl⟩ := List.mem_map.1 hx
    exact tdiv_bound (by omega) (h y hy)
  · exact h

theorem slices_Equal_farkas_vector_int_int.spec (a b : List Int) : slices_Equal_farkas_vector_int_int.wp a b (fun x => x = slices_Equal_farkas_vector_int_int.fn a b) := by
  unfold slices_Equal_farkas_vector_int_int.wp slices_Equal_farkas_vector_int_int.fn
  intro _ _
  refine ⟨fun h => ?_,fun h _ => ?_⟩
  · refine (beq_eq_false_iff_ne.2 fun e => h (by rw [e])).symm
  · have hlen : a.length = b.length := by omega
    refine ⟨fun n i => ∃ k : Nat,i = (k : Int) ∧ n + k = a.length ∧ a.take k = b.take k,⟨a.length,0,rfl,rfl,rfl⟩,?_⟩
    rintro n i ⟨k,rfl,hn,ht⟩
    rw [gI_nat,gI_nat]
    refine ⟨fun hi => ⟨⟨by omega,hi⟩,⟨by omega,by omega⟩,fun hne => ?_,fun heq => ⟨⟨by omega,by omega⟩,n - 1,by omega,k + 1,by omega,by omega,?_⟩⟩,fun hi => ?_⟩
    · exact (beq_eq_false_iff_ne.2 fun e => hne (by rw [e])).symm
    · rw [take_get 0 (by omega),take_get 0 (by omega),ht,heq]
    · rw [List.take_of_length_le (by omega),List.take_of_length_le (by omega)] at ht
      rw [ht];exact (beq_self_eq_true b).symm

theorem farkas_table_kept_1.spec (o : farkas_row) (eq : Bool) (v : List Int) (n : Int) (rows : List farkas_row) (h : farkas_table_kept_1.pre o eq v n rows) : farkas_table_kept_1.wp o eq v n rows (fun x => x = farkas_table_kept_1.fn o eq v n rows) := by
  obtain ⟨h1,h2,h3,h4⟩ := h
  unfold farkas_table_kept_1.wp
  refine ⟨fun _ => ⟨by omega,by omega⟩,fun _ => ⟨by omega,by omega⟩,fun _ => ⟨by omega,by omega⟩,fun _ => ⟨by omega,by omega⟩,rfl⟩
theorem slices_IndexFunc_Sfarkas_row_farkas_row__farkas_table_kept_1.spec (l : List farkas_row) (eq : Bool) (v : List Int) (n : Int) (rows : List farkas_row) (h : slices_IndexFunc_Sfarkas_row_farkas_row__farkas_table_kept_1.pre l eq v n rows) : slices_IndexFunc_Sfarkas_row_farkas_row__farkas_table_kept_1.wp l eq v n rows (fun x => x = slices_IndexFunc_Sfarkas_row_farkas_row__farkas_table_kept_1.fn l eq v n rows) := by
  intro hl
  obtain ⟨I,h0,hI⟩ := idx_wp (fun o => farkas_table_kept_1.fn o eq v n rows) d_farkas_row l hl (fun x => x = slices_IndexFunc_Sfarkas_row_farkas_row__farkas_table_kept_1.fn l eq v n rows) rfl
  refine ⟨I,h0,fun m x hx => ⟨fun hi => ?_,(hI m x hx).2⟩⟩
  have := (hI m x hx).1 hi
  exact ⟨this.1,h _ (getD_mem _ (by have := this.1;omega)),this.2⟩
theorem slices_ContainsFunc_Sfarkas_row_farkas_row__farkas_table_kept_1.spec (l : List farkas_row) (eq : Bool) (v : List Int) (n : Int) (rows : List farkas_row) (h : slices_ContainsFunc_Sfarkas_row_farkas_row__farkas_table_kept_1.pre l eq v n rows) : slices_ContainsFunc_Sfarkas_row_farkas_row__farkas_table_kept_1.wp l eq v n rows (fun x => x = slices_ContainsFunc_Sfarkas_row_farkas_row__farkas_table_kept_1.fn l eq v n rows) := by
  refine ⟨h,?_⟩;rintro x rfl;exact idxI_ge _ l 0 (Int.le_refl 0)
theorem farkas_table_kept_2.spec (x : Int) : farkas_table_kept_2.wp x (fun y => y = farkas_table_kept_2.fn x) := rfl
theorem slices_IndexFunc_farkas_vector_int_int__farkas_table_kept_2.spec (l : List Int) : slices_IndexFunc_farkas_vector_int_int__farkas_table_kept_2.wp l (fun x => x = slices_IndexFunc_farkas_vector_int_int__farkas_table_kept_2.fn l) :=
  fun hl => idx_wp farkas_table_kept_2.fn 0 l hl _ rfl
theorem slices_ContainsFunc_farkas_vector_int_int__farkas_table_kept_2.spec (l : List Int) : slices_ContainsFunc_farkas_vector_int_int__farkas_table_kept_2.wp l (fun x => x = slices_ContainsFunc_farkas_vector_int_int__farkas_table_kept_2.fn l) := by
  rintro x rfl;exact idxI_ge _ l 0 (Int.le_refl 0)

/-! ## The rows kept -/
theorem addRow_rows {B : Int} {L : Nat} {n : Int} {out : List farkas_row} {r : farkas_row} (ho : rowsB B L out) (hr : r.2.length = L ∧ inB B r.2) : rowsB B L (addRow n out r) := by
  unfold addRow
  split
  · exact ho
  · intro x hx
    rcases List.mem_append.1 hx with e | e
    · exact ho x e
    · rw [List.mem_singleton] at e;subst e;exact hr
theorem addRow_len (n : Int) (out : List farkas_row) (r : farkas_row) : (addRow n out r).length ≤ out.length + 1 := by
  unfold addRow;split
  · omega
  · simp
theorem dedup_step (n : Int) (l : List farkas_row) (k : Nat) (hk : k < l.length) : dedupR n (l.take (k + 1)) = addRow n (dedupR n (l.take k)) (farkas_row_reduced.fn (l.getD k d_farkas_row)) := by
  unfold dedupR;rw [take_get d_farkas_row hk,List.foldl_append];rfl
theorem dedup_rows {B : Int} {L : Nat} {n : Int} {l : List farkas_row} (h : rowsB B L l) : ∀ k,k ≤ l.length → rowsB B L (dedupR n (l.take k)) ∧ (dedupR n (l.take k)).length ≤ k
  | 0,_ => ⟨fun r hr => by simp [dedupR] at hr,by simp [dedupR]⟩
  | k + 1,hk => by
    obtain ⟨h1,h2⟩ := dedup_rows (n := n) h k (by omega)
    rw [dedup_step n l k (by omega)]
    have hr := h _ (getD_mem d_farkas_row (by omega : k < l.length))
    refine ⟨addRow_rows h1 ⟨by rw [reduced_len];exact hr.1,reduced_inB hr.2⟩,?_⟩
    have := addRow_len n (dedupR n (l.take k)) (farkas_row_reduced.fn (l.getD k d_farkas_row))
    omega

theorem farkas_table_kept.spec (t : farkas_table) (l : List farkas_row) (h : farkas_table_kept.pre t l) : farkas_table_kept.wp t l (fun x => x = farkas_table_kept.fn t l) := by
  obtain ⟨ht,hl,L,hL1,hL2,hr⟩ := h
  intro _
  refine ⟨fun n i o => ∃ k : Nat,i = (k : Int) ∧ n + k = l.length ∧ o = dedupR t.1 (l.take k),⟨l.length,0,rfl,rfl,rfl⟩,?_⟩
  rintro n i o ⟨k,rfl,hn,rfl⟩
  obtain ⟨d1,d2⟩ := dedup_rows (n := t.1) hr k (by omega)
  refine ⟨fun hi => ?_,fun hi => ?_⟩
  · have hk : k < l.length := by omega
    have hrk := hr _ (getD_mem d_farkas_row hk)
    have hst := dedup_step t.1 l k hk
    refine ⟨⟨by omega,hi⟩,?_⟩
    rintro r rfl
    simp only [Int.toNat_natCast]
    refine ⟨⟨by omega,hrk.2⟩,?_⟩
    rintro r rfl
    refine ⟨fun o ho => ⟨ht,by omega,by rw [(d1 o ho).1];omega,by rw [reduced_len,hrk.1];omega⟩,fun hc => ?_,fun hc => ?_⟩
    · refine ⟨⟨?_,?_⟩,⟨by omega,by omega⟩,n - 1,by omega,k + 1,by omega,by omega,?_⟩
      · rw [List.length_singleton];omega
      · rw [List.length_singleton];omega
      · rw [hst,addRow,if_neg]
        have hc' : slices_ContainsFunc_Sfarkas_row_farkas_row__farkas_table_kept_1.fn (dedupR t.1 (l.take k)) (farkas_row_reduced.fn (l.getD k d_farkas_row)).1 (farkas_row_reduced.fn (l.getD k d_farkas_row)).2 t.1 [] = false := hc
        rw [hc'];simp
    · refine ⟨⟨by omega,by omega⟩,n - 1,by omega,k + 1,by omega,by omega,?_⟩
      rw [hst,addRow,if_pos (show slices_ContainsFunc_Sfarkas_row_farkas_row__farkas_table_kept_1.fn (dedupR t.1 (l.take k)) (farkas_row_reduced.fn (l.getD k d_farkas_row)).1 (farkas_row_reduced.fn (l.getD k d_farkas_row)).2 t.1 [] = true from hc)]
  · have hk : k = l.length := by omega
    subst hk
    rw [List.take_of_length_le (Nat.le_refl _)] at d1 d2 ⊢
    unfold farkas_table_kept.fn
    refine ⟨fun h4 => by rw [if_pos h4],fun h4 => ?_⟩
    rw [if_neg h4]
    obtain ⟨I,h0,hI⟩ := scan_wp (fun r : farkas_row => !(r.2.any farkas_table_kept_2.fn)) d_farkas_row (dedupR t.1 l) (by omega) (((0,([] : List farkas_row)),(3 : Int)) = if (dedupR t.1 l).any (fun r => r.2.any farkas_table_kept_2.fn) = true then ((0,[]),3) else ((t.1,dedupR t.1 l),0))
      (((t.1,dedupR t.1 l),(0 : Int)) = if (dedupR t.1 l).any (fun r => r.2.any farkas_table_kept_2.fn) = true then ((0,[]),3) else ((t.1,dedupR t.1 l),0))
      (fun h => by
        rw [if_pos]
        obtain ⟨x,hx,hx2⟩ := List.all_eq_false.1 h
        exact List.any_eq_true.2 ⟨x,hx,by simpa using hx2⟩)
      (fun h => by
        rw [if_neg]
        intro ha
        obtain ⟨x,hx,hx2⟩ := List.any_eq_true.1 ha
        have := List.all_eq_true.1 h x hx
        rw [hx2] at this;cases this)
    refine ⟨I,h0,fun m x hx => ⟨fun hi => ?_,(hI m x hx).2⟩⟩
    obtain ⟨a1,a2,a3⟩ := (hI m x hx).1 hi
    refine ⟨a1,by omega,?_⟩
    rintro r rfl
    exact ⟨fun h => a2 (by rw [show ((dedupR t.1 l).getD x.toNat d_farkas_row).2.any farkas_table_kept_2.fn = true from h];rfl),fun h => a3 (by rw [show ((dedupR t.1 l).getD x.toNat d_farkas_row).2.any farkas_table_kept_2.fn = false from h];rfl)⟩
/-- What is kept is small. -/
theorem kept_ok {t : farkas_table} {l : List farkas_row} (h : farkas_table_kept.pre t l) (L : Nat) (hL : t.1 + 1 ≤ (L : Int) ∧ L ≤ 1048576) (hr : rowsB 4611686018427387904 L l) (h0 : (farkas_table_kept.fn t l).2 = 0) :
    (farkas_table_kept.fn t l).1 = (t.1,dedupR t.1 l) ∧ tabB L (t.1,dedupR t.1 l) := by
  have hd := (dedup_rows (n := t.1) hr l.length (Nat.le_refl _)).1
  rw [List.take_of_length_le (Nat.le_refl _)] at hd
  unfold farkas_table_kept.fn at h0 ⊢
  split at h0
  · simp at h0
  · rename_i h4
    split at h0
    · simp at h0
    · rename_i hb
      rw [if_neg h4,if_neg hb]
      refine ⟨rfl,⟨h.1,hL.1,hL.2⟩,by simp only [];omega,fun r hr' => ⟨(hd r hr').1,fun x hx => ?_⟩⟩
      by_cases hx2 : farkas_table_kept_2.fn x = true
      · exact absurd (List.any_eq_true.2 ⟨r,hr',List.any_eq_true.2 ⟨x,hx,hx2⟩⟩) hb
      · simp only [farkas_table_kept_2.fn,Bool.or_eq_true,decide_eq_true_eq,not_or] at hx2
        omega

/-! ## Lists made place by place -/
theorem fill_step (z : List Int) (k : Nat) (hk : k < z.length) :
    (z.take k ++ List.replicate (z.length - k) 0).set k (z.getD k 0) = z.take (k + 1) ++ List.replicate (z.length - (k + 1)) 0 := by
  have h1 : (z.take k).length = k := by rw [List.length_take];omega
  rw [List.set_append_right _ _ (by omega),h1,Nat.sub_self,show z.length - k = z.length - (k + 1) + 1 from by omega,List.replicate_succ,List.set_cons_zero,take_get 0 hk]
  simp
theorem fill_len (z : List Int) (k : Nat) (hk : k ≤ z.length) : (z.take k ++ List.replicate (z.length - k) 0).length = z.length := by
  rw [List.length_append,List.length_take,List.length_replicate];omega
theorem flatMap_take {α β : Type} (f : α → List β) (d : α) {l : List α} {k : Nat} (hk : k < l.length) : (l.take (k + 1)).flatMap f = (l.take k).flatMap f ++ f (l.getD k d) := by
  rw [take_get d hk,List.flatMap_append];simp
theorem gather_snoc {α β : Type} (f : Nat → α → List β) : ∀ (l : List α) (i : Nat) (x : α),gather f (l ++ [x]) i = gather f l i ++ f (i + l.length) x
  | [],i,x => by simp [gather]
  | y :: l,i,x => by simp only [List.cons_append,gather,gather_snoc f l,List.length_cons,List.append_assoc,Nat.add_assoc,Nat.add_comm 1]
theorem gather_take {α β : Type} (f : Nat → α → List β) (d : α) {l : List α} {k : Nat} (hk : k < l.length) : gather f (l.take (k + 1)) 0 = gather f (l.take k) 0 ++ f k (l.getD k d) := by
  rw [take_get d hk,gather_snoc,List.length_take]
  congr 2;omega
theorem gather_mem {α β : Type} (f : Nat → α → List β) {y : β} : ∀ (l : List α) (i : Nat),y ∈ gather f l i → ∃ j x,x ∈ l ∧ y ∈ f j x
  | [],i,h => by simp [gather] at h
  | x :: l,i,h => by
    rcases List.mem_append.1 h with e | e
    · exact ⟨i,x,List.mem_cons_self,e⟩
    · obtain ⟨j,z,hz,hy⟩ := gather_mem f l (i + 1) e
      exact ⟨j,z,List.mem_cons_of_mem _ hz,hy⟩
theorem gather_len {α β : Type} (f : Nat → α → List β) (hf : ∀ i x,(f i x).length ≤ 1) : ∀ (l : List α) (i : Nat),(gather f l i).length ≤ l.length
  | [],i => by simp [gather]
  | x :: l,i => by
    have h1 := hf i x
    have h2 := gather_len f hf l (i + 1)
    simp only [gather,List.length_append,List.length_cons];omega
theorem flatMap_len {α β : Type} (f : α → List β) (c : Nat) : ∀ (l : List α),(∀ x ∈ l,(f x).length ≤ c) → (l.flatMap f).length ≤ c * l.length
  | [],_ => by simp
  | x :: l,h => by
    have h1 := h x List.mem_cons_self
    have h2 := flatMap_len f c l fun y hy => h y (List.mem_cons_of_mem _ hy)
    simp only [List.flatMap_cons,List.length_append,List.length_cons,Nat.mul_add,Nat.mul_one];omega

theorem zipWith_getD (f : Int → Int → Int) : ∀ (x y : List Int) (k : Nat),k < x.length → k < y.length → (List.zipWith f x y).getD k 0 = f (x.getD k 0) (y.getD k 0)
  | [],_,_,h,_ => by simp at h
  | _ :: _,[],_,_,h => by simp at h
  | a :: x,b :: y,0,_,_ => by simp
  | a :: x,b :: y,k + 1,h1,h2 => by
    simpa using zipWith_getD f x y k (by simpa using h1) (by simpa using h2)

theorem farkas_vector_int_sum.spec (x : List Int) (a b : Int) (y : List Int) (h : farkas_vector_int_sum.pre x a b y) : farkas_vector_int_sum.wp x a b y (fun z => z = farkas_vector_int_sum.fn x a b y) := by
  obtain ⟨hl,hl2,hx,hy,ha,hb⟩ := h
  refine ⟨⟨by omega,by omega,by omega,by omega⟩,?_⟩
  rintro z rfl
  intro _ _
  have hz : (farkas_vector_int_sum.fn x a b y).length = x.length := by unfold farkas_vector_int_sum.fn;rw [List.length_zipWith];omega
  generalize hzz : farkas_vector_int_sum.fn x a b y = z at hz
  rw [Int.toNat_natCast]
  refine ⟨fun n i o => ∃ k : Nat,i = (k : Int) ∧ n + k = x.length ∧ o = z.take k ++ List.replicate (z.length - k) 0,⟨x.length,0,rfl,rfl,by simp [hz]⟩,?_⟩
  rintro n i o ⟨k,rfl,hn,rfl⟩
  refine ⟨fun hi => ?_,fun hi => ?_⟩
  · have hk : k < x.length := by omega
    rw [fill_len _ _ (by omega),gI_nat,gI_nat,Int.toNat_natCast]
    have bx := hx _ (getD_mem 0 hk)
    have bY := hy _ (getD_mem 0 (by omega : k < y.length))
    have m1 := mul_bound ha.1 ha.2 bx.1 bx.2
    have m2 := mul_bound hb.1 hb.2 bY.1 bY.2
    have hzk : z.getD k 0 = a * x.getD k 0 + b * y.getD k 0 := by
      rw [← hzz];exact zipWith_getD (fun p q => a * p + b * q) x y k hk (by omega)
    refine ⟨⟨by omega,hi⟩,⟨by omega,by omega⟩,⟨by omega,by omega⟩,⟨by omega,by omega⟩,⟨by omega,by omega⟩,⟨by omega,by omega⟩,by omega,?_⟩
    rintro w rfl
    refine ⟨⟨by omega,by omega⟩,n - 1,by omega,k + 1,by omega,by omega,?_⟩
    rw [← hzk];exact fill_step z k (by omega)
  · have hk : k = x.length := by omega
    rw [List.take_of_length_le (by omega),show z.length - k = 0 from by omega];simp
theorem sum_inB {x : List Int} {a b : Int} {y : List Int} (h : farkas_vector_int_sum.pre x a b y) : (farkas_vector_int_sum.fn x a b y).length = x.length ∧ inB 4611686018427387904 (farkas_vector_int_sum.fn x a b y) := by
  obtain ⟨hl,hl2,hx,hy,ha,hb⟩ := h
  have hz : (farkas_vector_int_sum.fn x a b y).length = x.length := by unfold farkas_vector_int_sum.fn;rw [List.length_zipWith];omega
  refine ⟨hz,fun w hw => ?_⟩
  obtain ⟨k,hk,rfl⟩ := List.getElem_of_mem hw
  have e : (farkas_vector_int_sum.fn x a b y)[k] = (farkas_vector_int_sum.fn x a b y).getD k 0 := by simp [List.getD_eq_getElem?_getD,hk]
  rw [e,farkas_vector_int_sum.fn,zipWith_getD _ x y k (by omega) (by omega)]
  have bx := hx _ (getD_mem 0 (by omega : k < x.length))
  have bY := hy _ (getD_mem 0 (by omega : k < y.length))
  have m1 := mul_bound ha.1 ha.2 bx.1 bx.2
  have m2 := mul_bound hb.1 hb.2 bY.1 bY.2
  omega

/-! ## Which row solves -/
theorem solveI_mem : ∀ (l : List (Bool × Int)) (i best a : Int),solveI l i best a = best ∨ ∃ j,j < l.length ∧ solveI l i best a = i + (j : Int) ∧ (l.getD j (false,0)).1 = true ∧ (l.getD j (false,0)).2 ≠ 0
  | [],_,_,_ => Or.inl rfl
  | r :: l,i,best,a => by
    unfold solveI
    split
    · rename_i hc
      simp only [Bool.and_eq_true,bne_iff_ne] at hc
      rcases solveI_mem l (i + 1) i (absI r.2) with h | ⟨j,h1,h2,h3,h4⟩
      · right;exact ⟨0,by simp,by rw [h];simp,by simpa using hc.1.1,by simpa using hc.1.2⟩
      · right;exact ⟨j + 1,by simpa using h1,by rw [h2];omega,by simpa using h3,by simpa using h4⟩
    · rcases solveI_mem l (i + 1) best a with h | ⟨j,h1,h2,h3,h4⟩
      · exact Or.inl h
      · right;exact ⟨j + 1,by simpa using h1,by rw [h2];omega,by simpa using h3,by simpa using h4⟩
theorem solveI_none : ∀ (l : List (Bool × Int)) (i best a : Int),0 ≤ i → solveI l i best a < 0 → best < 0 ∧ ∀ r ∈ l,r.1 = true → r.2 = 0
  | [],i,best,a,_,h => ⟨h,fun r hr => by cases hr⟩
  | r :: l,i,best,a,hi,h => by
    unfold solveI at h
    split at h
    · have := (solveI_none l (i + 1) i _ (by omega) h).1;omega
    · rename_i hc
      obtain ⟨h1,h2⟩ := solveI_none l (i + 1) best a (by omega) h
      refine ⟨h1,fun x hx hx1 => ?_⟩
      rcases List.mem_cons.1 hx with e | e
      · subst e
        apply Classical.byContradiction
        intro hne
        apply hc
        simp [hx1,hne,h1]
      · exact h2 x e hx1

theorem solver_cases {t : farkas_table} {v : Int} : (farkas_table_solver.fn t v < 0 ∧ ∀ r ∈ t.2, r.1 = true → gI r.2 v = 0) ∨
    ∃ k : Nat,k < t.2.length ∧ farkas_table_solver.fn t v = (k : Int) ∧ (t.2.getD k d_farkas_row).1 = true ∧ gI (t.2.getD k d_farkas_row).2 v ≠ 0 := by
  unfold farkas_table_solver.fn
  rcases solveI_mem (t.2.map fun r => (r.1,gI r.2 v)) 0 (-1) 0 with h | ⟨j,h1,h2,h3,h4⟩
  · left
    refine ⟨by omega,fun r hr hr1 => ?_⟩
    have := (solveI_none (t.2.map fun r => (r.1,gI r.2 v)) 0 (-1) 0 (Int.le_refl 0) (by omega)).2 (r.1,gI r.2 v) (List.mem_map.2 ⟨r,hr,rfl⟩) hr1
    exact this
  · right
    rw [List.length_map] at h1
    have e : (t.2.map fun r => (r.1,gI r.2 v)).getD j (false,0) = ((t.2.getD j d_farkas_row).1,gI (t.2.getD j d_farkas_row).2 v) := by
      simp [List.getD_eq_getElem?_getD,h1]
    rw [e] at h3 h4
    exact ⟨j,h1,by rw [h2];omega,h3,h4⟩

theorem farkas_table_solver.spec (t : farkas_table) (v : Int) (h : farkas_table_solver.pre t v) : farkas_table_solver.wp t v (fun x => x = farkas_table_solver.fn t v) := by
  obtain ⟨hv,L,hL,hr⟩ := h
  intro _
  refine ⟨fun n b i => ∃ (k : Nat) (a : Int),i = (k : Int) ∧ n + k = t.2.length ∧ (b = -1 ∨ ((0 ≤ b ∧ b < (t.2.length : Int)) ∧ a = absI (gI (t.2.getD b.toNat d_farkas_row).2 v))) ∧
    farkas_table_solver.fn t v = solveI ((t.2.drop k).map fun r => (r.1,gI r.2 v)) k b a,⟨t.2.length,0,0,rfl,rfl,Or.inl rfl,rfl⟩,?_⟩
  rintro n b i ⟨k,a,rfl,hn,hb,hs⟩
  have hgb : ∀ {j : Nat},j < t.2.length → (0 ≤ v ∧ v < ((t.2.getD j d_farkas_row).2.length : Int)) ∧ -1073741824 ≤ gI (t.2.getD j d_farkas_row).2 v ∧ gI (t.2.getD j d_farkas_row).2 v ≤ 1073741824 := fun {j} hj => by
    have := hr _ (getD_mem d_farkas_row hj)
    exact ⟨⟨hv,by rw [this.1];exact hL⟩,this.2 _ (getD_mem 0 (by rw [this.1];omega))⟩
  refine ⟨fun hi => ?_,fun hi => ?_⟩
  · have hk : k < t.2.length := by omega
    refine ⟨⟨by omega,hi⟩,?_⟩
    rintro r hre
    rw [Int.toNat_natCast] at hre
    have g1 := hgb hk
    rw [← hre] at g1
    rw [drop_get d_farkas_row hk,List.map_cons,← hre] at hs
    have g2 : ∀ (_ : ((r.1 && (gI r.2 v != 0)) && (!(decide (b < 0)))) = true),(0 ≤ b ∧ b < (t.2.length : Int)) ∧ (0 ≤ v ∧ v < ((t.2.getD b.toNat d_farkas_row).2.length : Int)) ∧ -1073741824 ≤ gI (t.2.getD b.toNat d_farkas_row).2 v ∧ gI (t.2.getD b.toNat d_farkas_row).2 v ≤ 1073741824 := fun hc => by
      simp only [Bool.and_eq_true,Bool.not_eq_true',decide_eq_false_iff_not] at hc
      rcases hb with hb | hb
      · omega
      · exact ⟨hb.1,hgb (by omega)⟩
    refine ⟨fun _ => g1.1,fun _ => g1.1,fun _ => g1.1,fun _ => ⟨by omega,by omega⟩,fun hc => (g2 hc).1,fun hc => (g2 hc).2.1,fun hc => (g2 hc).1,fun hc => (g2 hc).2.1,fun hc => ?_,?_⟩
    · have := (g2 hc).2.2;exact ⟨by omega,by omega⟩
    rintro w hw
    have hcond : ((r.1 && (gI r.2 v != 0)) && (decide (b < 0) || decide (absI (gI r.2 v) < w))) = ((r.1 && (gI r.2 v != 0)) && (decide (b < 0) || decide (absI (gI r.2 v) < a))) := by
      rcases hb with hb | hb
      · simp [hb]
      · rw [hw,hb.2];rfl
    refine (?_ : (((r.1 && (gI r.2 v != 0)) && (decide (b < 0) || decide (absI (gI r.2 v) < w))) = true → _) ∧ (((r.1 && (gI r.2 v != 0)) && (decide (b < 0) || decide (absI (gI r.2 v) < w))) = false → _))
    rw [hcond]
    unfold solveI at hs
    refine ⟨fun hc => ⟨⟨by omega,by omega⟩,n - 1,by omega,k + 1,absI (gI r.2 v),by omega,by omega,Or.inr ⟨⟨by omega,by omega⟩,by rw [Int.toNat_natCast,← hre]⟩,?_⟩,fun hc => ⟨⟨by omega,by omega⟩,n - 1,by omega,k + 1,a,by omega,by omega,hb,?_⟩⟩
    · rw [if_pos hc] at hs;rw [hs];rfl
    · rw [if_neg (by rw [hc];simp)] at hs;rw [hs];rfl
  · have hk : k = t.2.length := by omega
    subst hk
    rw [List.drop_of_length_le (Nat.le_refl _)] at hs
    exact hs.symm

/-! ## A variable eliminated -/
theorem rowsB.mono {A B : Int} {L : Nat} {l : List farkas_row} (h : rowsB A L l) (hB : A ≤ B) : rowsB B L l := fun r hr => ⟨(h r hr).1,(h r hr).2.mono hB⟩
theorem rowsB.at {B : Int} {L : Nat} {l : List farkas_row} (h : rowsB B L l) {k : Nat} (hk : k < l.length) : (l.getD k d_farkas_row).2.length = L ∧ inB B (l.getD k d_farkas_row).2 := h _ (getD_mem _ hk)
theorem gI_inB {B : Int} {l : List Int} (h : inB B l) {v : Int} (h1 : 0 ≤ v) (h2 : v < (l.length : Int)) : -B ≤ gI l v ∧ gI l v ≤ B := h _ (getD_mem 0 (by omega))

theorem wEq_len (v k : Int) (e : farkas_row) (i : Nat) (r : farkas_row) : (wEq v k e i r).length ≤ 1 := by
  unfold wEq;split
  · simp
  · split <;> simp
theorem wEq_ok {v k : Int} {L : Nat} {e : farkas_row} (hv : 0 ≤ v) (hvL : v < (L : Int)) (hL : L ≤ 1048576) (he : e.2.length = L ∧ inB 1073741824 e.2) (i : Nat) {r : farkas_row} (hr : r.2.length = L ∧ inB 1073741824 r.2) :
    farkas_vector_int_sum.pre r.2 (if gI e.2 v < 0 then -(gI e.2 v) else gI e.2 v) (-(if gI e.2 v < 0 then (-1 : Int) else 1) * gI r.2 v) e.2 ∧ rowsB 4611686018427387904 L (wEq v k e i r) ∧ (wEq v k e i r).length ≤ 1 := by
  have b1 := gI_inB he.2 hv (by rw [he.1];exact hvL)
  have b2 := gI_inB hr.2 hv (by rw [hr.1];exact hvL)
  have hp : farkas_vector_int_sum.pre r.2 (if gI e.2 v < 0 then -(gI e.2 v) else gI e.2 v) (-(if gI e.2 v < 0 then (-1 : Int) else 1) * gI r.2 v) e.2 := by
    refine ⟨by rw [hr.1,he.1],by omega,hr.2,he.2,?_,?_⟩
    · split <;> omega
    · split
      · rw [show -(-1 : Int) = 1 from rfl,Int.one_mul];omega
      · rw [Int.neg_mul,Int.one_mul];omega
  refine ⟨hp,?_,?_⟩
  · unfold wEq
    split
    · intro x hx;cases hx
    · split
      · intro x hx;rw [List.mem_singleton] at hx;subst hx;exact ⟨hr.1,hr.2.mono (by decide)⟩
      · intro x hx;rw [List.mem_singleton] at hx;subst hx
        have := sum_inB hp
        exact ⟨by rw [this.1];exact hr.1,this.2⟩
  · unfold wEq;split
    · simp
    · split <;> simp

theorem wPair_ok {v : Int} {L : Nat} (hv : 0 ≤ v) (hvL : v < (L : Int)) (hL : L ≤ 1048576) {l u : farkas_row} (hl : l.2.length = L ∧ inB 1073741824 l.2) (hu : u.2.length = L ∧ inB 1073741824 u.2) :
    farkas_vector_int_sum.pre l.2 (-(gI u.2 v)) (gI l.2 v) u.2 ∧ rowsB 4611686018427387904 L (wPair v l u) ∧ (wPair v l u).length ≤ 1 := by
  have b1 := gI_inB hl.2 hv (by rw [hl.1];exact hvL)
  have b2 := gI_inB hu.2 hv (by rw [hu.1];exact hvL)
  have hp : farkas_vector_int_sum.pre l.2 (-(gI u.2 v)) (gI l.2 v) u.2 := ⟨by rw [hl.1,hu.1],by omega,hl.2,hu.2,⟨by omega,by omega⟩,b1⟩
  refine ⟨hp,?_,?_⟩
  · unfold wPair
    split
    · intro x hx;rw [List.mem_singleton] at hx;subst hx
      have := sum_inB hp
      exact ⟨by rw [this.1];exact hl.1,this.2⟩
    · intro x hx;cases hx
  · unfold wPair;split <;> simp

theorem wIneq_ok {v : Int} {L : Nat} {l : List farkas_row} (hv : 0 ≤ v) (hvL : v < (L : Int)) (hL : L ≤ 1048576) (hl : rowsB 1073741824 L l) (h4 : l.length ≤ 400) : rowsB 4611686018427387904 L (wIneq v l) ∧ (wIneq v l).length ≤ 1048576 := by
  constructor
  · intro r hr
    rcases List.mem_append.1 hr with e | e
    · have := hl r (List.mem_filter.1 e).1;exact ⟨this.1,this.2.mono (by decide)⟩
    · obtain ⟨x,hx,e⟩ := List.mem_flatMap.1 e
      obtain ⟨y,hy,e⟩ := List.mem_flatMap.1 e
      exact (wPair_ok hv hvL hL (hl x hx) (hl y hy)).2.1 r e
  · unfold wIneq
    rw [List.length_append]
    have h1 := List.length_filter_le (fun r : farkas_row => gI r.2 v == 0) l
    have h2 := flatMap_len (fun x => l.flatMap fun y => wPair v x y) 400 l fun x hx => by
      have := flatMap_len (fun y => wPair v x y) 1 l fun y hy => (wPair_ok hv hvL hL (hl x hx) (hl y hy)).2.2
      omega
    have h3 : 400 * l.length ≤ 400 * 400 := Nat.mul_le_mul_left _ h4
    omega

theorem farkas_table_without.spec (t : farkas_table) (v : Int) (h : farkas_table_without.pre t v) : farkas_table_without.wp t v (fun x => x = farkas_table_without.fn t v) := by
  obtain ⟨hv,hvt,L,⟨ht,htL,hL⟩,h4,hr⟩ := h
  have hvL : v < (L : Int) := by omega
  refine ⟨⟨hv,L,hvL,hr⟩,?_⟩
  rintro s hs
  have hcs := solver_cases (t := t) (v := v)
  rw [← hs] at hcs
  unfold farkas_table_without.fn
  rw [← hs]
  refine ⟨fun hs0 => ?_,fun hs0 _ => ?_⟩
  · rw [if_pos hs0]
    rcases hcs with hc | ⟨kk,hkk,rfl,_,_⟩
    · omega
    rw [Int.toNat_natCast]
    have he := hr.at hkk
    refine ⟨⟨by omega,by omega⟩,?_⟩
    rintro e hee
    rw [← hee] at he ⊢
    have be := gI_inB he.2 hv (by rw [he.1];exact hvL)
    refine ⟨⟨hv,by rw [he.1];exact hvL⟩,fun s a => s = (if gI e.2 v < 0 then (-1 : Int) else 1) ∧ a = (if gI e.2 v < 0 then -(gI e.2 v) else gI e.2 v),⟨fun hn => ⟨⟨by omega,by omega⟩,by rw [if_pos hn],by rw [if_pos hn]⟩,fun hn => ⟨by rw [if_neg hn],by rw [if_neg hn]⟩⟩,?_⟩
    rintro s a ⟨rfl,rfl⟩
    intro _
    refine ⟨fun n i o => ∃ k : Nat,i = (k : Int) ∧ n + k = t.2.length ∧ o = gather (wEq v kk e) (t.2.take k) 0,⟨t.2.length,0,rfl,rfl,rfl⟩,?_⟩
    rintro n i o ⟨k,rfl,hn,rfl⟩
    refine ⟨fun hi => ?_,fun hi => ?_⟩
    · have hk : k < t.2.length := by omega
      have hrk := hr.at hk
      refine ⟨⟨by omega,hi⟩,?_⟩
      rintro r hre
      rw [Int.toNat_natCast] at hre
      rw [← hre] at hrk
      have hw := wEq_ok (k := kk) hv hvL hL he k hrk
      have hgt := gather_take (wEq v kk e) d_farkas_row hk
      rw [← hre] at hgt
      have hgl := gather_len (wEq v kk e) (wEq_len _ _ _) (t.2.take k) 0
      rw [List.length_take] at hgl
      have br := gI_inB hrk.2 hv (by rw [hrk.1];exact hvL)
      refine ⟨fun hkk' => ⟨⟨by omega,by omega⟩,n - 1,by omega,k + 1,by omega,by omega,?_⟩,fun hkk' => ⟨⟨hv,by rw [hrk.1];exact hvL⟩,fun hz => ⟨⟨?_,?_⟩,⟨by omega,by omega⟩,n - 1,by omega,k + 1,by omega,by omega,?_⟩,fun hz => ⟨?_,⟨hv,by rw [hrk.1];exact hvL⟩,?_,hw.1,⟨?_,?_⟩,?_⟩⟩⟩
      · rw [hgt,wEq,if_pos hkk',List.append_nil]
      · rw [List.length_singleton];omega
      · rw [List.length_singleton];omega
      · rw [hgt,wEq,if_neg hkk',if_pos hz]
      · split <;> omega
      · have := hw.1.2.2.2.2.2;omega
      · rw [List.length_singleton];omega
      · rw [List.length_singleton];omega
      · rintro o' rfl
        refine ⟨⟨by omega,by omega⟩,n - 1,by omega,k + 1,by omega,by omega,?_⟩
        rw [hgt,wEq,if_neg hkk',if_neg hz]
    · have hk : k = t.2.length := by omega
      subst hk
      rw [List.take_of_length_le (Nat.le_refl _)]
      have hgl := gather_len (wEq v kk e) (wEq_len _ _ _) t.2 0
      refine ⟨⟨ht,by omega,L,htL,hL,fun r hr' => ?_⟩,?_⟩
      · obtain ⟨j,x,hx,hy⟩ := gather_mem _ _ _ hr'
        exact (wEq_ok (k := kk) hv hvL hL he j (hr x hx)).2.1 r hy
      · rintro q rfl
        rintro x rfl
        rintro y rfl
        rfl
  · rw [if_neg hs0]
    refine ⟨fun n i o => ∃ k : Nat,i = (k : Int) ∧ n + k = t.2.length ∧ o = (t.2.take k).filter (fun r => gI r.2 v == 0),⟨t.2.length,0,rfl,rfl,rfl⟩,?_⟩
    rintro n i o ⟨k,rfl,hn,rfl⟩
    refine ⟨fun hi => ?_,fun hi _ => ?_⟩
    · have hk : k < t.2.length := by omega
      have hrk := hr.at hk
      refine ⟨⟨by omega,hi⟩,?_⟩
      rintro r hre
      rw [Int.toNat_natCast] at hre
      rw [← hre] at hrk
      have hfl := List.length_filter_le (fun r : farkas_row => gI r.2 v == 0) (t.2.take k)
      rw [List.length_take] at hfl
      refine ⟨⟨hv,by rw [hrk.1];exact hvL⟩,fun hz => ⟨⟨?_,?_⟩,⟨by omega,by omega⟩,n - 1,by omega,k + 1,by omega,by omega,?_⟩,fun hz => ⟨⟨by omega,by omega⟩,n - 1,by omega,k + 1,by omega,by omega,?_⟩⟩
      · rw [List.length_singleton];omega
      · rw [List.length_singleton];omega
      · have hz' : (gI r.2 v == 0) = true := by rw [hz];rfl
        rw [take_get d_farkas_row hk,List.filter_append,← hre]
        simp only [List.filter_cons,List.filter_nil,hz',if_true]
      · have hz' : (gI r.2 v == 0) = false := beq_eq_false_iff_ne.2 hz
        rw [take_get d_farkas_row hk,List.filter_append,← hre]
        simp only [List.filter_cons,List.filter_nil,hz',Bool.false_eq_true,if_false,List.append_nil]
    · have hk : k = t.2.length := by omega
      subst hk
      rw [List.take_of_length_le (Nat.le_refl _)]
      have hfl := List.length_filter_le (fun r : farkas_row => gI r.2 v == 0) t.2
      refine ⟨fun n i o => ∃ k : Nat,i = (k : Int) ∧ n + k = t.2.length ∧ o = t.2.filter (fun r => gI r.2 v == 0) ++ (t.2.take k).flatMap (fun x => t.2.flatMap fun y => wPair v x y),⟨t.2.length,0,rfl,rfl,by simp⟩,?_⟩
      rintro n i o ⟨k,rfl,hn,rfl⟩
      have hpl : ∀ k,k ≤ t.2.length → ((t.2.take k).flatMap (fun x => t.2.flatMap fun y => wPair v x y)).length ≤ 160000 := fun k hk => by
        have := flatMap_len (fun x => t.2.flatMap fun y => wPair v x y) 400 (t.2.take k) fun x hx => by
          have := flatMap_len (fun y => wPair v x y) 1 t.2 fun y hy => (wPair_ok hv hvL hL (hr x (List.mem_of_mem_take hx)) (hr y hy)).2.2
          omega
        rw [List.length_take] at this
        have h3 : 400 * min k t.2.length ≤ 400 * 400 := Nat.mul_le_mul_left _ (by omega)
        omega
      refine ⟨fun hi => ?_,fun hi => ?_⟩
      · have hk : k < t.2.length := by omega
        have hlk := hr.at hk
        refine ⟨⟨by omega,hi⟩,?_⟩
        rintro l hle
        rw [Int.toNat_natCast] at hle
        have hft := flatMap_take (fun x => t.2.flatMap fun y => wPair v x y) d_farkas_row hk
        rw [← hle] at hlk hft
        intro _
        generalize hO : t.2.filter (fun r => gI r.2 v == 0) ++ (t.2.take k).flatMap (fun x => t.2.flatMap fun y => wPair v x y) = O at *
        have hOl : O.length ≤ 160400 := by
          rw [← hO,List.length_append]
          have := hpl k (by omega)
          omega
        refine ⟨fun m i o => ∃ j : Nat,i = (j : Int) ∧ m + j = t.2.length ∧ o = O ++ (t.2.take j).flatMap (fun y => wPair v l y),⟨t.2.length,0,rfl,rfl,by simp⟩,?_⟩
        rintro m i o ⟨j,rfl,hm,rfl⟩
        refine ⟨fun hi => ?_,fun hi => ?_⟩
        · have hj : j < t.2.length := by omega
          have huk := hr.at hj
          refine ⟨⟨by omega,hi⟩,?_⟩
          rintro u hue
          rw [Int.toNat_natCast] at hue
          have hft2 := flatMap_take (fun y => wPair v l y) d_farkas_row hj
          rw [← hue] at huk hft2
          have bl := gI_inB hlk.2 hv (by rw [hlk.1];exact hvL)
          have bu := gI_inB huk.2 hv (by rw [huk.1];exact hvL)
          have hw := wPair_ok hv hvL hL hlk huk
          have hlen : ((t.2.take j).flatMap (fun y => wPair v l y)).length ≤ 400 := by
            have := flatMap_len (fun y => wPair v l y) 1 (t.2.take j) fun y hy => (wPair_ok hv hvL hL hlk (hr y (List.mem_of_mem_take hy))).2.2
            rw [List.length_take] at this
            omega
          refine ⟨⟨hv,by rw [hlk.1];exact hvL⟩,fun _ => ⟨hv,by rw [huk.1];exact hvL⟩,fun hc => ⟨⟨hv,by rw [huk.1];exact hvL⟩,⟨by omega,by omega⟩,⟨hv,by rw [hlk.1];exact hvL⟩,hw.1,⟨?_,?_⟩,?_⟩,fun hc => ⟨⟨by omega,by omega⟩,m - 1,by omega,j + 1,by omega,by omega,?_⟩⟩
          · rw [List.length_singleton,List.length_append];omega
          · rw [List.length_singleton,List.length_append];omega
          · rintro o' rfl
            refine ⟨⟨by omega,by omega⟩,m - 1,by omega,j + 1,by omega,by omega,?_⟩
            simp only [Bool.and_eq_true,decide_eq_true_eq] at hc
            rw [hft2,wPair,if_pos hc,List.append_assoc]
          · simp only [Bool.and_eq_false_iff,decide_eq_false_iff_not] at hc
            rw [hft2, wPair, if_neg (fun h => by rcases hc with hc | hc; · exact hc h.1
                                                 · exact hc h.2),List.append_nil]
        · have hj : j = t.2.length := by omega
          subst hj
          rw [List.take_of_length_le (Nat.le_refl _)]
          refine ⟨⟨by omega,by omega⟩,n - 1,by omega,k + 1,by omega,by omega,?_⟩
          rw [← hO,hft,List.append_assoc]
      · have hk : k = t.2.length := by omega
        subst hk
        rw [List.take_of_length_le (Nat.le_refl _)]
        obtain ⟨w1,w2⟩ := wIneq_ok hv hvL hL hr h4
        refine ⟨⟨ht,w2,L,htL,hL,w1⟩,?_⟩
        rintro q rfl
        rintro x rfl
        rintro y rfl
        rintro z rfl
        rfl

theorem without_ok {L : Nat} {t : farkas_table} {v : Int} (ht : tabB L t) (hv : 0 ≤ v ∧ v < t.1) (h0 : (farkas_table_without.fn t v).2 = 0) : tabB L (farkas_table_without.fn t v).1 ∧ (farkas_table_without.fn t v).1.1 = t.1 := by
  obtain ⟨⟨ht0,htL,hL⟩,h4,hr⟩ := ht
  have hvL : v < (L : Int) := by omega
  have fin : ∀ l : List farkas_row,l.length ≤ 1048576 → rowsB 4611686018427387904 L l → (farkas_table_kept.fn t l).2 = 0 → tabB L (farkas_table_kept.fn t l).1 ∧ (farkas_table_kept.fn t l).1.1 = t.1 := fun l h1 h2 h3 => by
    obtain ⟨e,hk⟩ := kept_ok ⟨ht0,h1,L,htL,hL,h2⟩ L ⟨htL,hL⟩ h2 h3
    rw [e];exact ⟨hk,rfl⟩
  unfold farkas_table_without.fn at h0 ⊢
  split at h0
  · rename_i hs
    rw [if_pos hs]
    rcases solver_cases (t := t) (v := v) with hc | ⟨kk,hkk,hk2,_,_⟩
    · omega
    rw [hk2,Int.toNat_natCast] at h0 ⊢
    refine fin _ ?_ (fun r hr' => ?_) h0
    · have := gather_len (wEq v kk (t.2.getD kk d_farkas_row)) (wEq_len _ _ _) t.2 0
      omega
    · obtain ⟨j,x,hx,hy⟩ := gather_mem _ _ _ hr'
      exact (wEq_ok (k := kk) (by omega) hvL hL (hr.at hkk) j (hr x hx)).2.1 r hy
  · rename_i hs
    rw [if_neg hs]
    obtain ⟨w1,w2⟩ := wIneq_ok hv.1 hvL hL hr h4
    exact fin _ w2 w1 h0
theorem kept_err (t : farkas_table) (l : List farkas_row) : ((farkas_table_kept.fn t l).2 = 0) ∨ ((farkas_table_kept.fn t l).2 = 3) := by
  unfold farkas_table_kept.fn;split
  · exact Or.inr rfl
  · split
    · exact Or.inr rfl
    · exact Or.inl rfl
theorem without_err (t : farkas_table) (v : Int) : ((farkas_table_without.fn t v).2 = 0) ∨ ((farkas_table_without.fn t v).2 = 3) := by
  unfold farkas_table_without.fn;split <;> exact kept_err _ _
theorem elimAll_err : ∀ (v : Nat) (t : farkas_table),((elimAll t v).2 = 0) ∨ ((elimAll t v).2 = 3 ∧ (elimAll t v).1 = [])
  | 0,t => Or.inl rfl
  | v + 1,t => by
    unfold elimAll
    split
    · rename_i h
      rcases without_err t v with e | e
      · exact absurd e h
      · exact Or.inr ⟨e,rfl⟩
    · split
      · rename_i h
        rcases elimAll_err v (farkas_table_without.fn t v).1 with e | e
        · exact absurd e h
        · exact Or.inr ⟨e.1,rfl⟩
      · exact Or.inl rfl

/-! ## The first rows -/
theorem firstRow_ok {p : List api_Cond} {n : Int} (h : farkas_asked.fn p n = 0) {c : api_Cond} (hc : c ∈ p) (i : Nat) :
    rowsB 1048576 (n.toNat + 1 + p.length) (firstRow n.toNat p.length i c) := by
  obtain ⟨hn,h96,hv⟩ := asked_ok h
  obtain ⟨hv1,hv2⟩ := hv c hc
  obtain ⟨l1,l2,l3⟩ := lin_coef (valid_lin hv1)
  unfold firstRow
  split
  · intro x hx;cases hx
  · intro x hx;rw [List.mem_singleton] at hx;subst hx
    refine ⟨?_,fun y hy => ?_⟩
    · simp only [List.length_append,List.length_cons,List.length_set,List.length_replicate];omega
    · rcases List.mem_append.1 hy with e | e
      · have := l1 y e
        simp only [num_Fits.fn,Bool.and_eq_true,decide_eq_true_eq] at this;omega
      · rcases List.mem_cons.1 e with e | e
        · subst e
          simp only [num_Fits.fn,Bool.and_eq_true,decide_eq_true_eq] at l3;omega
        · rcases List.mem_or_eq_of_mem_set e with e | e
          · have := (List.mem_replicate.1 e).2;omega
          · omega
theorem firstRow_len (n m i : Nat) (c : api_Cond) : (firstRow n m i c).length ≤ 1 := by unfold firstRow;split <;> simp

theorem farkas_first.spec (p : List api_Cond) (n : Int) (h : farkas_first.pre p n) : farkas_first.wp p n (fun x => x = farkas_first.fn p n) := by
  have h : farkas_asked.fn p n = 0 := h
  obtain ⟨hn,h96,hv⟩ := asked_ok h
  obtain ⟨N,rfl⟩ : ∃ N : Nat,n = (N : Int) := ⟨n.toNat,by omega⟩
  intro _
  refine ⟨fun m i o => ∃ k : Nat,i = (k : Int) ∧ m + k = p.length ∧ o = gather (firstRow N p.length) (p.take k) 0,⟨p.length,0,rfl,rfl,rfl⟩,?_⟩
  rintro m i o ⟨k,rfl,hm,rfl⟩
  refine ⟨fun hi => ?_,fun hi => ?_⟩
  · have hk : k < p.length := by omega
    have hgt := gather_take (firstRow N p.length) d_api_Cond hk
    have hgl := gather_len (firstRow N p.length) (fun i x => firstRow_len _ _ _ _) (p.take k) 0
    rw [List.length_take] at hgl
    refine ⟨⟨by omega,hi⟩,?_⟩
    rintro c hce
    rw [Int.toNat_natCast] at hce
    rw [← hce] at hgt
    have hcm : c ∈ p := by rw [hce];exact getD_mem _ hk
    have hcl := (hv c hcm).2
    refine ⟨fun h2 => ⟨⟨by omega,by omega⟩,m - 1,by omega,k + 1,by omega,by omega,?_⟩,fun h2 => ⟨⟨by omega,by omega⟩,⟨by omega,by omega⟩,⟨by omega,by omega,by omega,by omega⟩,?_⟩⟩
    · rw [hgt,firstRow,if_pos h2,List.append_nil]
    · rintro x hx
      intro _
      have e1 : Int.toNat ((N : Int) + 1 + (p.length : Int)) = N + 1 + p.length := by omega
      rw [e1] at hx
      rintro y hy
      have hclN : c.2.2.1.length = N := by omega
      have hy' : y = c.2.2.1 ++ 0 :: List.replicate p.length 0 := by
        rw [hy,hx,List.length_replicate,Nat.min_eq_left (by omega),List.take_of_length_le (Nat.le_refl _),hclN,List.drop_replicate]
        congr 1
        rw [show N + 1 + p.length - N = p.length + 1 from by omega,List.replicate_succ]
      have e2 : Int.toNat ((N : Int) + 1 + (k : Int)) = N + 1 + k := by omega
      have ylen : y.length = N + 1 + p.length := by rw [hy'];simp only [List.length_append,List.length_cons,List.length_replicate];omega
      rw [Int.toNat_natCast,e2,List.length_set,ylen]
      refine ⟨⟨by omega,by omega⟩,⟨by omega,by omega⟩,⟨by omega,by omega⟩,by omega,⟨by omega,by omega⟩,by omega,?_⟩
      rintro z hz
      have hz' : z = c.2.2.1 ++ c.2.2.2 :: (List.replicate p.length 0).set k 1 := by
        rw [hz,hy',List.set_append_right _ _ (by omega),hclN,Nat.sub_self,List.set_cons_zero,List.set_append_right _ _ (by omega),hclN,show N + 1 + k - N = k + 1 from by omega,List.set_cons_succ]
      refine ⟨⟨?_,?_⟩,?_⟩
      · rw [List.length_singleton];omega
      · rw [List.length_singleton];omega
      rintro o' rfl
      refine ⟨⟨by omega,by omega⟩,m - 1,by omega,k + 1,by omega,by omega,?_⟩
      rw [hgt,firstRow,if_neg h2,hz']
  · have hk : k = p.length := by omega
    subst hk
    rw [List.take_of_length_le (Nat.le_refl _)]
    rfl
theorem first_ok {p : List api_Cond} {n : Int} (h : farkas_asked.fn p n = 0) : tabB (n.toNat + 1 + p.length) (farkas_first.fn p n) ∧ (farkas_first.fn p n).1 = n := by
  obtain ⟨hn,h96,hv⟩ := asked_ok h
  have hgl := gather_len (firstRow n.toNat p.length) (fun i x => firstRow_len _ _ _ _) p 0
  refine ⟨⟨⟨hn.1,?_,?_⟩,?_,fun r hr => ?_⟩,rfl⟩
  · show n + 1 ≤ _;omega
  · omega
  · show (gather (firstRow n.toNat p.length) p 0).length ≤ _;omega
  · obtain ⟨j,x,hx,hy⟩ := gather_mem _ _ _ hr
    have := firstRow_ok h hx j r hy
    exact ⟨this.1,this.2.mono (by decide)⟩

/-! ## All tables -/
/-- Tables ahead of others. -/
def comb (q : List farkas_table × Int) (l : List farkas_table) : List farkas_table × Int := if q.2 ≠ 0 then ([],q.2) else (q.1 ++ l,0)
theorem comb_nil (v : Nat) (t : farkas_table) : comb (elimAll t v) [] = elimAll t v := by
  unfold comb
  rcases elimAll_err v t with e | e
  · rw [if_neg (by rw [e];simp),List.append_nil,← e]
  · rw [if_pos (by rw [e.1];decide),← e.2]
theorem comb_step {t : farkas_table} {v : Nat} (h : (farkas_table_without.fn t v).2 = 0) (l : List farkas_table) : comb (elimAll t (v + 1)) l = comb (elimAll (farkas_table_without.fn t v).1 v) (t :: l) := by
  have e1 : elimAll t (v + 1) = if (elimAll (farkas_table_without.fn t v).1 v).2 ≠ 0 then ([],(elimAll (farkas_table_without.fn t v).1 v).2) else ((elimAll (farkas_table_without.fn t v).1 v).1 ++ [t],0) := by
    conv => lhs;unfold elimAll
    rw [if_neg (by rw [h];simp)]
  rw [e1]
  unfold comb
  by_cases hz : (elimAll (farkas_table_without.fn t v).1 v).2 = 0
  · rw [if_neg (by rw [hz];simp)]
    simp [hz]
  · rw [if_pos hz]
    simp [hz]
theorem comb_err {t : farkas_table} {v : Nat} (h : (farkas_table_without.fn t v).2 ≠ 0) (l : List farkas_table) : comb (elimAll t (v + 1)) l = ([],(farkas_table_without.fn t v).2) := by
  unfold comb elimAll
  rw [if_pos h]
  simp [h]

theorem farkas_eliminated.spec (p : List api_Cond) (n : Int) (h : farkas_eliminated.pre p n) : farkas_eliminated.wp p n (fun x => x = farkas_eliminated.fn p n) := by
  have h : farkas_asked.fn p n = 0 := h
  obtain ⟨hn,h96,hv⟩ := asked_ok h
  obtain ⟨hT,hTn⟩ := first_ok h
  unfold farkas_eliminated.wp farkas_eliminated.fn
  obtain ⟨N,rfl⟩ : ∃ N : Nat,n = (N : Int) := ⟨n.toNat,by omega⟩
  refine ⟨⟨by omega,by omega⟩,⟨by omega,by omega,by omega,by omega⟩,?_⟩
  rintro x hx
  have e1 : Int.toNat ((N : Int) + 1) = N + 1 := by omega
  rw [e1] at hx
  have hxl : x.length = N + 1 := by rw [hx];exact List.length_replicate
  rw [Int.toNat_natCast]
  refine ⟨h,⟨by omega,by omega⟩,by omega,?_⟩
  rintro T hTe
  rw [← hTe] at hT hTn ⊢
  rintro y hy
  have hy' : y = List.replicate N d_farkas_table ++ T :: [] := by
    rw [hy,hx,List.replicate_succ',List.set_append_right _ _ (by simp)];simp
  refine ⟨⟨by omega,by omega⟩,?_⟩
  refine ⟨fun m i o => ∃ (v : Nat) (t : farkas_table) (l : List farkas_table),i = (v : Int) - 1 ∧ m = v ∧ v + 1 + l.length = N + 1 ∧ o = List.replicate v d_farkas_table ++ t :: l ∧ (tabB (N + 1 + p.length) t ∧ t.1 = (N : Int)) ∧ elimAll T N = comb (elimAll t v) l,⟨N,N,T,[],rfl,rfl,rfl,hy',⟨hT,hTn⟩,(comb_nil _ _).symm⟩,?_⟩
  rintro m i o ⟨v,t,l,rfl,hm,hl,rfl,⟨ht,htn⟩,hc⟩
  refine ⟨fun hi => ?_,fun hi => ?_⟩
  · obtain ⟨u,rfl⟩ : ∃ u,v = u + 1 := ⟨v - 1,by omega⟩
    have e2 : Int.toNat (((u + 1 : Nat) : Int) - 1 + 1) = u + 1 := by omega
    have e3 : Int.toNat (((u + 1 : Nat) : Int) - 1) = u := by omega
    have e4 : ((u + 1 : Nat) : Int) - 1 = (u : Int) := by omega
    have olen : (List.replicate (u + 1) d_farkas_table ++ t :: l).length = N + 1 := by rw [List.length_append,List.length_replicate,List.length_cons];omega
    have oget : (List.replicate (u + 1) d_farkas_table ++ t :: l).getD (u + 1) d_farkas_table = t := by simp [List.getD_eq_getElem?_getD]
    rw [e2,e3,e4,olen,oget]
    refine ⟨⟨by omega,by omega⟩,⟨by omega,by omega⟩,by omega,⟨by omega,by omega,_,ht⟩,⟨by omega,by omega⟩,by omega,?_⟩
    rintro w rfl
    rintro e he
    rintro o' ho'
    refine ⟨fun hne => ?_,fun heq => ⟨⟨by omega,by omega⟩,m - 1,by omega,u,(farkas_table_without.fn t u).1,t :: l,rfl,by omega,by rw [List.length_cons];omega,?_,?_,?_⟩⟩
    · rw [hc,comb_err (by rw [← he];exact hne),he]
    · rw [ho',List.replicate_succ',List.append_assoc,List.set_append_right _ _ (by simp)];simp
    · have := without_ok (v := (u : Int)) ht ⟨by omega,by omega⟩ (by rw [← he];exact heq)
      exact ⟨this.1,by rw [this.2];exact htn⟩
    · rw [hc];exact comb_step (by rw [← he];exact heq) l
  · have hv0 : v = 0 := by omega
    subst hv0
    rw [hc];rfl

/-- The tables,one after the other. -/
theorem elimAll_ok {L : Nat} : ∀ (v : Nat) (t : farkas_table), tabB L t → (v : Int) ≤ t.1 → (elimAll t v).2 = 0 →
    (elimAll t v).1.length = v + 1 ∧ (elimAll t v).1.getD v d_farkas_table = t ∧ (∀ j,j ≤ v → tabB L ((elimAll t v).1.getD j d_farkas_table) ∧ ((elimAll t v).1.getD j d_farkas_table).1 = t.1) ∧
    ∀ j,j < v → (farkas_table_without.fn ((elimAll t v).1.getD (j + 1) d_farkas_table) j).2 = 0 ∧ (elimAll t v).1.getD j d_farkas_table = (farkas_table_without.fn ((elimAll t v).1.getD (j + 1) d_farkas_table) j).1
  | 0,t,ht,_,_ => ⟨rfl,rfl,fun j hj => by
      have : j = 0 := by omega
      subst this;exact ⟨ht,rfl⟩,fun j hj => by omega⟩
  | v + 1,t,ht,hv,h => by
    unfold elimAll at h ⊢
    split at h
    · rename_i h1;exact absurd h h1
    · rename_i h1
      have h1 : (farkas_table_without.fn t v).2 = 0 := Classical.byContradiction h1
      split at h
      · rename_i h2;exact absurd h h2
      · rename_i h2
        have h2 : (elimAll (farkas_table_without.fn t v).1 v).2 = 0 := Classical.byContradiction h2
        rw [if_neg (by rw [h1];simp),if_neg (by rw [h2];simp)]
        have hw := without_ok ht ⟨by omega,by omega⟩ h1
        obtain ⟨i1,i2,i3,i4⟩ := elimAll_ok v (farkas_table_without.fn t v).1 hw.1 (by rw [hw.2];omega) h2
        generalize hl : (elimAll (farkas_table_without.fn t v).1 v).1 = l at *
        have glt : ∀ j,j ≤ v → (l ++ [t]).getD j d_farkas_table = l.getD j d_farkas_table := fun j hj => by
          simp only [List.getD_eq_getElem?_getD];rw [List.getElem?_append_left (by omega)]
        have gge : (l ++ [t]).getD (v + 1) d_farkas_table = t := by
          simp only [List.getD_eq_getElem?_getD];rw [List.getElem?_append_right (by omega),i1];simp
        refine ⟨by rw [List.length_append,i1];rfl,gge,fun j hj => ?_,fun j hj => ?_⟩
        · by_cases e : j = v + 1
          · subst e;simp only [gge];exact ⟨ht,trivial⟩
          · simp only [glt j (by omega)]
            have := i3 j (by omega)
            exact ⟨this.1,by rw [this.2,hw.2]⟩
        · by_cases e : j = v
          · subst e;simp only [gge,glt j (Nat.le_refl _)];exact ⟨h1,i2⟩
          · simp only [glt j (by omega),glt (j + 1) (by omega)];exact i4 j (by omega)

/-! ## The row that is false -/
theorem neg_map_bound {B : Int} {l : List Int} (h : inB B l) : inB B (l.map fun x => -x) := fun x hx => by
  obtain ⟨y,hy,rfl⟩ := List.mem_map.1 hx
  have := h y hy;exact ⟨by omega,by omega⟩
theorem farkas_table_refuted.spec (t : farkas_table) (h : farkas_table_refuted.pre t) : farkas_table_refuted.wp t (fun x => x = farkas_table_refuted.fn t) := by
  obtain ⟨L,⟨ht,htL,hL⟩,h4,hr⟩ := h
  unfold farkas_table_refuted.wp farkas_table_refuted.fn
  intro _
  generalize hR : refuteL t.1 t.2 = R
  refine ⟨fun m i => ∃ k : Nat,i = (k : Int) ∧ m + k = t.2.length ∧ R = refuteL t.1 (t.2.drop k),⟨t.2.length,0,rfl,rfl,hR.symm⟩,?_⟩
  rintro m i ⟨k,rfl,hm,hq⟩
  refine ⟨fun hi => ?_,fun hi => ?_⟩
  · have hk : k < t.2.length := by omega
    have hrk := hr.at hk
    refine ⟨⟨by omega,hi⟩,?_⟩
    rintro r hre
    rw [Int.toNat_natCast] at hre
    rw [drop_get d_farkas_row hk,← hre] at hq
    rw [← hre] at hrk
    unfold refuteL at hq
    have hb : ((decide (gI r.2 t.1 ≥ 0) && ((!r.1) || (gI r.2 t.1 == 0))) = true) ↔ (gI r.2 t.1 ≥ 0 ∧ (r.1 = false ∨ gI r.2 t.1 = 0)) := by
      simp only [Bool.and_eq_true,Bool.or_eq_true,decide_eq_true_eq,Bool.not_eq_true',beq_iff_eq]
    refine ⟨⟨ht,by rw [hrk.1];omega⟩,fun hc => ⟨⟨by omega,by omega⟩,m - 1,by omega,k + 1,by omega,by omega,?_⟩,fun hc => ⟨⟨by omega,by omega⟩,⟨by omega,by rw [hrk.1];omega⟩,?_,?_⟩⟩
    · rw [hb] at hc;rw [if_pos hc] at hq;exact hq
    · show (r.2.drop (Int.toNat (t.1 + 1))).length * 8 ≤ _
      rw [List.length_drop];omega
    · have hc' : ¬ (gI r.2 t.1 ≥ 0 ∧ (r.1 = false ∨ gI r.2 t.1 = 0)) := fun e => by rw [← hb] at e;rw [e] at hc;cases hc
      rw [if_neg hc'] at hq
      rintro w hw
      have hw' : w = r.2.drop (Int.toNat (t.1 + 1)) := hw
      have hwl : w.length ≤ L := by rw [hw',List.length_drop];omega
      have hwb : inB 1073741824 w := fun x hx => hrk.2 x (List.mem_of_mem_drop (by rw [← hw'];exact hx))
      rw [← hw'] at hq
      refine ⟨fun hp => ?_,fun hp => ?_⟩
      · rw [if_pos hp] at hq
        refine ⟨fun n i o => ∃ k : Nat,i = (k : Int) ∧ n + k = w.length ∧ o = (w.take k).map (fun x => -x) ++ w.drop k,⟨w.length,0,rfl,rfl,by simp⟩,?_⟩
        rintro n i o ⟨k,rfl,hn,rfl⟩
        rw [len_step,Int.toNat_natCast]
        refine ⟨fun hi => ?_,fun hi => ?_⟩
        · have hk : k < w.length := by omega
          rw [map_get_step _ _ _ hk]
          have := hwb _ (getD_mem 0 hk)
          refine ⟨⟨by omega,hi⟩,hk,⟨by omega,by omega⟩,⟨by omega,hi⟩,hk,?_⟩
          rintro z rfl
          exact ⟨⟨by omega,by omega⟩,n - 1,by omega,k + 1,by omega,by omega,map_set_step (α := Int) _ _ _ hk⟩
        · have hk : k = w.length := by omega
          subst hk
          rw [hq];simp
      · rw [if_neg hp] at hq;exact hq.symm
  · rw [List.drop_of_length_le (by omega)] at hq
    exact hq.symm

/-- What the tables of a piece are. -/
theorem eliminated_ok {p : List api_Cond} {n : Int} (h : farkas_asked.fn p n = 0) (h0 : (farkas_eliminated.fn p n).2 = 0) :
    (farkas_eliminated.fn p n).1.length = n.toNat + 1 ∧ (farkas_eliminated.fn p n).1.getD n.toNat d_farkas_table = farkas_first.fn p n ∧
    (∀ j,j ≤ n.toNat → tabB (n.toNat + 1 + p.length) ((farkas_eliminated.fn p n).1.getD j d_farkas_table) ∧ ((farkas_eliminated.fn p n).1.getD j d_farkas_table).1 = n) ∧
    ∀ j,j < n.toNat → (farkas_table_without.fn ((farkas_eliminated.fn p n).1.getD (j + 1) d_farkas_table) j).2 = 0 ∧ (farkas_eliminated.fn p n).1.getD j d_farkas_table = (farkas_table_without.fn ((farkas_eliminated.fn p n).1.getD (j + 1) d_farkas_table) j).1 := by
  obtain ⟨hn,h96,hv⟩ := asked_ok h
  obtain ⟨hT,hTn⟩ := first_ok h
  obtain ⟨a,b,c,d⟩ := elimAll_ok n.toNat (farkas_first.fn p n) hT (by rw [hTn];omega) h0
  exact ⟨a,b,fun j hj => ⟨(c j hj).1,by have := (c j hj).2;rw [hTn] at this;exact this⟩,d⟩

theorem farkas_Prove.spec (p : List api_Cond) (n : Int) : farkas_Prove.wp p n (fun x => x = farkas_Prove.fn p n) := by
  unfold farkas_Prove.wp farkas_Prove.fn
  rintro e rfl
  refine ⟨fun he => by rw [if_pos he],fun he => ⟨he,?_⟩⟩
  rw [if_neg (by rw [he];simp)]
  rintro q rfl
  refine ⟨fun hq => by rw [if_pos hq],fun hq => ?_⟩
  rw [if_neg (by rw [hq];simp)]
  obtain ⟨e1,e2,e3,e4⟩ := eliminated_ok he hq
  refine ⟨⟨by omega,by omega⟩,⟨_,(e3 0 (Nat.zero_le _)).1⟩,?_⟩
  rintro r rfl
  rintro w rfl
  simp only [Int.toNat_zero]
  refine ⟨fun h => by rw [if_neg (by rw [h];simp)],fun h => by rw [if_pos h]⟩

theorem mask32u (w : Int) : IntKind.wrap .u64 ((BitVec.ofInt 64 w &&& BitVec.ofInt 64 (4294967295 : Int)).toNat : Int) = w % 4294967296 := by
  have h : (BitVec.ofInt 64 w &&& BitVec.ofInt 64 (4294967295 : Int)).toNat = (w % 18446744073709551616).toNat % 4294967296 := by
    rw [BitVec.toNat_and,BitVec.toNat_ofInt,show (BitVec.ofInt 64 (4294967295 : Int)).toNat = 2 ^ 32 - 1 from by decide,Nat.and_two_pow_sub_one_eq_mod]
    rfl
  rw [h,wrap_u64]
  omega

theorem math_bits_Mul64.spec (a b : Int) (h : math_bits_Mul64.pre a b) : math_bits_Mul64.wp a b (fun x => x = math_bits_Mul64.fn a b) := by
  obtain ⟨⟨a0,a1⟩,b0,b1⟩ := h
  unfold math_bits_Mul64.wp math_bits_Mul64.fn
  simp only [mask32u,shr32]
  simp only [wrap_u64]
  have ha : a = a / 4294967296 * 4294967296 + a % 4294967296 := by omega
  have hb : b = b / 4294967296 * 4294967296 + b % 4294967296 := by omega
  have u1 : 0 ≤ a / 4294967296 ∧ a / 4294967296 ≤ 4294967295 := by omega
  have u2 : 0 ≤ a % 4294967296 ∧ a % 4294967296 ≤ 4294967295 := by omega
  have u3 : 0 ≤ b / 4294967296 ∧ b / 4294967296 ≤ 4294967295 := by omega
  have u4 : 0 ≤ b % 4294967296 ∧ b % 4294967296 ≤ 4294967295 := by omega
  generalize a / 4294967296 = x2 at *
  generalize a % 4294967296 = x1 at *
  generalize b / 4294967296 = x4 at *
  generalize b % 4294967296 = x3 at *
  have hab : a * b = (x2 * x4) * 18446744073709551616 + (x2 * x3 + x1 * x4) * 4294967296 + x1 * x3 := by rw [ha,hb];grind
  have m1 := mul_bound (A := 4294967295) (B := 4294967295) (by omega) u1.2 (by omega) u3.2
  have m2 := mul_bound (A := 4294967295) (B := 4294967295) (by omega) u1.2 (by omega) u4.2
  have m3 := mul_bound (A := 4294967295) (B := 4294967295) (by omega) u2.2 (by omega) u3.2
  have m4 := mul_bound (A := 4294967295) (B := 4294967295) (by omega) u2.2 (by omega) u4.2
  have n1 := Int.mul_nonneg u1.1 u3.1
  have n2 := Int.mul_nonneg u1.1 u4.1
  have n3 := Int.mul_nonneg u2.1 u3.1
  have n4 := Int.mul_nonneg u2.1 u4.1
  rw [hab]
  rintro y1 e1
  refine ⟨by decide,?_⟩
  rintro y2 e2
  rintro y3 e3
  refine ⟨by decide,?_⟩
  rintro y4 e4
  refine ⟨by decide,?_⟩
  rintro t ht
  rintro w hw
  refine ⟨by decide,?_⟩
  rintro w2 hw2
  rintro w1 hw1
  refine ⟨by decide,?_⟩
  rintro hi hhi
  rw [e1,e2,e3] at ht
  rw [e1,e4] at hw1
  rw [e2,e4] at hhi
  generalize x2 * x4 = P at *
  generalize x2 * x3 = Q at *
  generalize x1 * x4 = R at *
  generalize x1 * x3 = S at *
  have ht' : t = Q + S / 4294967296 := by omega
  have hw1' : w1 = t % 4294967296 + R := by omega
  have hhi' : hi = P + t / 4294967296 + w1 / 4294967296 := by omega
  refine Prod.ext ?_ rfl
  show hi = _
  omega

theorem farkas_fraction_less.spec (a b : farkas_fraction) (h : farkas_fraction_less.pre a b) : farkas_fraction_less.wp a b (fun x => x = farkas_fraction_less.fn a b) := by
  obtain ⟨⟨ha,hb⟩,⟨a0,a1⟩,b0,b1⟩ := h
  simp only [i64] at ha hb
  unfold farkas_fraction_less.wp farkas_fraction_less.fn
  refine ⟨fun hne => ?_,fun he => ?_⟩
  · by_cases h1 : a.1 < 0
    · have h2 : ¬ b.1 < 0 := fun h2 => hne (by simp [h1,h2])
      have m1 := Int.mul_nonneg (show 0 ≤ -a.1 by omega) (show 0 ≤ b.2 by omega)
      have m2 := Int.mul_nonneg (show 0 ≤ b.1 by omega) (show 0 ≤ a.2 by omega)
      have m3 : 0 < -a.1 * b.2 := Int.mul_pos (by omega) b0
      rw [Int.neg_mul] at m3
      rw [decide_eq_true h1,decide_eq_true (by omega)]
    · have h2 : b.1 < 0 := Classical.byContradiction fun h2 => hne (by simp [h1,h2])
      have m1 := Int.mul_nonneg (show 0 ≤ a.1 by omega) (show 0 ≤ b.2 by omega)
      have m3 : 0 < -b.1 * a.2 := Int.mul_pos (by omega) a0
      rw [Int.neg_mul] at m3
      rw [decide_eq_false h1,decide_eq_false (by omega)]
  · have wa : IntKind.wrap .u64 a.2 = a.2 := by rw [wrap_u64];omega
    have wb : IntKind.wrap .u64 b.2 = b.2 := by rw [wrap_u64];omega
    rw [wa,wb]
    have sa : farkas_size.fn a.1 = a.1.natAbs := rfl
    have sb : farkas_size.fn b.1 = b.1.natAbs := rfl
    rw [sa,sb]
    refine ⟨ha,⟨⟨by omega,by omega⟩,by omega,by omega⟩,?_⟩
    rintro x rfl
    rintro y rfl
    rintro y1 hy1
    rintro y2 hy2
    refine ⟨hb,⟨⟨by omega,by omega⟩,by omega,by omega⟩,?_⟩
    rintro x5 rfl
    rintro z rfl
    rintro z1 hz1
    rintro z2 hz2
    simp only [math_bits_Mul64.fn] at hy1 hy2 hz1 hz2
    have key : ∀ X Y x1 x2 y1 y2 : Int, x1 = X / 18446744073709551616 → x2 = X % 18446744073709551616 → y1 = Y / 18446744073709551616 → y2 = Y % 18446744073709551616 →
        (decide (x1 < y1) || ((x1 == y1) && decide (x2 < y2))) = decide (X < Y) := by
      intro X Y x1 x2 y1 y2 h1 h2 h3 h4
      rw [Bool.eq_iff_iff]
      simp only [Bool.or_eq_true,Bool.and_eq_true,decide_eq_true_eq,beq_iff_eq]
      omega
    refine ⟨fun p q r s => (decide (p < r) || ((p == r) && decide (q < s))) = decide (a.1 * b.2 < b.1 * a.2),⟨fun hn => ?_,fun hn => ?_⟩,fun p q r s h => h⟩
    · have hbn : b.1 < 0 := by
        by_cases h2 : b.1 < 0
        · exact h2
        · rw [decide_eq_true hn,decide_eq_false h2] at he;cases he
      refine (key _ _ _ _ _ _ hz1 hz2 hy1 hy2).trans ?_
      have e1 : (b.1.natAbs : Int) = -b.1 := by omega
      have e2 : (a.1.natAbs : Int) = -a.1 := by omega
      rw [e1,e2,Int.neg_mul,Int.neg_mul]
      exact decide_eq_decide.2 (by omega)
    · have hbn : ¬ b.1 < 0 := by
        intro h2
        rw [decide_eq_false hn,decide_eq_true h2] at he;cases he
      refine (key _ _ _ _ _ _ hy1 hy2 hz1 hz2).trans ?_
      have e1 : (b.1.natAbs : Int) = b.1 := by omega
      have e2 : (a.1.natAbs : Int) = a.1 := by omega
      rw [e1,e2]

theorem dotI_take : ∀ (l m : List Int),dotI (l.take m.length) m = dotI l m
  | [],_ => by simp
  | _ :: _,[] => by simp [dotI]
  | a :: l,b :: m => by simp only [List.length_cons,List.take_succ_cons,dotI,dotI_take l m]
theorem dotI_bound {A B : Int} (hA : 0 ≤ A) (hB : 0 ≤ B) : ∀ (l m : List Int),inB A l → inB B m → -(m.length * (A * B)) ≤ dotI l m ∧ dotI l m ≤ m.length * (A * B)
  | [],m,_,_ => by
    have := Int.mul_nonneg hA hB
    have := Int.mul_nonneg (show (0 : Int) ≤ m.length by omega) this
    simp only [dotI];omega
  | a :: l,[],_,_ => by simp [dotI]
  | a :: l,b :: m,h1,h2 => by
    obtain ⟨i1,i2⟩ := dotI_bound hA hB l m (fun x hx => h1 x (List.mem_cons_of_mem _ hx)) fun x hx => h2 x (List.mem_cons_of_mem _ hx)
    have ba := h1 a List.mem_cons_self
    have bb := h2 b List.mem_cons_self
    have := mul_bound ba.1 ba.2 bb.1 bb.2
    simp only [dotI,List.length_cons]
    push_cast
    rw [Int.add_mul,Int.one_mul]
    omega

theorem farkas_point_bound.spec (p : farkas_point) (r : farkas_row) (n : Int) (h : farkas_point_bound.pre p r n) : farkas_point_bound.wp p r n (fun x => x = farkas_point_bound.fn p r n) := by
  obtain ⟨⟨h12,hx,d1,d2⟩,hn,hpl,hr⟩ := h
  intro _
  have bn := gI_inB hr hn.1 hn.2
  have m0 := mul_bound (A := 1073741824) (B := 268435456) bn.1 bn.2 (by omega) d2
  refine ⟨hn,⟨by omega,by omega⟩,fun _ => ?_⟩
  refine ⟨fun m s i => ∃ k : Nat,i = (k : Int) ∧ m + k = p.1.length ∧ s = gI r.2 n * p.2 + dotI (r.2.take k) (p.1.take k) ∧ -((k + 1) * 288230376151711744) ≤ s ∧ s ≤ (k + 1) * 288230376151711744,⟨p.1.length,0,rfl,rfl,by simp [dotI],by omega,by omega⟩,?_⟩
  rintro m s i ⟨k,rfl,hm,hs,s1,s2⟩
  refine ⟨fun hi => ?_,fun hi => ?_⟩
  · have hk : k < p.1.length := by omega
    rw [gI_nat,gI_nat]
    have b1 := hr _ (getD_mem 0 (by omega : k < r.2.length))
    have b2 := hx _ (getD_mem 0 hk)
    have m1 := mul_bound b1.1 b1.2 b2.1 b2.2
    have hd := dotI_succ r.2 p.1 k (by omega) hk
    generalize r.2.getD k 0 * p.1.getD k 0 = u at *
    refine ⟨⟨by omega,hi⟩,⟨by omega,by omega⟩,⟨by omega,by omega⟩,⟨by omega,by omega⟩,?_⟩
    rintro t rfl
    refine ⟨⟨by omega,by omega⟩,m - 1,by omega,k + 1,by omega,by omega,by rw [hd,hs];omega,?_,?_⟩
    · push_cast;omega
    · push_cast;omega
  · have hk : k = p.1.length := by omega
    subst hk
    rw [List.take_of_length_le (Nat.le_refl p.1.length),dotI_take] at hs
    have bv := gI_inB hr (v := (p.1.length : Int)) (by omega) (by omega)
    unfold farkas_point_bound.fn
    rw [← hs]
    exact ⟨⟨by omega,by omega⟩,fun h => ⟨⟨by omega,by omega⟩,⟨by omega,by omega⟩,by rw [if_pos h]⟩,fun h => ⟨⟨by omega,by omega⟩,⟨by omega,by omega⟩,by rw [if_neg h]⟩⟩
/-- A fraction that a row gives. -/
abbrev frB (f : farkas_fraction) : Prop := (-4611686018427387904 ≤ f.1 ∧ f.1 ≤ 4611686018427387904) ∧ 1 ≤ f.2 ∧ f.2 ≤ 1073741824
theorem bound_ok {p : farkas_point} {r : farkas_row} {n : Int} (h : farkas_point_bound.pre p r n) (h0 : gI r.2 p.1.length ≠ 0) : frB (farkas_point_bound.fn p r n) := by
  obtain ⟨⟨h12,hx,d1,d2⟩,hn,hpl,hr⟩ := h
  have bn := gI_inB hr hn.1 hn.2
  have m0 := mul_bound (A := 1073741824) (B := 268435456) bn.1 bn.2 (by omega) d2
  have md := dotI_bound (by decide) (by decide) r.2 p.1 hr hx
  have ml : (p.1.length : Int) * (1073741824 * 268435456) ≤ 12 * (1073741824 * 268435456) := by omega
  have bv := gI_inB hr (v := (p.1.length : Int)) (by omega) (by omega)
  unfold farkas_point_bound.fn
  split
  · exact ⟨⟨by show _ ≤ gI r.2 n * p.2 + dotI r.2 p.1;omega,by show gI r.2 n * p.2 + dotI r.2 p.1 ≤ _;omega⟩,by show 1 ≤ -(gI r.2 p.1.length);omega,by show -(gI r.2 p.1.length) ≤ _;omega⟩
  · exact ⟨⟨by show _ ≤ -(gI r.2 n * p.2 + dotI r.2 p.1);omega,by show -(gI r.2 n * p.2 + dotI r.2 p.1) ≤ _;omega⟩,by show 1 ≤ gI r.2 p.1.length;omega,by show gI r.2 p.1.length ≤ _;omega⟩
theorem less_pre {a b : farkas_fraction} (ha : frB a) (hb : frB b) : farkas_fraction_less.pre a b := by
  obtain ⟨⟨a1,a2⟩,a3,a4⟩ := ha
  obtain ⟨⟨b1,b2⟩,b3,b4⟩ := hb
  exact ⟨⟨⟨by omega,by omega⟩,⟨by omega,by omega⟩⟩,⟨by omega,by omega⟩,by omega,by omega⟩

/-- A fraction that may not be there,as the code keeps it. -/
def optF (b : Bool) (x y : Int) : Option farkas_fraction := if b then some (x,y) else none
theorem farkas_point_value.spec (p : farkas_point) (t : farkas_table) (h : farkas_point_value.pre p t) : farkas_point_value.wp p t (fun x => x = farkas_point_value.fn p t) := by
  obtain ⟨hp,L,⟨⟨ht,htL,hL⟩,h4,hr⟩,hpt⟩ := h
  intro _ _
  unfold farkas_point_value.fn
  generalize hR : valueL p t.1 t.2 none none = R
  refine ⟨fun m x1 x2 x3 x4 x5 x6 i => ∃ k : Nat,i = (k : Int) ∧ m + k = t.2.length ∧ (x1 = true → frB (x2,x3)) ∧ (x4 = true → frB (x5,x6)) ∧ R = valueL p t.1 (t.2.drop k) (optF x1 x2 x3) (optF x4 x5 x6),⟨t.2.length,0,rfl,rfl,(fun h => by cases h),(fun h => by cases h),hR.symm⟩,?_⟩
  rintro m x1 x2 x3 x4 x5 x6 i ⟨k,rfl,hm,hlo,hhi,hq⟩
  clear hR
  refine ⟨fun hi => ?_,fun hi => ?_⟩
  · have hk : k < t.2.length := by omega
    have hrk := hr.at hk
    refine ⟨⟨by omega,hi⟩,?_⟩
    rintro r hre
    rw [Int.toNat_natCast] at hre
    rw [drop_get d_farkas_row hk,← hre] at hq
    rw [← hre] at hrk
    have hpl : (p.1.length : Int) < (r.2.length : Int) := by rw [hrk.1];omega
    have hbp : farkas_point_bound.pre p r t.1 := ⟨hp,⟨ht,by rw [hrk.1];omega⟩,by omega,hrk.2⟩
    unfold valueL at hq
    refine ⟨⟨by omega,hpl⟩,fun hz => ⟨⟨by omega,by omega⟩,m - 1,by omega,k + 1,by omega,by omega,hlo,hhi,?_⟩,fun hz => ⟨hbp,?_⟩⟩
    · rw [if_pos hz] at hq;exact hq
    · rw [if_neg hz] at hq
      have hf := bound_ok hbp hz
      generalize farkas_point_bound.fn p r t.1 = f at hq hf ⊢
      rintro g rfl
      rintro f1 rfl
      rintro f2 rfl
      refine ⟨fun he => ?_,fun he => ⟨⟨by omega,hpl⟩,fun hpos => ⟨fun hx => less_pre (hlo (by simpa using hx)) hf,fun hc => ⟨⟨by omega,by omega⟩,m - 1,by omega,k + 1,by omega,by omega,fun _ => hf,hhi,?_⟩,fun hc => ⟨⟨by omega,by omega⟩,m - 1,by omega,k + 1,by omega,by omega,hlo,hhi,?_⟩⟩,fun hpos => ⟨fun hx => less_pre hf (hhi (by simpa using hx)),fun hc => ⟨⟨by omega,by omega⟩,m - 1,by omega,k + 1,by omega,by omega,hlo,fun _ => hf,?_⟩,fun hc => ⟨⟨by omega,by omega⟩,m - 1,by omega,k + 1,by omega,by omega,hlo,hhi,?_⟩⟩⟩⟩
      · rw [if_pos he] at hq;exact hq.symm
      all_goals rw [if_neg (by rw [he];simp)] at hq
      · rw [if_pos hpos] at hq
        rw [hq]
        cases x1 with
        | false => rfl
        | true => have hc : farkas_fraction_less.fn (x2, x3) g = true := by simpa using hc
                  show valueL _ _ _ (if farkas_fraction_less.fn (x2,x3) g = true then some g else some (x2,x3)) _ = _
                  rw [if_pos hc];rfl
      · rw [if_pos hpos] at hq
        rw [hq]
        cases x1 with
        | false => cases hc
        | true => have hc : farkas_fraction_less.fn (x2, x3) g = false := by simpa using hc
                  show valueL _ _ _ (if farkas_fraction_less.fn (x2,x3) g = true then some g else some (x2,x3)) _ = _
                  rw [if_neg (by rw [hc];simp)];rfl
      · rw [if_neg hpos] at hq
        rw [hq]
        cases x4 with
        | false => rfl
        | true => have hc : farkas_fraction_less.fn g (x5, x6) = true := by simpa using hc
                  show valueL _ _ _ _ (if farkas_fraction_less.fn g (x5,x6) = true then some g else some (x5,x6)) = _
                  rw [if_pos hc];rfl
      · rw [if_neg hpos] at hq
        rw [hq]
        cases x4 with
        | false => cases hc
        | true => have hc : farkas_fraction_less.fn g (x5, x6) = false := by simpa using hc
                  show valueL _ _ _ _ (if farkas_fraction_less.fn g (x5,x6) = true then some g else some (x5,x6)) = _
                  rw [if_neg (by rw [hc];simp)];rfl
  · rw [List.drop_of_length_le (by omega)] at hq
    rw [hq]
    refine ⟨fun h => ⟨h,by subst h;rfl⟩,fun h => ⟨fun h2 => ⟨h2,by subst h;subst h2;rfl⟩,fun h2 => by subst h;subst h2;rfl⟩⟩

theorem valueL_ok (p : farkas_point) (n : Int) : ∀ (l : List farkas_row) (lo hi : Option farkas_fraction),(∀ r ∈ l,farkas_point_bound.pre p r n) → (∀ f,lo = some f → frB f) → (∀ f,hi = some f → frB f) → frB (valueL p n l lo hi)
  | [],some f,_,_,h,_ => h f rfl
  | [],none,some f,_,_,h => h f rfl
  | [],none,none,_,_,_ => show frB (0,1) from ⟨⟨by decide,by decide⟩,by decide,by decide⟩
  | r :: l,lo,hi,hl,h1,h2 => by
    have hl' : ∀ r ∈ l,farkas_point_bound.pre p r n := fun x hx => hl x (List.mem_cons_of_mem _ hx)
    unfold valueL
    split
    · exact valueL_ok p n l lo hi hl' h1 h2
    · rename_i h0
      have hf := bound_ok (hl r List.mem_cons_self) h0
      split
      · exact hf
      · split
        · refine valueL_ok p n l _ hi hl' (fun f hf' => ?_) h2
          split at hf'
          · cases hf';exact hf
          · split at hf'
            · cases hf';exact hf
            · cases hf';exact h1 _ rfl
        · refine valueL_ok p n l lo _ hl' h1 fun f hf' => ?_
          split at hf'
          · cases hf';exact hf
          · split at hf'
            · cases hf';exact hf
            · cases hf';exact h2 _ rfl
theorem value_ok {p : farkas_point} {t : farkas_table} (h : farkas_point_value.pre p t) : frB (farkas_point_value.fn p t) := by
  obtain ⟨hp,L,⟨⟨ht,htL,hL⟩,h4,hr⟩,hpt⟩ := h
  refine valueL_ok p t.1 t.2 none none (fun r hr' => ?_) (fun f hf => by cases hf) fun f hf => by cases hf
  have := hr r hr'
  exact ⟨hp,⟨ht,by rw [this.1];omega⟩,by rw [this.1];omega,this.2⟩

theorem gcdL_pos {l : List Int} {x : Int} (h : x ∈ l) (h0 : x ≠ 0) : 1 ≤ gcdL l := by
  have := gcdL_nonneg l
  have hd := gcdL_dvd h
  by_cases e : gcdL l = 0
  · rw [e,Int.zero_dvd] at hd;exact absurd hd h0
  · omega
theorem gcdL_le {l : List Int} {x : Int} (h : x ∈ l) (h0 : 1 ≤ x) : gcdL l ≤ x := Int.le_of_dvd (by omega) (gcdL_dvd h)
theorem tdiv_mul {x g : Int} (h : g ∣ x) : Int.tdiv x g * g = x := Int.tdiv_mul_cancel h
theorem tdiv_pos {x g : Int} (hx : 1 ≤ x) (hg : 1 ≤ g) (h : g ∣ x) : 1 ≤ Int.tdiv x g := by
  have e := tdiv_mul h
  have b := tdiv_bound (B := x) hg ⟨by omega,Int.le_refl x⟩
  have : 0 ≤ Int.tdiv x g := Int.tdiv_nonneg (by omega) (by omega)
  by_cases e0 : Int.tdiv x g = 0
  · rw [e0] at e;omega
  · omega
theorem gcdL_two {a b B : Int} (hB : B ≤ 4611686018427387904) (ha : -B ≤ a ∧ a ≤ B) (hb : -B ≤ b ∧ b ≤ B) : inB 4611686018427387904 [a,b] := fun x hx => by
  simp only [List.mem_cons,List.not_mem_nil,or_false] at hx
  rcases hx with e | e <;> subst e
  · exact ⟨by omega,by omega⟩
  · exact ⟨by omega,by omega⟩

/-- What is known of the parts of a fraction over a number. -/
structure Low (f : farkas_fraction) (e : Int) : Prop where
  g : 1 ≤ gcdL [f.1,f.2]
  d : 1 ≤ Int.tdiv f.2 (gcdL [f.1,f.2]) ∧ Int.tdiv f.2 (gcdL [f.1,f.2]) ≤ 1073741824
  n : -4611686018427387904 ≤ Int.tdiv f.1 (gcdL [f.1,f.2]) ∧ Int.tdiv f.1 (gcdL [f.1,f.2]) ≤ 4611686018427387904
  h : 1 ≤ gcdL [Int.tdiv f.1 (gcdL [f.1,f.2]),e]
  q : 1 ≤ Int.tdiv e (gcdL [Int.tdiv f.1 (gcdL [f.1,f.2]),e]) ∧ Int.tdiv e (gcdL [Int.tdiv f.1 (gcdL [f.1,f.2]),e]) ≤ 268435456
  N : -4611686018427387904 ≤ lowN f e ∧ lowN f e ≤ 4611686018427387904
  D : 1 ≤ lowD f e ∧ lowD f e ≤ 288230376151711744
theorem low {f : farkas_fraction} {e : Int} (hf : frB f) (he : 1 ≤ e ∧ e ≤ 268435456) : Low f e := by
  obtain ⟨h1,h2,h3⟩ := hf
  have hg := gcdL_pos (l := [f.1,f.2]) (x := f.2) (by simp) (by omega)
  have hd := tdiv_pos h2 hg (gcdL_dvd (by simp))
  have hd2 := tdiv_bound (B := 1073741824) (x := f.2) hg ⟨by omega,h3⟩
  have hn := tdiv_bound (B := 4611686018427387904) (x := f.1) hg h1
  have hh := gcdL_pos (l := [Int.tdiv f.1 (gcdL [f.1,f.2]),e]) (x := e) (by simp) (by omega)
  have hq := tdiv_pos he.1 hh (gcdL_dvd (by simp))
  have hq2 := tdiv_bound (B := 268435456) (x := e) hh ⟨by omega,he.2⟩
  have hN := tdiv_bound (B := 4611686018427387904) hh hn
  refine ⟨hg,⟨hd,hd2.2⟩,hn,hh,⟨hq,hq2.2⟩,hN,?_⟩
  unfold lowD
  have := mul_bound (A := 268435456) (B := 1073741824) (by omega) hq2.2 (by omega) hd2.2
  have hp := Int.mul_pos (a := Int.tdiv e (gcdL [Int.tdiv f.1 (gcdL [f.1,f.2]),e])) (b := Int.tdiv f.2 (gcdL [f.1,f.2])) (by omega) (by omega)
  exact ⟨by omega,by omega⟩
/-- The least common multiple. -/
theorem lcm_ok {a b : Int} (ha : 1 ≤ a) (hb : 1 ≤ b) : 1 ≤ gcdL [a,b] ∧ 1 ≤ Int.tdiv b (gcdL [a,b]) ∧ 1 ≤ lcmI a b ∧ a ∣ lcmI a b ∧ b ∣ lcmI a b := by
  have hg := gcdL_pos (l := [a,b]) (x := a) (by simp) (by omega)
  have hk := tdiv_pos hb hg (gcdL_dvd (by simp))
  have hp := Int.mul_pos (a := Int.tdiv b (gcdL [a,b])) (b := a) (by omega) (by omega)
  refine ⟨hg,hk,hp,⟨Int.tdiv b (gcdL [a,b]),Int.mul_comm ..⟩,⟨Int.tdiv a (gcdL [a,b]),?_⟩⟩
  have e1 := tdiv_mul (x := a) (g := gcdL [a,b]) (gcdL_dvd (by simp))
  have e2 := tdiv_mul (x := b) (g := gcdL [a,b]) (gcdL_dvd (by simp))
  unfold lcmI
  generalize Int.tdiv a (gcdL [a,b]) = u at *
  generalize Int.tdiv b (gcdL [a,b]) = w at *
  generalize gcdL [a,b] = g at *
  grind

theorem any_big {l : List Int} : l.any bigI = true ↔ ∃ x ∈ l,x > 268435456 ∨ x < -268435456 := by
  rw [List.any_eq_true]
  simp [bigI]
theorem not_big {l : List Int} (h : l.any bigI = false) : inB 268435456 l := fun x hx => by
  have : bigI x = false := by
    cases hb : bigI x with
    | false => rfl
    | true => rw [List.any_eq_true.2 ⟨x,hx,hb⟩] at h;cases h
  simp only [bigI,Bool.or_eq_false_iff,decide_eq_false_iff_not] at this
  omega

theorem farkas_point_with.spec (p : farkas_point) (f : farkas_fraction) (h : farkas_point_with.pre p f) : farkas_point_with.wp p f (fun x => x = farkas_point_with.fn p f) := by
  obtain ⟨⟨h12,hx,d1,d2⟩,hf⟩ := h
  have L := low hf ⟨d1,d2⟩
  have i1 := gcdL_two (a := f.1) (b := f.2) (B := 4611686018427387904) (by decide) hf.1 ⟨by have := hf.2;omega,by have := hf.2;omega⟩
  have i2 := gcdL_two (a := Int.tdiv f.1 (gcdL [f.1,f.2])) (b := p.2) (B := 4611686018427387904) (by decide) L.n ⟨by omega,by omega⟩
  refine ⟨inB.i64 i1 (by decide),?_⟩
  rintro x1 rfl
  rw [gcdL_fn i1]
  have Lg := L.g;have Ld := L.d;have Ln := L.n;have Lh := L.h;have Lq := L.q;have LN := L.N;have LD := L.D
  simp only []
  refine ⟨⟨by omega,by omega,by omega⟩,⟨by omega,by omega,by omega⟩,inB.i64 i2 (by decide),?_⟩
  rintro x2 rfl
  rw [gcdL_fn i2]
  rintro x3 hx3
  simp only [] at hx3
  rw [hx3]
  refine ⟨⟨by omega,by unfold lowN at LN;omega,by unfold lowN at LN;omega⟩,⟨by omega,by omega,by omega⟩,?_⟩
  rintro x4 hx4
  have hx4 : x4 = lowN f p.2 := hx4
  have eD : Int.tdiv p.2 (gcdL [Int.tdiv f.1 (gcdL [f.1,f.2]),p.2]) * Int.tdiv f.2 (gcdL [f.1,f.2]) = lowD f p.2 := rfl
  rw [eD,hx4]
  unfold farkas_point_with.fn
  refine ⟨fun _ => ⟨by omega,by omega⟩,fun hc => by rw [if_pos hc],fun hc => ⟨⟨by omega,by omega⟩,?_⟩⟩
  rw [if_neg (by rw [hc];simp)]
  simp only [Bool.or_eq_false_iff,decide_eq_false_iff_not] at hc
  rintro x5 rfl
  have i3 := gcdL_two (a := lowD f p.2) (b := p.2) (B := 4611686018427387904) (by decide) ⟨by omega,by omega⟩ ⟨by omega,by omega⟩
  refine ⟨inB.i64 i3 (by decide),?_⟩
  rintro x6 rfl
  rw [gcdL_fn i3]
  obtain ⟨k1,k2,k3,k4,k5⟩ := lcm_ok LD.1 d1
  have k6 := tdiv_bound (B := 268435456) (x := p.2) k1 ⟨by omega,d2⟩
  have k7 := mul_bound (A := 268435456) (B := 268435456) k6.1 k6.2 (b := lowD f p.2) (by omega) (by omega)
  have eL : Int.tdiv p.2 (gcdL [lowD f p.2,p.2]) * lowD f p.2 = lcmI (lowD f p.2) p.2 := rfl
  simp only []
  rw [eL] at k7 ⊢
  refine ⟨⟨by omega,by omega,by omega⟩,⟨by omega,by omega⟩,fun hc2 => by rw [if_pos hc2],fun hc2 => ?_⟩
  rw [if_neg hc2]
  intro _
  have c1 := tdiv_bound (B := 268435456) (x := lcmI (lowD f p.2) p.2) d1 ⟨by omega,by omega⟩
  have c2 := tdiv_bound (B := 268435456) (x := lcmI (lowD f p.2) p.2) LD.1 ⟨by omega,by omega⟩
  refine ⟨fun m i o => ∃ k : Nat,i = (k : Int) ∧ m + k = p.1.length ∧ o = (p.1.take k).map (fun x => x * Int.tdiv (lcmI (lowD f p.2) p.2) p.2),⟨p.1.length,0,rfl,rfl,rfl⟩,?_⟩
  rintro m i o ⟨k,rfl,hm,rfl⟩
  refine ⟨fun hi => ?_,fun hi => ?_⟩
  · have hk : k < p.1.length := by omega
    rw [gI_nat]
    have b1 := hx _ (getD_mem 0 hk)
    have m1 := mul_bound b1.1 b1.2 c1.1 c1.2
    refine ⟨⟨by omega,hi⟩,⟨by omega,by omega,by omega⟩,⟨by omega,by omega⟩,⟨?_,?_⟩,?_⟩
    · rw [List.length_singleton,List.length_map,List.length_take];omega
    · rw [List.length_singleton,List.length_map,List.length_take];omega
    · rintro o' rfl
      refine ⟨⟨by omega,by omega⟩,m - 1,by omega,k + 1,by omega,by omega,?_⟩
      rw [take_get 0 hk,List.map_append];rfl
  · have hk : k = p.1.length := by omega
    subst hk
    rw [List.take_of_length_le (Nat.le_refl _)]
    refine ⟨fun hb => by rw [if_pos (show bigI (lowN f p.2) = true from hb)],fun hb => ?_⟩
    rw [if_neg (by rw [show bigI (lowN f p.2) = false from hb];simp)]
    simp only [Bool.or_eq_false_iff,decide_eq_false_iff_not] at hb
    have m1 := mul_bound (A := 268435456) (B := 268435456) (a := lowN f p.2) (by omega) (by omega) c2.1 c2.2
    refine ⟨⟨by omega,by omega,by omega⟩,⟨by omega,by omega⟩,⟨?_,?_⟩,?_⟩
    · rw [List.length_singleton,List.length_map];omega
    · rw [List.length_singleton,List.length_map];omega
    rintro z hz
    rw [← hz]
    have hzl : z.length ≤ 13 := by rw [hz,List.length_append,List.length_map,List.length_singleton];omega
    obtain ⟨I,h0,hI⟩ := scan_wp (fun x => !(bigI x)) 0 z (by omega) (((([] : List Int),(0 : Int)),(3 : Int)) = if z.any bigI = true then (([],0),3) else ((z,lcmI (lowD f p.2) p.2),0))
      (((z,lcmI (lowD f p.2) p.2),(0 : Int)) = if z.any bigI = true then (([],0),3) else ((z,lcmI (lowD f p.2) p.2),0))
      (fun h => by
        rw [if_pos]
        obtain ⟨x,hx,hx2⟩ := List.all_eq_false.1 h
        exact List.any_eq_true.2 ⟨x,hx,by simpa using hx2⟩)
      (fun h => by
        rw [if_neg]
        intro ha
        obtain ⟨x,hx,hx2⟩ := List.any_eq_true.1 ha
        have := List.all_eq_true.1 h x hx
        rw [hx2] at this;cases this)
    refine ⟨I,h0,fun m x hx => ⟨fun hi => ?_,(hI m x hx).2⟩⟩
    obtain ⟨a1,a2,a3⟩ := (hI m x hx).1 hi
    refine ⟨a1,by omega,?_⟩
    rintro y rfl
    exact ⟨fun h => a2 (by rw [show bigI (z.getD x.toNat 0) = true from h];rfl),fun h => a3 (by rw [show bigI (z.getD x.toNat 0) = false from h];rfl)⟩

theorem with_err (p : farkas_point) (f : farkas_fraction) : (farkas_point_with.fn p f).2 = 0 ∨ (farkas_point_with.fn p f).2 = 3 := by
  unfold farkas_point_with.fn
  split
  · exact Or.inr rfl
  · split
    · exact Or.inr rfl
    · split
      · exact Or.inr rfl
      · split
        · exact Or.inr rfl
        · exact Or.inl rfl
/-- The new point: what it is,and that it is small. -/
theorem with_ok {p : farkas_point} {f : farkas_fraction} (h : farkas_point_with.pre p f) (h0 : (farkas_point_with.fn p f).2 = 0) :
    (farkas_point_with.fn p f).1 = (p.1.map (fun x => x * Int.tdiv (lcmI (lowD f p.2) p.2) p.2) ++ [lowN f p.2 * Int.tdiv (lcmI (lowD f p.2) p.2) (lowD f p.2)],lcmI (lowD f p.2) p.2) ∧
    inB 268435456 (farkas_point_with.fn p f).1.1 ∧ (1 ≤ (farkas_point_with.fn p f).1.2 ∧ (farkas_point_with.fn p f).1.2 ≤ 268435456) ∧ (farkas_point_with.fn p f).1.1.length = p.1.length + 1 := by
  obtain ⟨⟨h12,hx,d1,d2⟩,hf⟩ := h
  have L := low hf ⟨d1,d2⟩
  obtain ⟨k1,k2,k3,k4,k5⟩ := lcm_ok L.D.1 d1
  unfold farkas_point_with.fn at h0 ⊢
  split at h0
  · simp at h0
  · rename_i c1
    rw [if_neg c1]
    split at h0
    · simp at h0
    · rename_i c2
      rw [if_neg c2]
      split at h0
      · simp at h0
      · rename_i c3
        rw [if_neg c3]
        split at h0
        · simp at h0
        · rename_i c4
          rw [if_neg c4]
          refine ⟨rfl,not_big (Bool.eq_false_iff.2 c4),⟨k3,by simp only [];omega⟩,by rw [List.length_append,List.length_map];rfl⟩

theorem inner_step {ts : List farkas_table} {L : Nat} {n : Int} {k : Nat} {a : farkas_point} (hk : (k : Int) < n) (hn : n ≤ 12) (ht : tabB L (ts.getD (k + 1) d_farkas_table) ∧ (ts.getD (k + 1) d_farkas_table).1 = n) (ha : ptB a) (hl : a.1.length = k) :
    farkas_point_value.pre a (ts.getD (k + 1) d_farkas_table) ∧ farkas_point_with.pre a (farkas_point_value.fn a (ts.getD (k + 1) d_farkas_table)) := by
  have h1 : farkas_point_value.pre a (ts.getD (k + 1) d_farkas_table) := ⟨ha,L,ht.1,by rw [ht.2,hl];exact hk⟩
  exact ⟨h1,ha,value_ok h1⟩

theorem farkas_Inner.spec (p : List api_Cond) (n : Int) : farkas_Inner.wp p n (fun x => x = farkas_Inner.fn p n) := by
  unfold farkas_Inner.wp farkas_Inner.fn
  rintro e rfl
  refine ⟨fun he => by rw [if_pos he],fun he => ⟨he,?_⟩⟩
  rw [if_neg (by rw [he];simp)]
  rintro q rfl
  refine ⟨fun hq => by rw [if_pos hq],fun hq => ?_⟩
  rw [if_neg (by rw [hq];simp)]
  obtain ⟨hn,h96,hv⟩ := asked_ok he
  obtain ⟨e1,e2,e3,e4⟩ := eliminated_ok he hq
  refine ⟨⟨by omega,by omega⟩,⟨_,(e3 0 (Nat.zero_le _)).1⟩,?_⟩
  rintro r rfl
  simp only [Int.toNat_zero]
  refine ⟨fun h => by rw [if_pos h],fun h => ?_⟩
  rw [if_neg (by rw [h];simp)]
  generalize (farkas_eliminated.fn p n).1 = ts at *
  generalize hR : innerL ts n.toNat 0 ([],1) = R
  refine ⟨fun m x4 x5 x6 x7 => ∃ k : Nat,x4 = (k : Int) ∧ m + k = n.toNat ∧ ptB (x6,x7) ∧ x6.length = k ∧ R = innerL ts m k (x6,x7),⟨n.toNat,0,rfl,rfl,⟨by decide,by decide,by decide,by decide⟩,rfl,hR.symm⟩,?_⟩
  rintro m x4 x5 x6 x7 ⟨k,rfl,hm,hp,hl,hq2⟩
  refine ⟨fun hi => ?_,fun hi => ⟨fun h => absurd rfl h,fun _ => ?_⟩⟩
  · have ek : Int.toNat ((k : Int) + 1) = k + 1 := by omega
    rw [ek]
    have hkn : k + 1 ≤ n.toNat := by omega
    obtain ⟨s1,s2⟩ := inner_step (a := (x6,x7)) (by omega) hn.2 (e3 (k + 1) hkn) hp hl
    refine ⟨⟨by omega,by omega⟩,⟨by omega,by omega⟩,s1,s2,?_⟩
    rintro f rfl
    rintro w rfl
    rintro e' he'
    rintro y hy
    rintro z hz
    obtain ⟨m',rfl⟩ : ∃ m',m = m' + 1 := ⟨m - 1,by omega⟩
    unfold innerL at hq2
    refine ⟨fun hne => ⟨fun _ => ?_,fun h => absurd h hne⟩,fun heq => ⟨⟨by omega,by omega⟩,m',by omega,k + 1,by omega,by omega,?_,?_,?_⟩⟩
    · rw [if_pos (by rw [← he'];exact hne)] at hq2
      rw [hq2,← he']
    · obtain ⟨w1,w2,w3,w4⟩ := with_ok s2 (by rw [← he'];exact heq)
      rw [hy,hz]
      exact ⟨by rw [w4];show x6.length + 1 ≤ 12;omega,w2,w3⟩
    · obtain ⟨w1,w2,w3,w4⟩ := with_ok s2 (by rw [← he'];exact heq)
      rw [hy,w4];show x6.length + 1 = _;omega
    · rw [if_neg (by rw [← he',heq];simp)] at hq2
      rw [hq2,hy,hz]
  · have : m = 0 := by omega
    subst this
    exact hq2.symm

/-! ## Rows times a number,and sums of rows -/
theorem getD_map_mul (g : Int) (l : List Int) (k : Nat) : (l.map fun x => g * x).getD k 0 = g * l.getD k 0 := by
  simp only [List.getD_eq_getElem?_getD,List.getElem?_map]
  cases l[k]? <;> simp
theorem gI_map_mul (g : Int) (l : List Int) (v : Int) : gI (l.map fun x => g * x) v = g * gI l v := getD_map_mul g l v.toNat
theorem dotI_mulL (g : Int) : ∀ (l x : List Int),dotI (l.map fun y => g * y) x = g * dotI l x
  | [],_ => by simp [dotI]
  | _ :: _,[] => by simp [dotI]
  | a :: l,b :: x => by simp only [List.map_cons,dotI,dotI_mulL g l x];grind
theorem dotI_mulR (g : Int) : ∀ (l x : List Int),dotI l (x.map fun y => g * y) = g * dotI l x
  | [],_ => by simp [dotI]
  | _ :: _,[] => by simp [dotI]
  | a :: l,b :: x => by simp only [List.map_cons,dotI,dotI_mulR g l x];grind
theorem dotI_mulR' (g : Int) : ∀ (l x : List Int),dotI l (x.map fun y => y * g) = g * dotI l x
  | [],_ => by simp [dotI]
  | _ :: _,[] => by simp [dotI]
  | a :: l,b :: x => by simp only [List.map_cons,dotI,dotI_mulR' g l x];grind
theorem dotI_zipR (a b : Int) : ∀ (l x y : List Int),x.length = y.length → dotI l (List.zipWith (fun p q => a * p + b * q) x y) = a * dotI l x + b * dotI l y
  | [],_,_,_ => by simp [dotI]
  | _ :: _,[],[],_ => by simp [dotI]
  | _ :: _,[],_ :: _,h => by simp at h
  | _ :: _,_ :: _,[],h => by simp at h
  | c :: l,p :: x,q :: y,h => by
    simp only [List.zipWith_cons_cons,dotI,dotI_zipR a b l x y (by simpa using h)];grind
theorem dotI_zipL (a b : Int) : ∀ (x y l : List Int),x.length = y.length → dotI (List.zipWith (fun p q => a * p + b * q) x y) l = a * dotI x l + b * dotI y l
  | [],[],_,_ => by simp [dotI]
  | [],_ :: _,_,h => by simp at h
  | _ :: _,[],_,h => by simp at h
  | _ :: _,_ :: _,[],_ => by simp [dotI]
  | p :: x,q :: y,c :: l,h => by
    simp only [List.zipWith_cons_cons,dotI,dotI_zipL a b x y l (by simpa using h)];grind
theorem zip_getD (a b : Int) (x y : List Int) (h : x.length = y.length) (k : Nat) : (List.zipWith (fun p q => a * p + b * q) x y).getD k 0 = a * x.getD k 0 + b * y.getD k 0 := by
  by_cases hk : k < x.length
  · exact zipWith_getD _ x y k hk (by omega)
  · rw [getD_ge (by rw [List.length_zipWith];omega),getD_ge (by omega),getD_ge (by omega)];simp
theorem reduced_mul (r : farkas_row) : ∃ g,1 ≤ g ∧ (r.2 = (farkas_row_reduced.fn r).2.map fun x => g * x) ∧ (farkas_row_reduced.fn r).1 = r.1 := by
  unfold farkas_row_reduced.fn
  split
  · rename_i hg
    refine ⟨gcdL r.2,by omega,?_,rfl⟩
    simp only [farkas_vector_int_by.fn,List.map_map]
    refine (List.map_congr_left (g := id) fun x hx => ?_).trans (List.map_id _) |>.symm
    have := tdiv_mul (gcdL_dvd hx)
    simp only [Function.comp,id]
    rw [Int.mul_comm];exact this
  · exact ⟨1,by decide,by simp,rfl⟩

theorem foldl_gcd_mul (A : Int) (hA : 0 ≤ A) : ∀ (l : List Int) (a : Int),0 ≤ a → (l.map fun x => A * x).foldl num_Gcd_1.fn (A * a) = A * l.foldl num_Gcd_1.fn a
  | [],a,_ => rfl
  | x :: l,a,ha => by
    have e : num_Gcd_1.fn (A * a) (A * x) = A * num_Gcd_1.fn a x := by
      unfold num_Gcd_1.fn
      rw [Int.natAbs_mul,Int.natAbs_mul,Nat.gcd_mul_left,Int.natCast_mul]
      congr 1;omega
    simp only [List.map_cons,List.foldl_cons,e]
    exact foldl_gcd_mul A hA l _ (num_Gcd_1.nonneg _ _)
theorem gcdL_scale {A : Int} (hA : 0 ≤ A) (l : List Int) : gcdL (l.map fun x => A * x) = A * gcdL l := by
  have := foldl_gcd_mul A hA l 0 (Int.le_refl 0)
  rw [Int.mul_zero] at this;exact this

/-! ## What holds for the rows of a table holds for those of the next -/
theorem dedup_all {n : Int} {P : farkas_row → Prop} (hR : ∀ r,P r → P (farkas_row_reduced.fn r)) : ∀ (l : List farkas_row),(∀ r ∈ l,P r) → ∀ k,k ≤ l.length → ∀ r ∈ dedupR n (l.take k),P r
  | l,_,0,_,r,hr => by simp [dedupR] at hr
  | l,h,k + 1,hk,r,hr => by
    rw [dedup_step n l k (by omega)] at hr
    unfold addRow at hr
    split at hr
    · exact dedup_all hR l h k (by omega) r hr
    · rcases List.mem_append.1 hr with e | e
      · exact dedup_all hR l h k (by omega) r e
      · rw [List.mem_singleton] at e;subst e
        exact hR _ (h _ (getD_mem _ (by omega)))
/-- Each row is there,reduced,but for its weights. -/
theorem dedup_has {n : Int} : ∀ (l : List farkas_row) (k : Nat),k ≤ l.length → ∀ j,j < k → ∃ o ∈ dedupR n (l.take k),o.1 = (farkas_row_reduced.fn (l.getD j d_farkas_row)).1 ∧ o.2.take (Int.toNat (n + 1)) = (farkas_row_reduced.fn (l.getD j d_farkas_row)).2.take (Int.toNat (n + 1))
  | l,0,_,j,hj => by omega
  | l,k + 1,hk,j,hj => by
    rw [dedup_step n l k (by omega)]
    by_cases e : j = k
    · subst e
      unfold addRow
      split
      · rename_i hc
        obtain ⟨o,ho,h⟩ := List.any_eq_true.1 hc
        simp only [farkas_table_kept_1.fn,Bool.and_eq_true,beq_iff_eq] at h
        exact ⟨o,ho,h⟩
      · exact ⟨_,List.mem_append_right _ (List.mem_singleton.2 rfl),rfl,rfl⟩
    · obtain ⟨o,ho,h⟩ := dedup_has (n := n) l k (by omega) j (by omega)
      refine ⟨o,?_,h⟩
      unfold addRow;split
      · exact ho
      · exact List.mem_append_left _ ho
/-- The list of rows that is kept. -/
def wList (t : farkas_table) (v : Int) : List farkas_row :=
  if farkas_table_solver.fn t v ≥ 0 then gather (wEq v (farkas_table_solver.fn t v) (t.2.getD (farkas_table_solver.fn t v).toNat d_farkas_row)) t.2 0 else wIneq v t.2
theorem without_list {t : farkas_table} {v : Int} (h0 : (farkas_table_without.fn t v).2 = 0) : (farkas_table_without.fn t v).1 = (t.1,dedupR t.1 (wList t v)) := by
  have e : farkas_table_without.fn t v = farkas_table_kept.fn t (wList t v) := by unfold farkas_table_without.fn wList;split <;> rfl
  rw [e] at h0 ⊢
  unfold farkas_table_kept.fn at h0 ⊢
  split at h0
  · simp at h0
  · rename_i h1
    split at h0
    · simp at h0
    · rename_i h2;rw [if_neg h1,if_neg h2]
abbrev sgnE (e : farkas_row) (v : Int) : Int := if gI e.2 v < 0 then -1 else 1
abbrev absE (e : farkas_row) (v : Int) : Int := if gI e.2 v < 0 then -(gI e.2 v) else gI e.2 v
theorem wList_all {t : farkas_table} {v : Int} {P P' : farkas_row → Prop} (hP : ∀ r ∈ t.2, P r) (h0 : ∀ r, P r → gI r.2 v = 0 → P' r)
    (hE : ∀ r e,P r → P e → e.1 = true → gI e.2 v ≠ 0 → P' (r.1,farkas_vector_int_sum.fn r.2 (absE e v) (-(sgnE e v) * gI r.2 v) e.2))
    (hI : ∀ l u,P l → P u → l.1 = false → u.1 = false → gI l.2 v > 0 → gI u.2 v < 0 → P' (false,farkas_vector_int_sum.fn l.2 (-(gI u.2 v)) (gI l.2 v) u.2)) :
    ∀ r ∈ wList t v,P' r := by
  intro r hr
  unfold wList at hr
  rcases solver_cases (t := t) (v := v) with ⟨hc,hne⟩ | ⟨k,hk,hk2,hk3,hk4⟩
  · rw [if_neg (by omega)] at hr
    have hf : ∀ x ∈ t.2,gI x.2 v ≠ 0 → x.1 = false := fun x hx h => by
      cases h1 : x.1 with
      | false => rfl
      | true => exact absurd (hne x hx h1) h
    rcases List.mem_append.1 hr with e | e
    · obtain ⟨e1,e2⟩ := List.mem_filter.1 e
      exact h0 r (hP r e1) (by simpa using e2)
    · obtain ⟨x,hx,e⟩ := List.mem_flatMap.1 e
      obtain ⟨y,hy,e⟩ := List.mem_flatMap.1 e
      unfold wPair at e
      split at e
      · rename_i h
        rw [List.mem_singleton] at e;subst e
        exact hI x y (hP x hx) (hP y hy) (hf x hx (by omega)) (hf y hy (by omega)) h.1 h.2
      · cases e
  · rw [if_pos (by omega),hk2,Int.toNat_natCast] at hr
    obtain ⟨j,x,hx,hy⟩ := gather_mem _ _ _ hr
    unfold wEq at hy
    split at hy
    · cases hy
    · split at hy
      · rename_i hz
        rw [List.mem_singleton] at hy;subst hy
        exact h0 r (hP r hx) hz
      · rw [List.mem_singleton] at hy;subst hy
        exact hE x _ (hP x hx) (hP _ (getD_mem _ hk)) hk3 hk4
theorem without_all {t : farkas_table} {v : Int} {P P' : farkas_row → Prop} (hok : (farkas_table_without.fn t v).2 = 0) (hP : ∀ r ∈ t.2, P r) (h0 : ∀ r, P r → gI r.2 v = 0 → P' r)
    (hE : ∀ r e,P r → P e → e.1 = true → gI e.2 v ≠ 0 → P' (r.1,farkas_vector_int_sum.fn r.2 (absE e v) (-(sgnE e v) * gI r.2 v) e.2))
    (hI : ∀ l u,P l → P u → l.1 = false → u.1 = false → gI l.2 v > 0 → gI u.2 v < 0 → P' (false,farkas_vector_int_sum.fn l.2 (-(gI u.2 v)) (gI l.2 v) u.2))
    (hR : ∀ r,P' r → P' (farkas_row_reduced.fn r)) : ∀ r ∈ (farkas_table_without.fn t v).1.2,P' r := by
  rw [without_list hok]
  intro r hr
  have := dedup_all (n := t.1) hR (wList t v) (wList_all hP h0 hE hI) _ (Nat.le_refl _) r
  rw [List.take_of_length_le (Nat.le_refl _)] at this
  exact this hr

/-! ## Each row is a sum of the conditions -/
structure RowOK (p : List api_Cond) (N : Nat) (r : farkas_row) : Prop where
  len : r.2.length = N + 1 + p.length
  lin : ∀ v,v ≤ N → r.2.getD v 0 = dotI (p.map (plc N v)) (r.2.drop (N + 1))
  div : ∀ i,i < p.length → (p.getD i d_api_Cond).1 = 2 → r.2.getD (N + 1 + i) 0 = 0
  eq : ∀ i,i < p.length → (p.getD i d_api_Cond).1 ≠ 1 → r.1 = true → r.2.getD (N + 1 + i) 0 = 0
  ge : ∀ i,i < p.length → (p.getD i d_api_Cond).1 ≠ 1 → 0 ≤ r.2.getD (N + 1 + i) 0
theorem pos_mul {g x : Int} (hg : 1 ≤ g) (h : 0 ≤ g * x) : 0 ≤ x := by
  apply Classical.byContradiction
  intro hx
  have : 0 < g * -x := Int.mul_pos (by omega) (by omega)
  rw [Int.mul_neg] at this;omega
theorem mul_cancel {g x y : Int} (hg : 1 ≤ g) (h : g * x = g * y) : x = y := Int.eq_of_mul_eq_mul_left (by omega) h
theorem mul_zero_cancel {g x : Int} (hg : 1 ≤ g) (h : g * x = 0) : x = 0 := by
  rcases Int.mul_eq_zero.1 h with e | e
  · omega
  · exact e
theorem RowOK.reduced {p : List api_Cond} {N : Nat} {r : farkas_row} (h : RowOK p N r) : RowOK p N (farkas_row_reduced.fn r) := by
  obtain ⟨g,hg,hr,he⟩ := reduced_mul r
  generalize farkas_row_reduced.fn r = o at *
  obtain ⟨h1,h2,h3,h4,h5⟩ := h
  rw [hr] at h1 h2 h3 h4 h5
  refine ⟨by rw [List.length_map] at h1;exact h1,fun v hv => ?_,fun i hi hc => ?_,fun i hi hc hq => ?_,fun i hi hc => ?_⟩
  · have := h2 v hv
    rw [getD_map_mul,← List.map_drop,dotI_mulR] at this
    exact mul_cancel hg this
  · have := h3 i hi hc
    rw [getD_map_mul] at this
    exact mul_zero_cancel hg this
  · have := h4 i hi hc (by rw [← he];exact hq)
    rw [getD_map_mul] at this
    exact mul_zero_cancel hg this
  · have := h5 i hi hc
    rw [getD_map_mul] at this
    exact pos_mul hg this
theorem RowOK.sum {p : List api_Cond} {N : Nat} {r e : farkas_row} {a b : Int} {q : Bool} (h : RowOK p N r) (k : RowOK p N e) (ha : 0 ≤ a) (hq : q = r.1) (hb : e.1 = true ∨ (0 ≤ b ∧ r.1 = false)) :
    RowOK p N (q,farkas_vector_int_sum.fn r.2 a b e.2) := by
  have hl : r.2.length = e.2.length := by rw [h.len,k.len]
  unfold farkas_vector_int_sum.fn
  refine ⟨by rw [List.length_zipWith,← hl,Nat.min_self];exact h.len,fun v hv => ?_,fun i hi hc => ?_,fun i hi hc hq' => ?_,fun i hi hc => ?_⟩
  · rw [zip_getD _ _ _ _ hl,List.drop_zipWith,dotI_zipR _ _ _ _ _ (by simp [hl]),← h.lin v hv,← k.lin v hv]
  · rw [zip_getD _ _ _ _ hl,h.div i hi hc,k.div i hi hc];simp
  · have hr1 : r.1 = true := by rw [← hq];exact hq'
    rw [zip_getD _ _ _ _ hl,h.eq i hi hc hr1]
    rcases hb with hb | hb
    · rw [k.eq i hi hc hb];simp
    · rw [hb.2] at hr1;cases hr1
  · rw [zip_getD _ _ _ _ hl]
    have g1 := Int.mul_nonneg ha (h.ge i hi hc)
    rcases hb with hb | hb
    · rw [k.eq i hi hc hb];simpa using g1
    · have g2 := Int.mul_nonneg hb.1 (k.ge i hi hc);omega

theorem dotI_unit (f : api_Cond → Int) : ∀ (p : List api_Cond) (i : Nat),i < p.length → dotI (p.map f) ((List.replicate p.length 0).set i 1) = f (p.getD i d_api_Cond)
  | [],_,h => by simp at h
  | c :: p,0,_ => by
    have : ∀ (p : List api_Cond),dotI (p.map f) (List.replicate p.length 0) = 0 := by
      intro p
      induction p with
      | nil => rfl
      | cons c p ih => simp [List.replicate_succ,dotI,ih]
    simp [List.replicate_succ,dotI,this p]
  | c :: p,i + 1,h => by
    have := dotI_unit f p i (by simpa using h)
    simp only [List.length_cons,List.replicate_succ,List.set_cons_succ,List.map_cons,dotI,this,List.getD_cons_succ]
    simp
theorem gather_at {α β : Type} (f : Nat → α → List β) (d : α) {y : β} : ∀ (l : List α) (i : Nat),y ∈ gather f l i → ∃ j,j < l.length ∧ y ∈ f (i + j) (l.getD j d)
  | [],i,h => by simp [gather] at h
  | x :: l,i,h => by
    rcases List.mem_append.1 h with e | e
    · exact ⟨0,by simp,by simpa using e⟩
    · obtain ⟨j,hj,hy⟩ := gather_at f d l (i + 1) e
      exact ⟨j + 1,by simpa using hj,by simpa [Nat.add_assoc,Nat.add_comm 1] using hy⟩
theorem gather_in {α β : Type} (f : Nat → α → List β) (d : α) {y : β} : ∀ (l : List α) (i j : Nat),j < l.length → y ∈ f (i + j) (l.getD j d) → y ∈ gather f l i
  | [],i,j,hj,_ => by simp at hj
  | x :: l,i,0,_,h => List.mem_append_left _ (by simpa using h)
  | x :: l,i,j + 1,hj,h => List.mem_append_right _ (gather_in f d l (i + 1) j (by simpa using hj) (by simpa [Nat.add_assoc,Nat.add_comm 1] using h))

theorem first_row_ok {p : List api_Cond} {n : Int} (h : farkas_asked.fn p n = 0) : ∀ r ∈ (farkas_first.fn p n).2,RowOK p n.toNat r := by
  obtain ⟨hn,h96,hv⟩ := asked_ok h
  intro r hr
  obtain ⟨j,hj,hy⟩ := gather_at _ d_api_Cond _ _ hr
  rw [Nat.zero_add] at hy
  have hc := (hv _ (getD_mem d_api_Cond hj)).2
  unfold firstRow at hy
  split at hy
  · cases hy
  · rename_i h2
    rw [List.mem_singleton] at hy
    subst hy
    have hcl : (p.getD j d_api_Cond).2.2.1.length = n.toNat := by omega
    have hdu : ∀ f : api_Cond → Int,dotI (p.map f) ((List.replicate p.length 0).set j 1) = f (p.getD j d_api_Cond) := fun f => dotI_unit f p j hj
    clear hr hc
    generalize hcj : p.getD j d_api_Cond = c at *
    have hw : ∀ i,((c.2.2.1 ++ c.2.2.2 :: (List.replicate p.length (0 : Int)).set j 1)).getD (n.toNat + 1 + i) 0 = if i = j then 1 else 0 := fun i => by
      simp only [List.getD_eq_getElem?_getD]
      rw [List.getElem?_append_right (by omega),hcl,show n.toNat + 1 + i - n.toNat = i + 1 from by omega,List.getElem?_cons_succ]
      have := getD_set (List.replicate p.length (0 : Int)) j i 1
      simp only [List.getD_eq_getElem?_getD,List.length_replicate] at this
      rw [this]
      by_cases e : i = j
      · rw [if_pos ⟨e,hj⟩,if_pos e]
      · rw [if_neg (fun h => e h.1),if_neg e,List.getElem?_replicate];split <;> rfl
    refine ⟨?_,fun v hv' => ?_,fun i hi hc2 => ?_,fun i hi hc2 hq => ?_,fun i hi hc2 => ?_⟩
    · simp only [List.length_append,List.length_cons,List.length_set,List.length_replicate];omega
    · simp only []
      rw [List.drop_append,List.drop_of_length_le (by omega),hcl,show n.toNat + 1 - n.toNat = 1 from by omega]
      simp only [List.nil_append,List.drop_succ_cons,List.drop_zero]
      rw [hdu]
      unfold plc
      simp only [List.getD_eq_getElem?_getD]
      split
      · rename_i hlt
        rw [List.getElem?_append_left (by omega),Int.toNat_natCast]
      · rw [List.getElem?_append_right (by omega),hcl,show v - n.toNat = 0 from by omega];rfl
    · rw [hw]
      by_cases e : i = j
      · subst e;rw [hcj] at hc2;exact absurd hc2 h2
      · rw [if_neg e]
    · rw [hw]
      by_cases e : i = j
      · subst e;rw [hcj] at hc2;exact absurd (by simpa using hq) hc2
      · rw [if_neg e]
    · rw [hw];split <;> omega

/-- In the table j all rows are sums of conditions,and have no variable from j on. -/
structure TabOK (p : List api_Cond) (N j : Nat) (r : farkas_row) : Prop where
  row : RowOK p N r
  zero : ∀ v,j ≤ v → v < N → r.2.getD v 0 = 0
theorem gI_toNat {v : Int} (l : List Int) (h : 0 ≤ v) : gI l v = l.getD v.toNat 0 := rfl
theorem absE_sgn (e : farkas_row) (v : Int) : absE e v = sgnE e v * gI e.2 v := by
  unfold absE sgnE;split
  · omega
  · omega
theorem absE_pos {e : farkas_row} {v : Int} (h : gI e.2 v ≠ 0) : 1 ≤ absE e v := by unfold absE;split <;> omega
theorem tab_step {p : List api_Cond} {N j : Nat} {t : farkas_table} (hj : j < N) (hok : (farkas_table_without.fn t (j : Int)).2 = 0) (ht : ∀ r ∈ t.2,TabOK p N (j + 1) r) : ∀ r ∈ (farkas_table_without.fn t (j : Int)).1.2,TabOK p N j r := by
  refine without_all hok ht (fun r hr hz => ⟨hr.row,fun v h1 h2 => ?_⟩) (fun r e hr he h1 h2 => ⟨hr.row.sum he.row (by have := absE_pos h2;omega) rfl (Or.inl h1),fun v hv1 hv2 => ?_⟩)
    (fun l u hl hu h1 h2 h3 h4 => ⟨hl.row.sum hu.row (by omega) h1.symm (Or.inr ⟨by omega,h1⟩),fun v hv1 hv2 => ?_⟩) fun r hr => ⟨hr.row.reduced,fun v h1 h2 => ?_⟩
  · by_cases e : v = j
    · subst e;rw [← gI_nat];exact hz
    · exact hr.zero v (by omega) h2
  · have hl : r.2.length = e.2.length := by rw [hr.row.len,he.row.len]
    unfold farkas_vector_int_sum.fn
    rw [zip_getD _ _ _ _ hl]
    by_cases ev : v = j
    · subst ev;rw [gI_nat,absE_sgn,gI_nat];grind
    · rw [hr.zero v (by omega) hv2,he.zero v (by omega) hv2];simp
  · have hll : l.2.length = u.2.length := by rw [hl.row.len,hu.row.len]
    unfold farkas_vector_int_sum.fn
    rw [zip_getD _ _ _ _ hll]
    by_cases ev : v = j
    · subst ev;rw [gI_nat,gI_nat];grind
    · rw [hl.zero v (by omega) hv2,hu.zero v (by omega) hv2];simp
  · obtain ⟨g,hg,hr2,he⟩ := reduced_mul r
    have := hr.zero v h1 h2
    rw [hr2,getD_map_mul] at this
    exact mul_zero_cancel hg this
theorem tab_all {p : List api_Cond} {n : Int} (h : farkas_asked.fn p n = 0) (h0 : (farkas_eliminated.fn p n).2 = 0) : ∀ k,k ≤ n.toNat → ∀ r ∈ ((farkas_eliminated.fn p n).1.getD (n.toNat - k) d_farkas_table).2,TabOK p n.toNat (n.toNat - k) r
  | 0,_,r,hr => by
    obtain ⟨e1,e2,e3,e4⟩ := eliminated_ok h h0
    rw [Nat.sub_zero,e2] at hr
    exact ⟨first_row_ok h r hr,fun v h1 h2 => by omega⟩
  | k + 1,hk,r,hr => by
    obtain ⟨e1,e2,e3,e4⟩ := eliminated_ok h h0
    obtain ⟨f1,f2⟩ := e4 (n.toNat - (k + 1)) (by omega)
    have e : n.toNat - (k + 1) + 1 = n.toNat - k := by omega
    rw [e] at f1 f2
    rw [f2] at hr
    exact tab_step (by omega) f1 (by rw [e];exact tab_all h h0 k (by omega)) r hr

theorem ref09_Row_numbers.spec (r : ref09_Row) (h : ref09_Row_numbers.pre r) : ref09_Row_numbers.wp r (fun x => x = ref09_Row_numbers.fn r) := by
  have h : (toF r).2.length ≤ 1048576 := h
  simp only [toF,List.length_append,List.length_cons] at h
  unfold ref09_Row_numbers.wp ref09_Row_numbers.fn
  simp only [List.nil_append,List.length_nil,List.length_append,List.length_cons]
  refine ⟨⟨by omega,by omega⟩,⟨by omega,by omega⟩,⟨by omega,by omega⟩,?_⟩
  rintro x rfl
  simp

theorem ref01_size.spec (a : Int) (h : ref01_size.pre a) : ref01_size.wp a (fun x => x = ref01_size.fn a) := by
  have ha : i64 a := h
  simp only [i64] at ha
  unfold ref01_size.wp ref01_size.fn
  simp only [wrap_u64]
  refine ⟨fun h => ?_,fun h => by omega⟩
  rintro x rfl
  omega

theorem ref01_Gcd.spec (l : List Int) (h : ref01_Gcd.pre l) : ref01_Gcd.wp l (fun x => x = ref01_Gcd.fn l) := by
  have hl : ∀ x ∈ l,i64 x := h
  intro _
  refine ⟨fun n x i => ∃ k : Nat,i = (k : Int) ∧ n + k = l.length ∧ 0 ≤ x ∧ x = (l.take k).foldl num_Gcd_1.fn 0,⟨l.length,0,rfl,rfl,Int.le_refl 0,rfl⟩,?_⟩
  rintro n x i ⟨k,rfl,hn,hx0,hx⟩
  refine ⟨fun hi => ?_,fun hi => ?_⟩
  · have hk : k < l.length := by omega
    rw [gI_nat]
    refine ⟨⟨by omega,hi⟩,hl _ (getD_mem 0 hk),?_⟩
    rintro y rfl
    refine ⟨fun m u w => ∃ p q : Nat,u = (p : Int) ∧ w = (q : Int) ∧ m = q ∧ Nat.gcd p q = Nat.gcd x.natAbs (l.getD k 0).natAbs,⟨(l.getD k 0).natAbs,x.natAbs,(l.getD k 0).natAbs,by omega,rfl,rfl,rfl⟩,?_⟩
    rintro m u w ⟨p,q,rfl,rfl,hm,hg⟩
    refine ⟨fun hq => ⟨hq,p % q,by rw [hm];exact Nat.mod_lt _ (by omega),q,p % q,rfl,(Int.ofNat_tmod p q).symm,rfl,?_⟩,fun hq => ?_⟩
    · rw [Nat.gcd_comm q,← Nat.gcd_rec,Nat.gcd_comm];exact hg
    · have : q = 0 := by omega
      subst this
      rw [Nat.gcd_zero_right] at hg
      refine ⟨⟨by omega,by omega⟩,n - 1,by omega,k + 1,by omega,by omega,by omega,?_⟩
      rw [take_get 0 hk,List.foldl_append,← hx,hg];rfl
  · have hk : k = l.length := by omega
    subst hk
    rw [List.take_of_length_le (Nat.le_refl _)] at hx
    have hg : x = gcdL l := hx
    have hb := gcdL_bound (l := l) (B := 9223372036854775808) (by decide) fun y hy => by have := hl y hy;exact ⟨this.1,by have := this.2;omega⟩
    unfold ref01_Gcd.fn num_Gcd.fn
    rw [← hg] at hb ⊢
    refine ⟨fun h => by rw [if_pos (by omega)],fun h => ⟨⟨by omega,by omega⟩,by rw [if_neg (by omega)]⟩⟩

theorem toF_len (r : ref09_Row) : (toF r).2.length = r.1.1.length + 1 + r.2.2.length := by simp only [toF,List.length_append,List.length_cons];omega
theorem ofF_toF {n : Nat} {r : ref09_Row} (h : r.1.1.length = n) : ofF n (toF r) = r := by
  obtain ⟨⟨C,K⟩,e,W⟩ := r
  have h : C.length = n := h
  subst h
  unfold ofF toF
  simp [List.drop_append]
theorem toF_ofF {n : Nat} {r : farkas_row} (h : n < r.2.length) : toF (ofF n r) = r := by
  unfold ofF toF
  simp only []
  rw [← drop_get 0 h,List.take_append_drop]
theorem ofF_len {n : Nat} {r : farkas_row} (h : n < r.2.length) : (ofF n r).1.1.length = n := by
  show (r.2.take n).length = n
  rw [List.length_take];omega
theorem toF_getC {r : ref09_Row} {v : Int} (h0 : 0 ≤ v) (h : v < (r.1.1.length : Int)) : gI (toF r).2 v = gI r.1.1 v := by
  simp only [gI,toF,List.getD_eq_getElem?_getD]
  rw [List.getElem?_append_left (by omega)]
theorem toF_getK (r : ref09_Row) : (toF r).2.getD r.1.1.length 0 = r.1.2 := by simp [toF,List.getD_eq_getElem?_getD]
theorem toF_dropW (r : ref09_Row) : (toF r).2.drop (r.1.1.length + 1) = r.2.2 := by simp [toF,List.drop_append]
theorem toF_take (r : ref09_Row) : (toF r).2.take (r.1.1.length + 1) = r.1.1 ++ [r.1.2] := by
  show (r.1.1 ++ r.1.2 :: r.2.2).take _ = _
  rw [List.take_append,List.take_of_length_le (by omega)];simp

theorem ref09_mix.spec (a : Int) (r : ref09_Row) (b : Int) (s : ref09_Row) (h : ref09_mix.pre a r b s) : ref09_mix.wp a r b s (fun x => x = ref09_mix.fn a r b s) := by
  have h : farkas_vector_int_sum.pre (toF r).2 a b (toF s).2 := h
  obtain ⟨z1,z2⟩ := sum_inB h
  obtain ⟨hl,hl2,hx,hy,ha,hb⟩ := h
  refine ⟨hl2,by show (toF s).2.length ≤ _;omega,?_⟩
  rintro x hxx
  replace hxx : x = (toF r).2 := hxx
  rintro y hyy
  replace hyy : y = (toF s).2 := hyy
  have hrl := toF_len r
  unfold ref09_mix.fn
  generalize (toF r).2 = X at *
  generalize (toF s).2 = Y at *
  subst hxx
  subst hyy
  refine ⟨⟨by omega,by omega,by omega,by omega⟩,?_⟩
  rintro z rfl
  intro _ _
  generalize hzz : farkas_vector_int_sum.fn x a b y = z at *
  rw [Int.toNat_natCast]
  refine ⟨fun n i o => ∃ k : Nat,i = (k : Int) ∧ n + k = x.length ∧ o = z.take k ++ List.replicate (z.length - k) 0,⟨x.length,0,rfl,rfl,by simp [z1]⟩,?_⟩
  rintro n i o ⟨k,rfl,hn,rfl⟩
  refine ⟨fun hi => ?_,fun hi => ?_⟩
  · have hk : k < x.length := by omega
    rw [fill_len _ _ (by omega),gI_nat,gI_nat,Int.toNat_natCast]
    have bx := hx _ (getD_mem 0 hk)
    have bY := hy _ (getD_mem 0 (by omega : k < y.length))
    have m1 := mul_bound ha.1 ha.2 bx.1 bx.2
    have m2 := mul_bound hb.1 hb.2 bY.1 bY.2
    have hzk : z.getD k 0 = a * x.getD k 0 + b * y.getD k 0 := by
      rw [← hzz];exact zipWith_getD (fun p q => a * p + b * q) x y k hk (by omega)
    refine ⟨⟨by omega,hi⟩,⟨by omega,by omega⟩,⟨by omega,by omega⟩,⟨by omega,by omega⟩,⟨by omega,by omega⟩,⟨by omega,by omega⟩,by omega,?_⟩
    rintro w rfl
    refine ⟨⟨by omega,by omega⟩,n - 1,by omega,k + 1,by omega,by omega,?_⟩
    rw [← hzk];exact fill_step z k (by omega)
  · have hk : k = x.length := by omega
    rw [List.take_of_length_le (by omega),show z.length - k = 0 from by omega,List.replicate_zero,List.append_nil]
    refine ⟨inB.i64 z2 (by decide),?_⟩
    rintro g hg
    have hg : g = (gcdL z,0) := by rw [hg];exact gcdL_fn z2
    rw [hg]
    simp only []
    have red : (farkas_row_reduced.fn (r.2.1,z)) = (r.2.1,if gcdL z > 1 then z.map (fun x => Int.tdiv x (gcdL z)) else z) := by
      unfold farkas_row_reduced.fn farkas_vector_int_by.fn
      simp only []
      split <;> rfl
    rw [red]
    refine ⟨fun o => o = if gcdL z > 1 then z.map (fun x => Int.tdiv x (gcdL z)) else z,⟨fun hg1 => ?_,fun hg1 => by rw [if_neg hg1]⟩,?_⟩
    · rw [if_pos hg1]
      refine ⟨fun n i o => ∃ k : Nat,i = (k : Int) ∧ n + k = z.length ∧ o = (z.take k).map (fun x => Int.tdiv x (gcdL z)) ++ z.drop k,⟨z.length,0,rfl,rfl,by simp⟩,?_⟩
      rintro n i o ⟨k,rfl,hn,rfl⟩
      rw [len_step,Int.toNat_natCast]
      refine ⟨fun hi => ?_,fun hi => ?_⟩
      · have hk : k < z.length := by omega
        rw [map_get_step _ _ _ hk]
        have := tdiv_bound (show 1 ≤ gcdL z by omega) (z2 _ (getD_mem 0 hk))
        refine ⟨⟨by omega,hi⟩,hk,⟨by omega,by omega,by omega⟩,⟨by omega,hi⟩,hk,?_⟩
        rintro w rfl
        exact ⟨⟨by omega,by omega⟩,n - 1,by omega,k + 1,by omega,by omega,map_set_step (α := Int) _ _ _ hk⟩
      · have hk : k = z.length := by omega
        subst hk
        simp
    · rintro o ho
      rw [← ho]
      have hol : o.length = x.length := by rw [ho];split <;> simp [z1]
      intro _
      refine ⟨⟨by omega,by omega⟩,⟨by omega,by omega⟩,⟨by omega,by omega⟩,⟨by omega,by omega⟩,?_⟩
      rintro u rfl
      rintro w rfl
      have e1 : Int.toNat ((r.1.1.length : Int) + 1) = r.1.1.length + 1 := by omega
      rw [Int.toNat_natCast,e1,gI_nat]
      rfl

theorem ref09_same.spec (a b : ref09_Row) (h : ref09_same.pre a b) : ref09_same.wp a b (fun x => x = ref09_same.fn a b) := by
  have h : a.1.1.length = b.1.1.length := h
  unfold ref09_same.wp ref09_same.fn
  refine ⟨fun hc => ?_,fun hc _ => ?_⟩
  · have : ((a.2.1 == b.2.1) && (a.1.2 == b.1.2)) = false := by
      simp only [Bool.or_eq_true,bne_iff_ne] at hc
      rw [Bool.and_eq_false_iff]
      rcases hc with hc | hc
      · exact Or.inl (beq_eq_false_iff_ne.2 hc)
      · exact Or.inr (beq_eq_false_iff_ne.2 hc)
    rw [this];rfl
  · have : ((a.2.1 == b.2.1) && (a.1.2 == b.1.2)) = true := by
      simp only [Bool.or_eq_false_iff,bne_eq_false_iff_eq] at hc
      rw [hc.1,hc.2];simp
    rw [this,Bool.true_and]
    refine ⟨fun n i => ∃ k : Nat,i = (k : Int) ∧ n + k = a.1.1.length ∧ a.1.1.take k = b.1.1.take k,⟨a.1.1.length,0,rfl,rfl,rfl⟩,?_⟩
    rintro n i ⟨k,rfl,hn,ht⟩
    rw [gI_nat,gI_nat]
    refine ⟨fun hi => ⟨⟨by omega,hi⟩,⟨by omega,by omega⟩,fun hne => ?_,fun heq => ⟨⟨by omega,by omega⟩,n - 1,by omega,k + 1,by omega,by omega,?_⟩⟩,fun hi => ?_⟩
    · exact (beq_eq_false_iff_ne.2 fun e => hne (by rw [e])).symm
    · rw [take_get 0 (by omega),take_get 0 (by omega),ht,heq]
    · rw [List.take_of_length_le (by omega),List.take_of_length_le (by omega)] at ht
      rw [ht];exact (beq_self_eq_true b.1.1).symm

theorem ref09_refuted.spec (rows : List ref09_Row) (h : ref09_refuted.pre rows) : ref09_refuted.wp rows (fun x => x = ref09_refuted.fn rows) := by
  have hr : ∀ r ∈ rows,r.2.2.length ≤ 1048576 ∧ inB 1073741824 r.2.2 := h
  unfold ref09_refuted.wp ref09_refuted.fn
  intro _
  generalize hR : refuteR rows = R
  refine ⟨fun m i => ∃ k : Nat,i = (k : Int) ∧ m + k = rows.length ∧ R = refuteR (rows.drop k),⟨rows.length,0,rfl,rfl,hR.symm⟩,?_⟩
  rintro m i ⟨k,rfl,hm,hq⟩
  refine ⟨fun hi => ?_,fun hi => ?_⟩
  · have hk : k < rows.length := by omega
    have hrk := hr _ (getD_mem d_ref09_Row hk)
    refine ⟨⟨by omega,hi⟩,?_⟩
    rintro r hre
    rw [Int.toNat_natCast] at hre
    rw [drop_get d_ref09_Row hk,← hre] at hq
    rw [← hre] at hrk
    unfold refuteR at hq
    refine ⟨fun hc => by rw [if_pos hc] at hq;exact hq.symm,fun hc => ⟨fun hc2 _ => ?_,fun hc2 => ⟨⟨by omega,by omega⟩,m - 1,by omega,k + 1,by omega,by omega,?_⟩⟩⟩
    · rw [if_neg hc,if_pos hc2] at hq
      refine ⟨fun n i o => ∃ k : Nat,i = (k : Int) ∧ n + k = r.2.2.length ∧ o = (r.2.2.take k).map (fun x => -x),⟨r.2.2.length,0,rfl,rfl,rfl⟩,?_⟩
      rintro n i o ⟨k,rfl,hn,rfl⟩
      refine ⟨fun hi => ?_,fun hi => ?_⟩
      · have hk : k < r.2.2.length := by omega
        rw [gI_nat]
        have := hrk.2 _ (getD_mem 0 hk)
        refine ⟨⟨by omega,hi⟩,⟨by omega,by omega⟩,⟨?_,?_⟩,⟨by omega,by omega⟩,n - 1,by omega,k + 1,by omega,by omega,?_⟩
        · rw [List.length_singleton,List.length_map,List.length_take];omega
        · rw [List.length_singleton,List.length_map,List.length_take];omega
        · rw [take_get 0 hk,List.map_append];rfl
      · rw [hq,List.take_of_length_le (by omega)]
    · rw [if_neg hc,if_neg (by rw [hc2];simp)] at hq;exact hq
  · rw [List.drop_of_length_le (by omega)] at hq
    exact hq.symm
/-- The first false row is the same one. -/
theorem refuteR_eq {n : Int} (hn : 0 ≤ n) : ∀ (rows : List ref09_Row),(∀ r ∈ rows,(r.1.1.length : Int) = n) → refuteR rows = refuteL n (rows.map toF)
  | [],_ => rfl
  | r :: l,h => by
    have hr := h r List.mem_cons_self
    have ih := refuteR_eq hn l fun x hx => h x (List.mem_cons_of_mem _ hx)
    have ek : gI (toF r).2 n = r.1.2 := by rw [← hr];exact (gI_nat _ _).trans (toF_getK r)
    have ew : (toF r).2.drop (Int.toNat (n + 1)) = r.2.2 := by rw [← hr,show Int.toNat ((r.1.1.length : Int) + 1) = r.1.1.length + 1 from by omega];exact toF_dropW r
    have e1 : (toF r).1 = r.2.1 := rfl
    rw [List.map_cons]
    unfold refuteR refuteL
    rw [ek,ew,e1,← ih]
    by_cases h1 : r.1.2 < 0
    · rw [if_pos h1,if_neg (by omega),if_neg (by omega)]
    · rw [if_neg h1]
      by_cases h2 : r.1.2 > 0
      · cases he : r.2.1 with
        | true => rw [decide_eq_true h2,Bool.and_self,if_pos rfl,if_neg (by simp;omega),if_pos h2]
        | false => rw [if_neg (by simp),if_pos ⟨by omega,Or.inl rfl⟩]
      · have h0 : r.1.2 = 0 := by omega
        rw [decide_eq_false h2,if_neg (by simp),if_pos ⟨by omega,Or.inr h0⟩]

/-! ## Lists -/
theorem ref02_Order.spec (a b : List Int) (h : ref02_Order.pre a b) : ref02_Order.wp a b (fun x => x = ref02_Order.fn a b) := by
  have h : a.length ≤ b.length := h
  unfold ref02_Order.wp ref02_Order.fn
  intro _
  generalize hR : cmpL a b = R
  refine ⟨fun n i => ∃ k : Nat,i = (k : Int) ∧ n + k = a.length ∧ R = cmpL (a.drop k) (b.drop k),⟨a.length,0,rfl,rfl,hR.symm⟩,?_⟩
  rintro n i ⟨k,rfl,hn,hq⟩
  rw [gI_nat,gI_nat]
  refine ⟨fun hi => ?_,fun hi => ?_⟩
  · have hk : k < a.length := by omega
    rw [drop_get 0 hk,drop_get 0 (by omega : k < b.length)] at hq
    unfold cmpL at hq
    refine ⟨⟨by omega,hi⟩,⟨by omega,by omega⟩,fun hc => ?_,fun hc => ⟨⟨by omega,hi⟩,⟨by omega,by omega⟩,fun hc2 => ?_,fun hc2 => ⟨⟨by omega,by omega⟩,n - 1,by omega,k + 1,by omega,by omega,?_⟩⟩⟩
    · rw [if_pos hc] at hq;exact hq.symm
    · rw [if_neg hc,if_pos hc2] at hq;exact hq.symm
    · rw [if_neg hc,if_neg hc2] at hq;exact hq
  · rw [List.drop_of_length_le (by omega : a.length ≤ k)] at hq
    unfold cmpL at hq
    exact hq.symm
theorem law09_list.spec (a b : List Int) : law09_list.wp a b (fun x => x = law09_list.fn a b) := by
  refine ⟨fun h => ?_,?_⟩
  · show a.length ≤ b.length
    have := beq_iff_eq.1 h;omega
  · rintro x rfl;rfl
theorem cmpL_self : ∀ l : List Int,cmpL l l = 0
  | [] => rfl
  | a :: l => by unfold cmpL;rw [if_neg (by omega),if_neg (by omega)];exact cmpL_self l
theorem list_self (l : List Int) : law09_list.fn l l = true := by unfold law09_list.fn;rw [cmpL_self];simp

theorem nOf_eq {rows : List ref09_Row} {N : Nat} (h : ∀ r ∈ rows,r.1.1.length = N) (hne : rows ≠ []) : nOf rows = N := by
  cases rows with
  | nil => exact absurd rfl hne
  | cons r l => exact h r List.mem_cons_self
theorem getD_mapF {rows : List ref09_Row} {k : Nat} (hk : k < rows.length) : (rows.map toF).getD k d_farkas_row = toF (rows.getD k d_ref09_Row) := by
  simp [List.getD_eq_getElem?_getD,hk]
theorem kept1_same {N : Nat} {a b : ref09_Row} (ha : a.1.1.length = N) (hb : b.1.1.length = N) : farkas_table_kept_1.fn (toF b) (toF a).1 (toF a).2 (N : Int) [] = ref09_same.fn a b := by
  unfold farkas_table_kept_1.fn ref09_same.fn
  have e : Int.toNat ((N : Int) + 1) = N + 1 := by omega
  rw [e]
  have ta := toF_take a
  have tb := toF_take b
  rw [ha] at ta
  rw [hb] at tb
  rw [ta,tb]
  show ((b.2.1 == a.2.1) && (b.1.1 ++ [b.1.2] == a.1.1 ++ [a.1.2])) = _
  rw [Bool.eq_iff_iff]
  simp only [Bool.and_eq_true,beq_iff_eq]
  constructor
  · rintro ⟨h1,h2⟩
    obtain ⟨h3,h4⟩ := List.append_inj h2 (by omega)
    exact ⟨⟨h1.symm,by simpa using h4.symm⟩,h3.symm⟩
  · rintro ⟨⟨h1,h2⟩,h3⟩
    rw [h1,h2,h3];exact ⟨rfl,rfl⟩
theorem addRow_mono (n : Int) (o : List farkas_row) (r : farkas_row) : o.length ≤ (addRow n o r).length := by
  unfold addRow;split
  · exact Nat.le_refl _
  · simp
theorem dedup_mono (n : Int) (l : List farkas_row) : ∀ d k,k + d ≤ l.length → (dedupR n (l.take k)).length ≤ (dedupR n (l.take (k + d))).length
  | 0,k,_ => Nat.le_refl _
  | d + 1,k,h => by
    have := dedup_mono n l d k (by omega)
    rw [← Nat.add_assoc,dedup_step n l (k + d) (by omega)]
    exact Nat.le_trans this (addRow_mono _ _ _)

/-- Rows whose list in the code's form,all reduced,is given. -/
def Nx (N : Nat) (W : List farkas_row) (x : List ref09_Row) : Prop := x.map toF = W.map farkas_row_reduced.fn ∧ ∀ r ∈ x,r.1.1.length = N
theorem Nx.snoc {N : Nat} {W : List farkas_row} {x : List ref09_Row} {w : farkas_row} {r : ref09_Row} (h : Nx N W x) (hr : toF r = farkas_row_reduced.fn w) (hn : r.1.1.length = N) : Nx N (W ++ [w]) (x ++ [r]) := by
  refine ⟨by rw [List.map_append,List.map_append,h.1];simp [hr],fun y hy => ?_⟩
  rcases List.mem_append.1 hy with e | e
  · exact h.2 y e
  · rw [List.mem_singleton] at e;subst e;exact hn
theorem Nx.len {N : Nat} {W : List farkas_row} {x : List ref09_Row} (h : Nx N W x) : x.length = W.length := by
  have := congrArg List.length h.1
  simpa using this
theorem Nx.get {N : Nat} {W : List farkas_row} {x : List ref09_Row} (h : Nx N W x) {k : Nat} (hk : k < x.length) : toF (x.getD k d_ref09_Row) = farkas_row_reduced.fn (W.getD k d_farkas_row) := by
  have hl := h.len
  have := congrArg (fun l => l.getD k d_farkas_row) h.1
  simp only [List.getD_eq_getElem?_getD,List.getElem?_map] at this ⊢
  rw [List.getElem?_eq_getElem hk,List.getElem?_eq_getElem (by omega)] at this ⊢
  simpa using this
/-- A mixed row is the reduced sum. -/
theorem mix_toF {N L : Nat} {a b : Int} {r s : ref09_Row} (hr : r.1.1.length = N) (hL : (toF r).2.length = L) (hs : (toF s).2.length = L) :
    toF (ref09_mix.fn a r b s) = farkas_row_reduced.fn ((toF r).1,farkas_vector_int_sum.fn (toF r).2 a b (toF s).2) ∧ (ref09_mix.fn a r b s).1.1.length = N := by
  have hlen : (farkas_row_reduced.fn ((toF r).1,farkas_vector_int_sum.fn (toF r).2 a b (toF s).2)).2.length = L := by
    rw [reduced_len];unfold farkas_vector_int_sum.fn;rw [List.length_zipWith];omega
  have h1 := toF_len r
  unfold ref09_mix.fn
  refine ⟨?_,?_⟩
  · rw [hr];exact toF_ofF (r := farkas_row_reduced.fn ((toF r).1,farkas_vector_int_sum.fn (toF r).2 a b (toF s).2)) (by omega)
  · rw [hr];exact ofF_len (r := farkas_row_reduced.fn ((toF r).1,farkas_vector_int_sum.fn (toF r).2 a b (toF s).2)) (by omega)

/-- The rows that are left,without doubles,and whether they fit. -/
theorem elim_end {N L : Nat} {W : List farkas_row} {x : List ref09_Row} (hx : Nx N W x) (hN : N + 1 ≤ L) (hL : L ≤ 1048576) (hW : rowsB 4611686018427387904 L W) (hWl : W.length ≤ 1048576) (Q : List ref09_Row × Int → Prop)
    (hQ : Q ((farkas_table_kept.fn ((N : Int),[]) W).1.2.map (ofF N),(farkas_table_kept.fn ((N : Int),[]) W).2)) :
    ∃ I54 : Nat → Int → List ref09_Row → Prop,(∃ n,I54 n 0 []) ∧ ∀ (n54 : Nat) (x50 : Int) (x51 : List ref09_Row),I54 n54 x50 x51 →
      ((x50 < (x.length : Int)) → ((0 : Int) ≤ x50 ∧ x50 < (x.length : Int)) ∧ ∀ (x55 : ref09_Row),x55 = (x.getD (Int.toNat x50) d_ref09_Row) →
        ∃ I62 : Nat → Bool → Int → Prop,(∃ n,I62 n false (0 : Int)) ∧ ∀ (n62 : Nat) (x58 : Bool) (x59 : Int),I62 n62 x58 x59 →
          ((x59 < (x51.length : Int)) → ((0 : Int) ≤ x59 ∧ x59 < (x51.length : Int)) ∧ (Int.toNat x59 < x51.length) ∧ ∀ (x63 : ref09_Row),x63 = (x51.getD (Int.toNat x59) d_ref09_Row) →
            ((!x58) = true → ref09_same.pre x55 x63) ∧ (-9223372036854775808 ≤ x59 + (1 : Int) ∧ x59 + (1 : Int) ≤ 9223372036854775807) ∧ ∃ m,m < n62 ∧ I62 m (x58 || (ref09_same.fn x55 x63)) (x59 + (1 : Int))) ∧
          ((¬ (x59 < (x51.length : Int))) →
            ((x58 = false) → ((x51.length + [x55].length) * 64 ≤ 140737488355328 ∧ x51.length + [x55].length ≤ 9223372036854775807) ∧
              ((((x51 ++ [x55]).length : Int) > (400 : Int)) → Q (([] : List ref09_Row),3)) ∧ ((¬ (((x51 ++ [x55]).length : Int) > (400 : Int))) → (-9223372036854775808 ≤ x50 + (1 : Int) ∧ x50 + (1 : Int) ≤ 9223372036854775807) ∧ ∃ m,m < n54 ∧ I54 m (x50 + (1 : Int)) (x51 ++ [x55]))) ∧
            ((x58 = true) → (((x51.length : Int) > (400 : Int)) → Q (([] : List ref09_Row),3)) ∧ ((¬ ((x51.length : Int) > (400 : Int))) → (-9223372036854775808 ≤ x50 + (1 : Int) ∧ x50 + (1 : Int) ≤ 9223372036854775807) ∧ ∃ m,m < n54 ∧ I54 m (x50 + (1 : Int)) x51)))) ∧
      ((¬ (x50 < (x.length : Int))) →
        ∃ I67 : Nat → Int → Prop,(∃ n,I67 n (0 : Int)) ∧ ∀ (n67 : Nat) (x65 : Int),I67 n67 x65 →
          ((x65 < (x51.length : Int)) → ((0 : Int) ≤ x65 ∧ x65 < (x51.length : Int)) ∧ (Int.toNat x65 < x51.length) ∧ ∀ (x68 : ref09_Row),x68 = (x51.getD (Int.toNat x65) d_ref09_Row) →
            (ref09_Row_numbers.pre x68) ∧ ∀ (x69 : (List Int)),x69 = (ref09_Row_numbers.fn x68) → ∀ (x70 : Int),x70 = (x69.length : Int) → ∀ (_ : x69.length ≤ 9223372036854775807),
            ∃ I74 : Nat → Int → Prop,(∃ n,I74 n (0 : Int)) ∧ ∀ (n74 : Nat) (x72 : Int),I74 n74 x72 →
              ((x72 < x70) → ((0 : Int) ≤ x72 ∧ x72 < (x69.length : Int)) ∧
                ((((decide ((gI x69 x72) < (-1073741824))) || (decide ((gI x69 x72) > (1073741824 : Int)))) = true) → Q (([] : List ref09_Row),3)) ∧
                ((((decide ((gI x69 x72) < (-1073741824))) || (decide ((gI x69 x72) > (1073741824 : Int)))) = false) → (-9223372036854775808 ≤ x72 + (1 : Int) ∧ x72 + (1 : Int) ≤ 9223372036854775807) ∧ ∃ m,m < n74 ∧ I74 m (x72 + (1 : Int)))) ∧
              ((¬ (x72 < x70)) → (-9223372036854775808 ≤ x65 + (1 : Int) ∧ x65 + (1 : Int) ≤ 9223372036854775807) ∧ ∃ m,m < n67 ∧ I67 m (x65 + (1 : Int)))) ∧
          ((¬ (x65 < (x51.length : Int))) → Q (x51,0))) := by
  have hxl := hx.len
  unfold farkas_table_kept.fn at hQ
  simp only [] at hQ
  refine ⟨fun n i o => ∃ k : Nat,i = (k : Int) ∧ n + k = x.length ∧ o.length ≤ 400 ∧ o.map toF = dedupR N (W.take k) ∧ ∀ r ∈ o,r.1.1.length = N,⟨x.length,0,rfl,rfl,by simp,by simp [dedupR],fun r hr => by cases hr⟩,?_⟩
  rintro n i o ⟨k,rfl,hn,ho4,ho,hoN⟩
  have hol : (dedupR N (W.take k)).length = o.length := by rw [← ho];simp
  refine ⟨fun hi => ⟨⟨by omega,hi⟩,?_⟩,fun hi => ?_⟩
  · have hk : k < x.length := by omega
    rintro r hre
    rw [Int.toNat_natCast] at hre
    have hrN : r.1.1.length = N := by rw [hre];exact hx.2 _ (getD_mem _ hk)
    have hrW := hx.get hk
    rw [← hre] at hrW
    have hst := dedup_step N W k (by omega)
    rw [← hrW] at hst
    have hmono := dedup_mono N W (W.length - (k + 1)) (k + 1) (by omega)
    rw [show k + 1 + (W.length - (k + 1)) = W.length from by omega,List.take_of_length_le (Nat.le_refl _)] at hmono
    have hcon : slices_ContainsFunc_Sfarkas_row_farkas_row__farkas_table_kept_1.fn (dedupR N (W.take k)) (toF r).1 (toF r).2 N [] = o.any (fun y => ref09_same.fn r y) := by
      unfold slices_ContainsFunc_Sfarkas_row_farkas_row__farkas_table_kept_1.fn
      rw [← ho,List.any_map]
      rw [Bool.eq_iff_iff,List.any_eq_true,List.any_eq_true]
      constructor
      · rintro ⟨y,hy,h⟩
        exact ⟨y,hy,by rw [← kept1_same hrN (hoN y hy)];exact h⟩
      · rintro ⟨y,hy,h⟩
        exact ⟨y,hy,by rw [← kept1_same hrN (hoN y hy)] at h;exact h⟩
    unfold addRow at hst
    rw [hcon] at hst
    refine ⟨fun m b j => ∃ u : Nat,j = (u : Int) ∧ m + u = o.length ∧ b = (o.take u).any (fun y => ref09_same.fn r y),⟨o.length,0,rfl,rfl,rfl⟩,?_⟩
    rintro m b j ⟨u,rfl,hm,rfl⟩
    refine ⟨fun hj => ?_,fun hj => ?_⟩
    · have hu : u < o.length := by omega
      rw [Int.toNat_natCast]
      refine ⟨⟨by omega,hj⟩,hu,?_⟩
      rintro y rfl
      refine ⟨fun _ => ?_,⟨by omega,by omega⟩,m - 1,by omega,u + 1,by omega,by omega,?_⟩
      · show r.1.1.length = _
        rw [hrN,hoN _ (getD_mem _ hu)]
      · rw [take_get d_ref09_Row hu,List.any_append];simp only [List.any_cons,List.any_nil,Bool.or_false]
    · have hu : u = o.length := by omega
      subst hu
      rw [List.take_of_length_le (Nat.le_refl _)]
      refine ⟨fun hb => ⟨⟨?_,?_⟩,fun h4 => ?_,fun h4 => ⟨⟨by omega,by omega⟩,n - 1,by omega,k + 1,by omega,by omega,by omega,?_,?_⟩⟩,fun hb => ⟨fun h4 => by omega,fun _ => ⟨⟨by omega,by omega⟩,n - 1,by omega,k + 1,by omega,by omega,ho4,?_,hoN⟩⟩⟩
      · rw [List.length_singleton];omega
      · rw [List.length_singleton];omega
      · rw [hb,if_neg (by simp)] at hst
        have : (dedupR N (W.take (k + 1))).length = o.length + 1 := by rw [hst,List.length_append,hol];rfl
        rw [List.length_append,List.length_singleton] at h4
        rw [if_pos (by omega)] at hQ
        exact hQ
      · rw [hb,if_neg (by simp)] at hst
        rw [hst,List.map_append,ho];rfl
      · intro y hy
        rcases List.mem_append.1 hy with e | e
        · exact hoN y e
        · rw [List.mem_singleton] at e;subst e;exact hrN
      · rw [hb,if_pos rfl] at hst
        rw [hst];exact ho
  · have hk : k = W.length := by omega
    subst hk
    rw [List.take_of_length_le (Nat.le_refl _)] at ho hol
    have hd := (dedup_rows (n := (N : Int)) hW W.length (Nat.le_refl _)).1
    rw [List.take_of_length_le (Nat.le_refl _)] at hd
    rw [if_neg (by omega)] at hQ
    have hback : (dedupR N W).map (ofF N) = o := by
      rw [← ho,List.map_map]
      refine (List.map_congr_left (g := id) fun y hy => ?_).trans (List.map_id _)
      exact ofF_toF (hoN y hy)
    refine ⟨fun m j => ∃ u : Nat,j = (u : Int) ∧ m + u = o.length ∧ (o.take u).any (fun r => (toF r).2.any farkas_table_kept_2.fn) = false,⟨o.length,0,rfl,rfl,rfl⟩,?_⟩
    rintro m j ⟨u,rfl,hm,hu0⟩
    refine ⟨fun hj => ?_,fun hj => ?_⟩
    · have hu : u < o.length := by omega
      rw [Int.toNat_natCast]
      refine ⟨⟨by omega,hj⟩,hu,?_⟩
      rintro r hre
      have hrm : r ∈ o := by rw [hre];exact getD_mem _ hu
      have hrd : toF r ∈ dedupR N W := by rw [← ho];exact List.mem_map.2 ⟨r,hrm,rfl⟩
      have hrl := (hd _ hrd).1
      refine ⟨by show (toF r).2.length ≤ _;omega,?_⟩
      rintro w hw
      have hw : w = (toF r).2 := hw
      rintro len rfl
      intro _
      refine ⟨fun m2 j2 => ∃ q : Nat,j2 = (q : Int) ∧ m2 + q = w.length ∧ (w.take q).any farkas_table_kept_2.fn = false,⟨w.length,0,rfl,rfl,rfl⟩,?_⟩
      rintro m2 j2 ⟨q,rfl,hm2,hq⟩
      rw [gI_nat]
      refine ⟨fun hj2 => ⟨⟨by omega,hj2⟩,fun hb => ?_,fun hb => ⟨⟨by omega,by omega⟩,m2 - 1,by omega,q + 1,by omega,by omega,?_⟩⟩,fun hj2 => ⟨⟨by omega,by omega⟩,m - 1,by omega,u + 1,by omega,by omega,?_⟩⟩
      · have hq' : q < w.length := by omega
        rw [if_pos] at hQ
        · exact hQ
        · exact List.any_eq_true.2 ⟨toF r,hrd,List.any_eq_true.2 ⟨w.getD q 0,by rw [← hw];exact getD_mem 0 hq',hb⟩⟩
      · have hq' : q < w.length := by omega
        rw [take_get 0 hq',List.any_append,hq]
        simp only [List.any_cons,List.any_nil,Bool.or_false,Bool.false_or]
        exact hb
      · have hq' : q = w.length := by omega
        subst hq'
        rw [List.take_of_length_le (Nat.le_refl _)] at hq
        rw [take_get d_ref09_Row hu,List.any_append,hu0,← hre]
        simp only [List.any_cons,List.any_nil,Bool.or_false,Bool.false_or]
        rw [← hw];exact hq
    · have hu : u = o.length := by omega
      subst hu
      rw [List.take_of_length_le (Nat.le_refl _)] at hu0
      rw [if_neg] at hQ
      · rw [← hback];exact hQ
      · rw [← ho,List.any_map]
        intro h
        have : (o.any fun r => (toF r).2.any farkas_table_kept_2.fn) = true := h
        rw [hu0] at this;cases this
end Go.Proofs.Ytlncingakpelbaa
