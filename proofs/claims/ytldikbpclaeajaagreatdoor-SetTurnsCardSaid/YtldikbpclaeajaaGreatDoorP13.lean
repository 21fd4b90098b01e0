/- Part of a proof that a law of the program holds for every input: what the functions answer, in plain Lean. No conditions. -/
import Derived.Test.YtldikbpclaeajaaGreatDoorP12
namespace Go.Proofs.YtldikbpclaeajaaGreatDoor
open Go
set_option linter.unusedVariables false
theorem ref04_And.spec (a b : List Cond) (hp : ref04_And.pre (a,b,())) : ref04_And.wp a b (fun r => r = ref04_And.fn (a,b,())) := by
  obtain ⟨h1,h2⟩ := hp
  simp only at h1 h2
  simp only [ref04_And.wp,List.nil_append]
  exact ⟨⟨by simp;omega,by simp;omega⟩,⟨by omega,by omega⟩,trivial⟩
theorem mem_getD {α : Type} {l : List α} {d x : α} (h : x ∈ l) : ∃ i,i < l.length ∧ l.getD i d = x := by
  obtain ⟨i,hi,rfl⟩ := List.mem_iff_getElem.1 h
  exact ⟨i,hi,getD_eq hi⟩
theorem ref04_Known.spec (l : List (List Cond)) (p : List Cond) (hl : l.length ≤ 9223372036854775807) : ref04_Known.wp l p (fun r => r = ref04_Known.fn (l,p,())) := by
  have hfn : ref04_Known.fn (l,p,()) = decide (p ∈ l) := rfl
  simp only [ref04_Known.wp,hfn,ref04_SamePiece.fn]
  refine Lp.iter l.length (fun i y => y = (i : Int) ∧ ∀ j,j < i → l.getD j [] ≠ p) ⟨rfl,fun j hj => absurd hj (by omega)⟩ ?_
  rintro i y hle ⟨rfl,hi⟩ R hR
  by_cases e : i < l.length
  · simp only [decide_eq_true (show (i : Int) < (l.length : Int) by omega),Int.toNat_natCast,cond_true]
    refine ⟨⟨by omega,by omega⟩,?_⟩
    by_cases h : l.getD i [] = p
    · rw [decide_eq_true h]
      exact (decide_eq_true (h ▸ getD_memL e)).symm
    · rw [decide_eq_false h]
      refine ⟨⟨by omega,by omega⟩,hR e _ ⟨rfl,fun j hj => ?_⟩⟩
      by_cases ej : j = i
      · subst ej;exact h
      · exact hi j (by omega)
  · have : i = l.length := by omega
    subst this
    simp only [Int.lt_irrefl,decide_false,cond_false]
    refine (decide_eq_false fun hm => ?_).symm
    obtain ⟨j,hj,h⟩ := mem_getD (d := []) hm
    exact hi j hj h
theorem refStep_len {out out' : List (List Cond)} {p : List Cond} (h : refStep out p = some out') : out.length ≤ out'.length ∧ out'.length ≤ out.length + 1 := by
  unfold refStep at h
  split at h
  · cases h
  · split at h
    · cases h;omega
    · cases h;simp
theorem refM_len : ∀ {l out out' : List (List Cond)},l.foldlM refStep out = some out' → out.length ≤ out'.length ∧ out'.length ≤ out.length + l.length
  | [],out,out',h => by cases h;simp
  | p :: l,out,out',h => by
    simp only [List.foldlM_cons,Option.bind_eq_bind,Option.bind_eq_some_iff] at h
    obtain ⟨s,h1,h2⟩ := h
    have := refStep_len h1
    have := refM_len h2
    simp only [List.length_cons];omega
theorem ref04_Pieces.spec (l : List (List Cond)) (hp : ref04_Pieces.pre (l,())) : ref04_Pieces.wp l (fun r => r = ref04_Pieces.fn (l,())) := by
  obtain ⟨hl,hd⟩ := hp
  simp only at hl hd
  have hfn : ref04_Pieces.fn (l,()) = (match l.foldlM refStep [] with | none => ([],3) | some out => (out,0)) := rfl
  simp only [ref04_Pieces.wp,hfn,ref04_Piece.fn,ref04_Known.fn]
  refine Lp.foldO l [] refStep [] (by omega) ?_ ?_
  · intro i out R e e2 hf ht hR1 hR2
    have hol := (refM_len ht).2
    simp only [List.length_nil,List.length_take] at hol
    simp only [decide_eq_true e2,Int.toNat_natCast,cond_true]
    refine ⟨⟨by omega,by omega⟩,hd _ (getD_memL e),?_⟩
    simp only [refStep] at hR1 hR2
    by_cases h0 : (tidyF (l.getD i [])).2.2 = 0
    · rw [if_neg (fun h => h h0)] at hR1
      simp only [h0,bne_self_eq_false,cond_false]
      refine ⟨fun h => ⟨h,h,trivial⟩,fun h => ⟨h,trivial⟩,fun h => h,?_⟩
      have hb : (!(tidyF (l.getD i [])).2.1 && !decide ((tidyF (l.getD i [])).1 ∈ out)) = !decide ((tidyF (l.getD i [])).2.1 = true ∨ (tidyF (l.getD i [])).1 ∈ out) := by
        cases (tidyF (l.getD i [])).2.1 <;> simp
      rw [hb]
      by_cases h1 : (tidyF (l.getD i [])).2.1 = true ∨ (tidyF (l.getD i [])).1 ∈ out
      · rw [if_pos h1] at hR1
        rw [decide_eq_true h1]
        exact ⟨hf,hR1 _ rfl⟩
      · rw [if_neg h1] at hR1
        rw [decide_eq_false h1]
        exact ⟨⟨by simp;omega,by simp;omega⟩,hf,hR1 _ rfl⟩
    · simp only [bne_iff_ne.2 h0,cond_true]
      rw [hR2 (if_pos h0),((tidyF_err _).resolve_left h0).1]
  · intro out R ht
    simp only [Int.lt_irrefl,decide_false,cond_false]
    rw [ht]
theorem tid_ref : ∀ (l out : List (List Cond)),out.length ≤ 400 → l.foldlM tidStep out = (l.foldlM refStep out).bind fun o => if 400 < o.length then none else some o
  | [],out,h => by
    show some out = if 400 < out.length then none else some out
    rw [if_neg (by omega)]
  | p :: l,out,h => by
    rw [List.foldlM_cons,List.foldlM_cons]
    by_cases h0 : (tidyF p).2.2 = 0
    · by_cases h1 : (tidyF p).2.1 = true ∨ (tidyF p).1 ∈ out
      · have e1 : tidStep out p = some out := (if_neg fun h => h h0).trans (if_pos h1)
        have e2 : refStep out p = some out := (if_neg fun h => h h0).trans (if_pos h1)
        rw [e1,e2]
        exact tid_ref l out h
      · have e2 : refStep out p = some (out ++ [(tidyF p).1]) := (if_neg fun h => h h0).trans (if_neg h1)
        by_cases h2 : 400 < out.length + 1
        · have e1 : tidStep out p = none := (if_neg fun h => h h0).trans ((if_neg h1).trans (if_pos h2))
          rw [e1,e2]
          show none = (l.foldlM refStep (out ++ [(tidyF p).1])).bind _
          rcases opt_cases (l.foldlM refStep (out ++ [(tidyF p).1])) with h3 | ⟨o,h3⟩
          · rw [h3];rfl
          · rw [h3]
            have := (refM_len h3).1
            simp only [List.length_append,List.length_cons,List.length_nil] at this
            exact (if_pos (by omega)).symm
        · have e1 : tidStep out p = some (out ++ [(tidyF p).1]) := (if_neg fun h => h h0).trans ((if_neg h1).trans (if_neg h2))
          rw [e1,e2]
          exact tid_ref l _ (by simp;omega)
    · have e1 : tidStep out p = none := if_pos h0
      have e2 : refStep out p = none := if_pos h0
      rw [e1,e2];rfl
theorem ref04_Made.spec (n : Int) (l : List (List Cond)) (hp : ref04_Made.pre (n,l,())) : ref04_Made.wp n l (fun r => r = ref04_Made.fn (n,l,())) := by
  have hfn : ref04_Made.fn (n,l,()) = ofTid n (l.foldlM tidStep []) := rfl
  simp only [ref04_Made.wp,hfn,ref04_Pieces.fn]
  refine ⟨hp,fun h => ⟨h,trivial⟩,fun h => ⟨h,trivial⟩,fun h => by rw [h];rfl,?_⟩
  rw [tid_ref l [] (by simp)]
  rcases opt_cases (l.foldlM refStep []) with h3 | ⟨o,h3⟩
  · have hpf : piecesF l = ([],3) := by unfold piecesF;rw [h3]
    simp only [hpf,h3];rfl
  · have hpf : piecesF l = (o,0) := by unfold piecesF;rw [h3]
    simp only [hpf,h3]
    by_cases h : 400 < o.length
    · simp only [bne_self_eq_false,Bool.false_or,decide_eq_true (show (400 : Int) < (o.length : Int) by omega),cond_true,Option.bind_some,if_pos h]
      rfl
    · simp only [bne_self_eq_false,Bool.false_or,decide_eq_false (show ¬ (400 : Int) < (o.length : Int) by omega),cond_false,Option.bind_some,if_neg h]
      rfl
theorem setValid.D {s : PSet} (h : setValid s = true) {p : List Cond} (hp : p ∈ s.2) : pieceB p ∧ dims p s.1.toNat := ⟨setValid.B h hp,fun c hc => by
  obtain ⟨h0,_,_,h4⟩ := setValid.b h
  have := ((h4 p hp).2 c hc).2
  omega⟩
theorem ref04_Normal.spec (x : PSet) : ref04_Normal.wp x (fun r => r = ref04_Normal.fn (x,())) := by
  have hfn : ref04_Normal.fn (x,()) = normF x := rfl
  simp only [ref04_Normal.wp,ref04_Valid.fn,ref04_Made.fn,hfn]
  cases hv : setValid x with
  | false => simp [normF,hv]
  | true =>
    have := (setValid.b hv).2.2.1
    refine ⟨⟨by simp only;omega,fun p hp => ⟨setValid.B hv hp,_,(setValid.D hv hp).2⟩⟩,?_⟩
    simp [normF,hv]
theorem ref04_Union.spec (x y : PSet) : ref04_Union.wp x y (fun r => r = ref04_Union.fn (x,y,())) := by
  have hfn : ref04_Union.fn (x,y,()) = unionF x y := rfl
  simp only [ref04_Union.wp,ref04_Both.fn,ref04_Made.fn,hfn,List.nil_append]
  by_cases he : bothErr x y = 0
  · obtain ⟨hx,hy,hxy⟩ := bothErr_zero he
    have h1 := (setValid.b hx).2.2.1
    have h2 := (setValid.b hy).2.2.1
    simp only [he,bne_self_eq_false,cond_false]
    refine ⟨⟨by simp;omega,by simp;omega⟩,⟨by omega,by omega⟩,⟨by simp only [List.length_append];omega,fun p hp => ?_⟩,by simp [unionF,he]⟩
    rcases List.mem_append.1 hp with hp | hp
    · exact ⟨setValid.B hx hp,_,(setValid.D hx hp).2⟩
    · exact ⟨setValid.B hy hp,_,(setValid.D hy hp).2⟩
  · rw [bne_iff_ne.2 he]
    simp [unionF,he]
theorem append_D {p q : List Cond} {n : Nat} (hp : p.length ≤ 96 ∧ ∀ c ∈ p,condValid c = true) (hq : q.length ≤ 96 ∧ ∀ c ∈ q,condValid c = true) (h1 : dims p n) (h2 : dims q n) : pieceD (p ++ q) :=
  ⟨⟨by simp only [List.length_append];omega,fun c hc => (List.mem_append.1 hc).elim (fun h => condValid.condB (hp.2 c h)) (fun h => condValid.condB (hq.2 c h))⟩,n,fun c hc => (List.mem_append.1 hc).elim (h1 c) (h2 c)⟩
theorem ref04_Meet.spec (x y : PSet) : ref04_Meet.wp x y (fun r => r = ref04_Meet.fn (x,y,())) := by
  have hfn : ref04_Meet.fn (x,y,()) = meetF x y := rfl
  simp only [ref04_Meet.wp,ref04_Both.fn,ref04_Made.fn,ref04_And.fn,hfn]
  by_cases he : bothErr x y = 0
  · obtain ⟨hx,hy,hxy⟩ := bothErr_zero he
    have h1 := (setValid.b hx).2.2.1
    have h2 := (setValid.b hy).2.2.1
    simp only [he,bne_self_eq_false,cond_false]
    have hml : ∀ l : List (List Cond),(meets l y.2).length = l.length * y.2.length := fun l => by
      induction l with
      | nil => simp [meets]
      | cons p l ih =>
        have : meets (p :: l) y.2 = (y.2.map fun q => p ++ q) ++ meets l y.2 := rfl
        rw [this,List.length_append,ih,List.length_map,List.length_cons,Nat.succ_mul];omega
    have hsn : ∀ (l : List (List Cond)) p,meets (l ++ [p]) y.2 = meets l y.2 ++ y.2.map fun q => p ++ q := fun l p => by simp [meets]
    refine Lp.iter x.2.length (fun i z => z = ((i : Int),meets (x.2.take i) y.2)) (by simp [meets]) ?_
    rintro i z hle rfl R hR
    by_cases e : i < x.2.length
    · simp only [decide_eq_true (show (i : Int) < (x.2.length : Int) by omega),Int.toNat_natCast,cond_true]
      refine ⟨⟨by omega,by omega⟩,?_⟩
      have hpx := setValid.piece hx (getD_memL (d := []) e)
      have hbase := hml (x.2.take i)
      have hb2 : (x.2.take i).length * y.2.length ≤ 400 * 400 := Nat.mul_le_mul (by simp;omega) h2
      refine Lp.iter y.2.length (fun j z => z = ((j : Int),meets (x.2.take i) y.2 ++ (y.2.take j).map fun q => x.2.getD i [] ++ q)) (by simp) ?_
      rintro j z hjl rfl R' hR'
      by_cases e2 : j < y.2.length
      · simp only [decide_eq_true (show (j : Int) < (y.2.length : Int) by omega),Int.toNat_natCast,cond_true]
        have hpy := setValid.piece hy (getD_memL (d := []) e2)
        refine ⟨⟨by omega,by omega⟩,⟨by show (x.2.getD i []).length ≤ _;omega,by show (y.2.getD j []).length ≤ _;omega⟩,⟨by simp only [List.length_append,List.length_map,List.length_take,List.length_cons,List.length_nil];omega,by simp only [List.length_append,List.length_map,List.length_take,List.length_cons,List.length_nil];omega⟩,⟨by omega,by omega⟩,hR' e2 _ ?_⟩
        rw [take_succ_getD [] e2,List.map_append]
        exact congrArg (Prod.mk ((j : Int) + 1)) (List.append_assoc _ _ _)
      · have : j = y.2.length := by omega
        subst this
        simp only [Int.lt_irrefl,decide_false,cond_false,List.take_length]
        refine ⟨⟨by omega,by omega⟩,hR e _ ?_⟩
        rw [take_succ_getD [] e,hsn];rfl
    · have : i = x.2.length := by omega
      subst this
      simp only [Int.lt_irrefl,decide_false,cond_false,List.take_length]
      refine ⟨⟨?_,fun p hp => ?_⟩,by simp [meetF,he]⟩
      · have hb2 : x.2.length * y.2.length ≤ 400 * 400 := Nat.mul_le_mul h1 h2
        have := hml x.2
        simp only;omega
      · simp only [meets,List.mem_flatMap,List.mem_map] at hp
        obtain ⟨p,hp,q,hq,rfl⟩ := hp
        refine append_D (setValid.piece hx hp) (setValid.piece hy hq) (setValid.D hx hp).2 ?_
        rw [hxy];exact (setValid.D hy hq).2
  · rw [bne_iff_ne.2 he]
    simp [meetF,he]
theorem ref04_Simple.spec (p : List Cond) (n : Int) : ref04_Simple.wp p n (fun r => r = ref04_Simple.fn (p,n,())) := by
  have hfn : ref04_Simple.fn (p,n,()) = simpleF p n := rfl
  simp only [ref04_Simple.wp,hfn,ref03_Valid.fn,ref04_Piece.fn]
  refine ⟨fun h => ⟨h,trivial⟩,fun h => by rw [h];rfl,?_⟩
  by_cases h1 : n < 0 ∨ 12 < n
  · have : (decide (n < 0) || decide (12 < n)) = true := by simpa using h1
    rw [this]
    simp [simpleF,h1]
  · have : (decide (n < 0) || decide (12 < n)) = false := by
      rw [not_or] at h1;simp [h1]
    rw [this]
    have hs : simpleF p n = if 384 < p.length then ([],false,3) else if p.any (fun c => !condValid c) then ([],false,1) else if overF p n = false then ([],false,2) else tidyF p := by
      unfold simpleF;exact if_neg h1
    simp only [cond_false]
    by_cases h2 : 384 < p.length
    · rw [decide_eq_true (show (384 : Int) < (p.length : Int) by omega)]
      rw [hs,if_pos h2];rfl
    · rw [decide_eq_false (show ¬ (384 : Int) < (p.length : Int) by omega)]
      rw [if_neg h2] at hs
      refine Lp.iter p.length (fun i y => y = ((i : Int),if (p.take i).all (fun c => ((c.2.2.1.length : Nat) : Int) == n) = true then (0 : Int) else 2) ∧ (p.take i).all condValid = true) ⟨by simp,by simp⟩ ?_
      rintro i y hle ⟨rfl,hv⟩ R hR
      by_cases e : i < p.length
      · have hts := take_succ_getD dCond e
        simp only [decide_eq_true (show (i : Int) < (p.length : Int) by omega),Int.toNat_natCast,cond_true]
        refine ⟨⟨by omega,by omega⟩,?_⟩
        by_cases h3 : condValid (p.getD i dCond) = true
        · simp only [h3,Bool.not_true,cond_false]
          have hv' : (p.take (i + 1)).all condValid = true := by rw [hts,List.all_append,hv];simp only [List.all_cons,List.all_nil,h3];rfl
          by_cases h4 : (((p.getD i dCond).2.2.1.length : Nat) : Int) = n
          · simp only [bne_eq_false_iff_eq.2 h4,cond_false]
            refine ⟨⟨by omega,by omega⟩,hR e _ ⟨?_,hv'⟩⟩
            rw [hts,List.all_append]
            simp only [List.all_cons,List.all_nil,beq_iff_eq.2 h4,Bool.and_true]
            rfl
          · simp only [bne_iff_ne.2 h4,cond_true]
            refine ⟨⟨by omega,by omega⟩,hR e _ ⟨?_,hv'⟩⟩
            rw [hts,List.all_append]
            simp only [List.all_cons,List.all_nil,beq_eq_false_iff_ne.2 h4,Bool.and_true,Bool.and_false,Bool.false_eq_true,if_false]
            rfl
        · rw [Bool.not_eq_true] at h3
          simp only [h3,Bool.not_false,cond_true]
          rw [hs,if_pos (List.any_eq_true.2 ⟨_,getD_memL (d := dCond) e,by rw [h3];rfl⟩)]
      · have : i = p.length := by omega
        subst this
        rw [List.take_length] at hv ⊢
        simp only [Int.lt_irrefl,decide_false,cond_false]
        have hnv : p.any (fun c => !condValid c) = false := by
          rw [List.any_eq_false]
          intro c hc
          rw [List.all_eq_true.1 hv c hc];simp
        rw [hnv] at hs
        simp only [Bool.false_eq_true,if_false] at hs
        have ho : overF p n = p.all (fun c => ((c.2.2.1.length : Nat) : Int) == n) := by
          unfold overF
          rw [Bool.eq_iff_iff,List.all_eq_true,List.all_eq_true]
          constructor
          · intro h c hc
            have := h c hc
            simp only [Bool.and_eq_true] at this
            exact this.2
          · intro h c hc
            rw [List.all_eq_true.1 hv c hc,h c hc];rfl
        by_cases h5 : p.all (fun c => ((c.2.2.1.length : Nat) : Int) == n) = true
        · rw [ho,h5] at hs
          simp only [h5,if_true,bne_self_eq_false,cond_false]
          simp only [Bool.true_eq_false,if_false] at hs
          refine ⟨⟨⟨(by omega : p.length ≤ 1048576),fun c hc => condValid.condB (List.all_eq_true.1 hv c hc)⟩,n.toNat,fun c hc => ?_⟩,hs.symm⟩
          have := List.all_eq_true.1 h5 c hc
          rw [beq_iff_eq] at this
          omega
        · rw [ho] at hs
          simp only [if_neg h5]
          rw [Bool.not_eq_true] at h5
          rw [h5] at hs
          exact hs.symm
theorem foldGcd_mul {g : Nat} (hg : 0 < g) : ∀ {l : List Int} {s : Int},(s = g ∨ s = -(g : Int)) → (∀ n ∈ l,g ∣ n.natAbs) → ∀ a : Nat,(l.map (·.tdiv s)).foldl (fun g n => Nat.gcd g n.natAbs) a * g = l.foldl (fun g n => Nat.gcd g n.natAbs) (a * g)
  | [],s,_,_,a => rfl
  | n :: l,s,hs,h,a => by
    simp only [List.map_cons,List.foldl_cons]
    rw [foldGcd_mul hg hs fun m hm => h m (by simp [hm])]
    congr 1
    have h1 := h n (by simp)
    have h2 : (n.tdiv s).natAbs = n.natAbs / g := by
      rw [Int.natAbs_tdiv]
      rcases hs with rfl | rfl <;> (simp;rfl)
    rw [h2,← Nat.gcd_mul_right,Nat.div_mul_cancel h1]
theorem gcdL_tdiv {l : List Int} {s : Int} (hg : gcdL l ≠ 0) (hs : s = gcdL l ∨ s = -(gcdL l : Int)) : gcdL (l.map (·.tdiv s)) = 1 := by
  have h := foldGcd_mul (g := gcdL l) (by omega) (l := l) hs (gcdL_dvd (l := l) (g := 0)).2 0
  rw [Nat.zero_mul] at h
  have h2 : gcdL (l.map (·.tdiv s)) * gcdL l = 1 * gcdL l := by rw [Nat.one_mul];exact h
  exact Nat.eq_of_mul_eq_mul_right (by omega) h2
theorem firstNeg_map {g : Nat} (hg : 0 < g) : ∀ {l : List Int},(∀ n ∈ l,g ∣ n.natAbs) → firstNeg (l.map (·.tdiv (g : Int))) = firstNeg l ∧ (firstNeg l = true → firstNeg (l.map (·.tdiv (-(g : Int)))) = false)
  | [],_ => ⟨rfl,fun h => by cases h⟩
  | n :: l,h => by
    obtain ⟨ih1,ih2⟩ := firstNeg_map hg (l := l) fun m hm => h m (by simp [hm])
    obtain ⟨k,hk⟩ := h n (by simp)
    simp only [List.map_cons,firstNeg,Int.tdiv_neg]
    by_cases h0 : n = 0
    · subst h0
      simp only [Int.zero_tdiv,if_true,Int.neg_zero]
      refine ⟨ih1,fun hf => ?_⟩
      have := ih2 hf
      simpa only [Int.tdiv_neg] using this
    · have hk0 : k ≠ 0 := fun e => by subst e;simp at hk;exact h0 hk
      have hq : n.tdiv g = k ∧ 0 < n ∨ n.tdiv g = -(k : Int) ∧ n < 0 := by
        have e1 : ((g : Int) * k).tdiv g = k := by rw [Int.mul_comm];exact Int.mul_tdiv_cancel _ (by omega)
        have e2 : ((g * k : Nat) : Int) = (g : Int) * k := Int.natCast_mul _ _
        rcases Int.lt_or_gt_of_ne h0 with h1 | h1
        · refine .inr ⟨?_,h1⟩
          have : n = -((g : Int) * k) := by omega
          rw [this,Int.neg_tdiv,e1]
        · refine .inl ⟨?_,h1⟩
          have : n = (g : Int) * k := by omega
          rw [this,e1]
      have hq0 : n.tdiv g ≠ 0 := by omega
      have hq1 : -n.tdiv g ≠ 0 := by omega
      rw [if_neg h0,if_neg hq0,if_neg hq1]
      constructor
      · exact decide_eq_decide.2 (by omega)
      · intro h;simp only [decide_eq_true_eq] at h;exact decide_eq_false (by omega)
def normC (n : Nat) (c : Cond) : Prop := c.2.2.1.length = n ∧ (c.1 ≠ 2 → gcdL c.2.2.1 = 1) ∧ (c.1 = 1 → firstNeg c.2.2.1 = false)
theorem eqF_norm {c : Cond} (h0 : (eqF c).2 = 0) : normC c.2.2.1.length (eqF c).1 ∧ (eqF c).1.1 = 1 := by
  have hs : ∀ b,(sureF b).2 ≠ 0 := fun b => by cases b <;> simp [sureF]
  unfold eqF at h0 ⊢
  by_cases hg : gcdL c.2.2.1 = 0 ∨ c.2.2.2.tmod (gcdL c.2.2.1) ≠ 0
  · rw [if_pos hg] at h0;exact absurd h0 (hs _)
  · rw [if_neg hg]
    rw [not_or] at hg
    have hd := (gcdL_dvd (l := c.2.2.1) (g := 0)).2
    have he : eqSign c = (gcdL c.2.2.1 : Int) ∨ eqSign c = -(gcdL c.2.2.1 : Int) := by
      unfold eqSign;split <;> simp
    refine ⟨⟨by simp,fun _ => gcdL_tdiv hg.1 he,fun _ => ?_⟩,rfl⟩
    obtain ⟨h1,h2⟩ := firstNeg_map (g := gcdL c.2.2.1) (by omega) hd
    show firstNeg (c.2.2.1.map (·.tdiv (eqSign c))) = false
    unfold eqSign
    cases hf : firstNeg c.2.2.1 with
    | true => simp only [if_true];exact h2 hf
    | false => simp only [Bool.false_eq_true,if_false];rw [h1,hf]
theorem rawF_norm {c : Cond} (h : condB c) (h0 : (rawF c).2 = 0) : normC c.2.2.1.length (rawF c).1 ∧ (rawF c).1.1 = c.1 := by
  obtain ⟨hk,_⟩ := h
  have hs : ∀ b,(sureF b).2 ≠ 0 := fun b => by cases b <;> simp [sureF]
  rcases hk with hk | hk | ⟨hk,hm1,hm2⟩
  · have hr : rawF c = geF c := by simp [rawF,hk]
    rw [hr] at h0 ⊢
    unfold geF at h0 ⊢
    by_cases hg : gcdL c.2.2.1 = 0
    · rw [if_pos hg] at h0;exact absurd h0 (hs _)
    · rw [if_neg hg,hk]
      exact ⟨⟨by simp,fun _ => gcdL_tdiv hg (.inl rfl),fun h => by cases h⟩,rfl⟩
  · have hr : rawF c = eqF c := by simp [rawF,hk]
    rw [hr] at h0 ⊢
    rw [hk]
    exact eqF_norm h0
  · have hr : rawF c = divF c := by simp [rawF,hk]
    rw [hr] at h0 ⊢
    unfold divF at h0 ⊢
    split at h0
    · exact absurd h0 (hs _)
    split at h0
    · exact absurd h0 (hs _)
    rename_i ha hb
    rw [if_neg ha,if_neg hb,hk]
    exact ⟨⟨by simp,fun h => absurd rfl h,fun h => by cases h⟩,rfl⟩
theorem tmod_one (n : Int) : n.tmod 1 = 0 := by rw [Int.tmod_eq_zero_of_dvd];exact Int.one_dvd _
theorem eq_of_ge {n : Nat} {c : Cond} (h : normC n c) (h0 : c.1 = 0) : (rawF (1,0,c.2.2)).2 = 0 ∧ normC n (rawF (1,0,c.2.2)).1 ∧ (rawF (1,0,c.2.2)).1.1 = 1 := by
  have hg := h.2.1 (by omega)
  have hr : rawF (1,0,c.2.2) = eqF (1,0,c.2.2) := rfl
  have hz : (eqF (1,0,c.2.2)).2 = 0 := by
    unfold eqF
    have : ¬ (gcdL c.2.2.1 = 0 ∨ c.2.2.2.tmod (gcdL c.2.2.1) ≠ 0) := by
      rw [hg]
      rintro (h | h)
      · omega
      · exact h (tmod_one _)
    show (if gcdL c.2.2.1 = 0 ∨ c.2.2.2.tmod (gcdL c.2.2.1) ≠ 0 then _ else _ : Cond × Int).2 = 0
    rw [if_neg this]
  rw [hr]
  have := eqF_norm hz
  rw [show ((1,0,c.2.2) : Cond).2.2.1.length = n from h.1] at this
  exact ⟨hz,this⟩
theorem rawL_norm {p : List Cond} {n : Nat} (h : pieceB p) (hd : dims p n) : ∀ c ∈ rawL p,normC n c := by
  intro c hc
  simp only [rawL,List.mem_map,List.mem_filter] at hc
  obtain ⟨r,⟨⟨d,hd2,rfl⟩,hr⟩,rfl⟩ := hc
  have := (rawF_norm (h.2 d hd2) (by simpa using hr)).1
  rwa [hd d hd2] at this
theorem tidyF_norm {p : List Cond} {n : Nat} (h : pieceB p) (hd : dims p n) : ∀ c ∈ (tidyF p).1,normC n c :=
  tidyF_P (P := normC n) (fun d c hd hc => hd) (fun c h0 hc => (eq_of_ge hc h0).2.1) h (rawL_norm h hd)
theorem tidyF_dims {p : List Cond} {n : Nat} (h : pieceB p) (hd : dims p n) : dims (tidyF p).1 n := fun c hc => (tidyF_norm h hd c hc).1
theorem tidStep_dims {out out' : List (List Cond)} {p : List Cond} {n : Nat} (h : tidStep out p = some out') (hl : ∀ q ∈ out,dims q n) (hp : pieceB p) (hd : dims p n) : ∀ q ∈ out',dims q n := by
  unfold tidStep at h
  split at h
  · cases h
  · split at h
    · cases h;exact hl
    · split at h
      · cases h
      · cases h
        intro q hq
        rcases List.mem_append.1 hq with hq | hq
        · exact hl q hq
        · simp only [List.mem_singleton] at hq;subst hq
          exact tidyF_dims hp hd
theorem tidM_dims {n : Nat} : ∀ {l : List (List Cond)} {out out' : List (List Cond)},l.foldlM tidStep out = some out' → (∀ q ∈ out,dims q n) → (∀ p ∈ l,pieceB p ∧ dims p n) → ∀ q ∈ out',dims q n
  | [],out,out',h,hl,_ => by cases h;exact hl
  | p :: l,out,out',h,hl,hb => by
    simp only [List.foldlM_cons,Option.bind_eq_bind,Option.bind_eq_some_iff] at h
    obtain ⟨s,h1,h2⟩ := h
    have h3 := hb p (by simp)
    exact tidM_dims h2 (tidStep_dims h1 hl h3.1 h3.2) fun q hq => hb q (by simp [hq])
theorem normF_dims {x : PSet} (hx : setValid x = true) (h : (normF x).2 = 0) : ∀ q ∈ (normF x).1.2,dims q x.1.toNat := by
  unfold normF at h ⊢
  rw [if_neg (by rw [hx];simp)] at h ⊢
  unfold ofTid at h ⊢
  rcases opt_cases (tidL x.2) with ho | ⟨out,ho⟩
  · rw [ho] at h;cases h
  · rw [ho]
    exact tidM_dims ho (by simp) fun p hp => setValid.D hx hp
theorem othersF_dims {c o : Cond} (h : o ∈ othersF c) : o.2.2.1.length = c.2.2.1.length := by
  unfold othersF at h
  split at h
  · simp only [List.mem_singleton] at h;subst h;simp [oppF]
  · split at h
    · simp only [List.mem_cons,List.not_mem_nil,or_false] at h
      rcases h with rfl | rfl
      · rfl
      · simp [oppF]
    · obtain ⟨r,_,rfl⟩ := List.mem_map.1 h
      rfl
theorem negM_dims {n : Nat} : ∀ {l out out' : List Cond},l.foldlM (negStep n) out = some out' → dims out n → (∀ c ∈ l,condB c ∧ c.2.2.1.length = n) → dims out' n
  | [],out,out',h,h1,_ => by cases h;exact h1
  | c :: l,out,out',h,h1,hb => by
    simp only [List.foldlM_cons,Option.bind_eq_bind,Option.bind_eq_some_iff] at h
    obtain ⟨s,h2,h3⟩ := h
    refine negM_dims h3 ?_ fun d hd => hb d (by simp [hd])
    have key : ∀ x : Cond,x.2.2.1.length = n → dims (out ++ [x]) n := fun x hx d hd => by
      rcases List.mem_append.1 hd with hd | hd
      · exact h1 d hd
      · simp only [List.mem_singleton] at hd;subst hd;exact hx
    obtain ⟨hcb,hcl⟩ := hb c (by simp)
    unfold negStep at h2
    split at h2
    · cases h2
    · rename_i he
      split at h2
      · cases h2;exact key _ (by simp)
      · split at h2
        · cases h2;exact h1
        · cases h2
          refine key _ ?_
          have he' : (makeF c).2.2 = 0 := by omega
          have hs : (makeF c).2.1 = 0 := by omega
          unfold makeF at he' hs ⊢
          split at he'
          · cases he'
          · rename_i h5
            rw [if_neg h5] at hs ⊢
            have := (rawF_norm hcb hs).1.1
            exact this.trans hcl
theorem negF_dims {c : Cond} (hv : condValid c = true) : dims (negF c).1 c.2.2.1.length := by
  unfold negF
  rw [if_neg (by rw [hv];simp)]
  rcases opt_cases ((othersF c).foldlM (negStep c.2.2.1.length) []) with h | ⟨out,h⟩
  · rw [h];intro d hd;simp at hd
  · rw [h]
    simp only
    split
    · intro d hd;simp at hd
    · exact negM_dims h (by intro d hd;simp at hd) fun o ho => ⟨othersF_b hv o ho,othersF_dims ho⟩
theorem ref02_Mix.spec (a : Int) (l : Lin) (b : Int) (m : Lin) (hp : ref02_Mix.pre (a,l,b,m,())) : ref02_Mix.wp a l b m (fun r => r = ref02_Mix.fn (a,l,b,m,())) := by
  obtain ⟨ha,⟨hl1,hl2,hl3⟩,hb,⟨hm1,hm2,hm3⟩,he⟩ := hp
  simp only at ha hl1 hl2 hl3 hb hm1 hm2 hm3 he
  have key : ∀ x y : Int,(-1048576 ≤ x ∧ x ≤ 1048576) → (-1048576 ≤ y ∧ y ≤ 1048576) → -1099511627776 ≤ x * y ∧ x * y ≤ 1099511627776 := fun x y hx hy =>
    mul_bound (n := 1048576) (m := 1048576) (by omega) (by omega) hx.1 hx.2 hy.1 hy.2
  have k1 := key a l.2 ha hl3
  have k2 := key b m.2 hb hm3
  have hfn : ref02_Mix.fn (a,l,b,m,()) = mixF a l b m := rfl
  simp only [ref02_Mix.wp,Int.toNat_natCast,hfn]
  unfold mixF
  refine ⟨⟨by omega,by omega,by omega,by omega⟩,⟨by omega,by omega⟩,⟨by omega,by omega⟩,⟨by omega,by omega⟩,?_⟩
  have hrl : (List.range l.1.length).length = l.1.length := by simp
  have hF := Lp.fill (body := fun (y5 : Int × List Int) R5 => let v2 := List.getD l.1 (Int.toNat y5.1) (0 : Int);let v3 := List.getD m.1 (Int.toNat y5.1) (0 : Int);cond (decide (y5.1 < ((List.length l.1 : Nat) : Int))) (((0 : Int) ≤ y5.1 ∧ y5.1 < ((List.length l.1 : Nat) : Int)) ∧ (fits IntKind.i64 (a * v2) ∧ (((0 : Int) ≤ y5.1 ∧ y5.1 < ((List.length m.1 : Nat) : Int)) ∧ (fits IntKind.i64 (b * v3) ∧ (fits IntKind.i64 ((a * v2) + (b * v3)) ∧ (((0 : Int) ≤ y5.1 ∧ y5.1 < ((List.length y5.2 : Nat) : Int)) ∧ (Int.toNat y5.1 < List.length y5.2 ∧ (fits IntKind.i64 (y5.1 + (1 : Int)) ∧ R5 ((y5.1 + (1 : Int)),(List.set y5.2 (Int.toNat y5.1) ((a * v2) + (b * v3)))))))))))) (((y5.2,((a * l.2) + (b * m.2))) : Lin) = ((List.range l.1.length).map fun i => a * l.1.getD i 0 + b * m.1.getD i 0,a * l.2 + b * m.2))) (List.range l.1.length) 0 0 (fun i => a * l.1.getD i 0 + b * m.1.getD i 0) (by omega) (fun i out R hi hi' hf ho hR => ?_) (fun R => ?_)
  · rw [hrl] at hF;exact hF
  · rw [hrl] at hi hi' ho
    rw [range_getD hi] at hR
    have k3 := key a _ ha (hl2 _ (getD_memL (d := 0) hi))
    have k4 := key b _ hb (hm2 _ (getD_memL (d := 0) (show i < m.1.length by omega)))
    simp only [decide_eq_true hi',Int.toNat_natCast,cond_true]
    exact ⟨⟨by omega,by omega⟩,⟨by omega,by omega⟩,⟨by omega,by omega⟩,⟨by omega,by omega⟩,⟨by omega,by omega⟩,⟨by omega,by omega⟩,by omega,hf,hR⟩
  · rw [hrl]
    simp only [Int.lt_irrefl,decide_false,cond_false]
theorem mixF_zero (a : Int) (l : Lin) (b k : Int) : mixF a l b (List.replicate l.1.length 0,k) = (l.1.map fun n => a * n,a * l.2 + b * k) := by
  unfold mixF
  congr 1
  apply List.ext_getElem (by simp)
  intro i h1 h2
  simp only [List.length_map,List.length_range] at h1
  simp only [List.getElem_map,List.getElem_range]
  rw [getD_eq h1,getD_eq (by simpa using h1)]
  simp
theorem JoinW.of {σ : Type} {K : σ → Prop} {body : (σ → Prop) → Prop} {P : σ → Prop} (hK : ∀ y,P y → K y) (hb : ∀ R : σ → Prop,(∀ y,P y → R y) → body R) : JoinW K body := hb K hK
theorem ref03_Negate.spec (c : Cond) : ref03_Negate.wp c (fun r => r = ref03_Negate.fn (c,())) := by
  have hfn : ref03_Negate.fn (c,()) = negF c := rfl
  simp only [ref03_Negate.wp,ref03_Valid.fn,hfn,Int.toNat_natCast,ref02_Mix.fn,mixF_zero,ref03_Made.fn]
  cases hv : condValid c with
  | false => simp [negF,hv]
  | true =>
    simp only [Bool.not_true,cond_false]
    have hl := linValid.b (condValid.lin hv)
    have hol := othersF_len hv
    have hob := othersF_b hv
    have hpre : ∀ a b : Int,(-1048576 ≤ a ∧ a ≤ 1048576) → (-1048576 ≤ b ∧ b ≤ 1048576) → ref02_Mix.pre (a,c.2.2,b,(List.replicate c.2.2.1.length 0,1),()) := fun a b ha hb =>
      ⟨ha,⟨by show c.2.2.1.length ≤ _;omega,hl.2.1,hl.2.2⟩,hb,⟨by show (List.replicate c.2.2.1.length (0 : Int)).length ≤ _;simp;omega,fun n hn => by rw [(List.mem_replicate.1 hn).2];omega,by show (-1048576 : Int) ≤ 1;omega,by show (1 : Int) ≤ 1048576;omega⟩,by simp⟩
    have hneg : negF c = match (othersF c).foldlM (negStep c.2.2.1.length) [] with
      | none => ([],3)
      | some out => if 400 < out.length then ([],3) else (out,0) := by
      unfold negF;exact if_neg (by rw [hv];simp)
    refine ⟨⟨by omega,by omega,by omega,by omega⟩,JoinW.of (P := fun y => y.1 = othersF c) ?_ ?_⟩
    · rintro ⟨L,b1,b2,k⟩ hL
      simp only at hL
      subst hL
      refine Lp.foldO (othersF c) dCond (negStep c.2.2.1.length) [] (by omega) (fun i t R hi hi' hf ht hR hn => ?_) (fun t R ht => ?_)
      · have htl : t.length ≤ 512 := by
          have := foldlM_len (fun _ _ _ h => negStep_len h) _ _ _ ht
          simp only [List.length_take,List.length_nil] at this;omega
        have hmem := getD_memL (d := dCond) hi
        simp only [decide_eq_true hi',Int.toNat_natCast,cond_true]
        refine ⟨⟨by omega,hi'⟩,hob _ hmem,?_⟩
        have hst := rawF_state ((othersF c).getD i dCond)
        have hmk : makeF ((othersF c).getD i dCond) = if (rawF ((othersF c).getD i dCond)).2 = 0 ∧ condValid (rawF ((othersF c).getD i dCond)).1 = false then (dCond,0,3) else ((rawF ((othersF c).getD i dCond)).1,(rawF ((othersF c).getD i dCond)).2,0) := rfl
        have hns : negStep c.2.2.1.length t ((othersF c).getD i dCond) = if (makeF ((othersF c).getD i dCond)).2.2 ≠ 0 then none else if 0 < (makeF ((othersF c).getD i dCond)).2.1 then some (t ++ [(0,0,List.replicate c.2.2.1.length 0,0)]) else if (makeF ((othersF c).getD i dCond)).2.1 < 0 then some t else some (t ++ [(makeF ((othersF c).getD i dCond)).1]) := rfl
        generalize hr : rawF ((othersF c).getD i dCond) = r at *
        obtain ⟨rc,rs⟩ := r
        simp only at hst hns hmk
        rcases hst with rfl | rfl | rfl
        · simp only [beq_self_eq_true,show ((0 : Int) == 1) = false from rfl,cond_false,Bool.true_and]
          refine ⟨fun h => ⟨h,trivial⟩,fun h => ⟨h,trivial⟩,fun h => h,?_⟩
          cases hvr : condValid rc with
          | false =>
            rw [hmk.trans (if_pos ⟨rfl,hvr⟩)] at hns
            simp only [Bool.not_false,cond_true]
            rw [hneg,hn (by rw [hns];rfl)]
          | true =>
            rw [hmk.trans (if_neg (by rw [hvr];simp))] at hns
            simp only [Bool.not_true,cond_false,cond_true]
            exact ⟨⟨by simp;omega,by simp;omega⟩,hf,hR _ (by rw [hns];rfl)⟩
        · rw [hmk.trans (if_neg (by simp))] at hns
          simp only [beq_self_eq_true,cond_true]
          exact ⟨⟨by simp;omega,by simp;omega⟩,hf,hR _ (by rw [hns];rfl)⟩
        · rw [hmk.trans (if_neg (by simp))] at hns
          simp only [show ((-1 : Int) == 1) = false from rfl,show ((-1 : Int) == 0) = false from rfl,cond_false,Bool.false_and]
          exact ⟨fun h => (by cases h),fun h => (by cases h),fun h => (by cases h),hf,hR _ (by rw [hns];rfl)⟩
      · simp only [Int.lt_irrefl,decide_false,cond_false]
        rw [hneg,ht]
        simp only
        by_cases h4 : 400 < t.length
        · rw [if_pos h4,decide_eq_true (show (400 : Int) < (t.length : Int) by omega)];rfl
        · rw [if_neg h4,decide_eq_false (show ¬ (400 : Int) < (t.length : Int) by omega)];rfl
    · intro R hR
      have hk := condValid.kind hv
      have h1 : (c.2.2.1.map fun n => (-1 : Int) * n) = c.2.2.1.map fun n => -n := List.map_congr_left fun n _ => by omega
      have h2 : (c.2.2.1.map fun n => (1 : Int) * n) = c.2.2.1 := map_one _
      by_cases k0 : c.1 = 0
      · simp only [k0,beq_self_eq_true,cond_true]
        refine ⟨hpre _ _ (by omega) (by omega),hR _ ?_⟩
        simp only [othersF,k0,if_true,oppF,h1]
        rw [show (-1 : Int) * c.2.2.2 + -1 * 1 = -1 - c.2.2.2 by omega]
      · by_cases k1 : c.1 = 1
        · simp only [k1,show ((1 : Int) == 0) = false from rfl,beq_self_eq_true,cond_true,cond_false]
          refine ⟨hpre _ _ (by omega) (by omega),hpre _ _ (by omega) (by omega),hR _ ?_⟩
          simp only [othersF,k1,show (1 : Int) ≠ 0 by decide,if_true,if_false,oppF,h1,h2]
          rw [show (-1 : Int) * c.2.2.2 + -1 * 1 = -1 - c.2.2.2 by omega,show (1 : Int) * c.2.2.2 + -1 * 1 = c.2.2.2 - 1 by omega]
        · simp only [beq_eq_false_iff_ne.2 k0,beq_eq_false_iff_ne.2 k1,cond_false]
          have ho : othersF c = (List.range (c.2.1 - 1).toNat).map fun (r : Nat) => ((2,c.2.1,c.2.2.1,c.2.2.2 - ((r : Int) + 1)) : Cond) := by
            unfold othersF;rw [if_neg k0,if_neg k1]
          have hm : 1 ≤ c.2.1 ∧ c.2.1 ≤ 512 := by omega
          refine Lp.iter (c.2.1 - 1).toNat (fun i y => y = ((i : Int) + 1,(List.range i).map fun (r : Nat) => ((2,c.2.1,c.2.2.1,c.2.2.2 - ((r : Int) + 1)) : Cond))) rfl ?_
          rintro i y hle rfl R' hR'
          by_cases e : i < (c.2.1 - 1).toNat
          · simp only [decide_eq_true (show (i : Int) + 1 < c.2.1 by omega),cond_true]
            refine ⟨⟨by omega,by omega⟩,hpre _ _ (by omega) (by omega),⟨by simp;omega,by simp;omega⟩,⟨by omega,by omega⟩,hR' e _ ?_⟩
            simp only [h2]
            rw [List.range_succ,List.map_append,show (1 : Int) * c.2.2.2 + -((i : Int) + 1) * 1 = c.2.2.2 - ((i : Int) + 1) by omega]
            rfl
          · simp only [decide_eq_false (show ¬ (i : Int) + 1 < c.2.1 by omega),cond_false]
            refine hR _ ?_
            rw [ho,show i = (c.2.1 - 1).toNat by omega]
theorem ref01_Coord.spec (n : Int) : ref01_Coord.wp n (fun r => r = ref01_Coord.fn (n,())) := ⟨fun h => ⟨h,trivial⟩,fun h => h,rfl⟩
theorem ref02_Point.spec (l : List Int) (hl : l.length ≤ 9223372036854775807) : ref02_Point.wp l (fun r => r = ref02_Point.fn (l,())) := by
  have hfn : ref02_Point.fn (l,()) = l.all Coord := rfl
  simp only [ref02_Point.wp,hfn,ref01_Coord.fn]
  refine Lp.all l 0 Coord hl ?_ ?_
  · intro i R e e2 hf h1 h2
    simp only [decide_eq_true e2,Int.toNat_natCast,cond_true]
    refine ⟨⟨by omega,by omega⟩,?_⟩
    cases h : Coord (l.getD i 0) with
    | true => exact ⟨hf,h1 h⟩
    | false => exact (h2 h).symm
  · intro R h
    simp only [Int.lt_irrefl,decide_false,cond_false]
    exact h.symm
theorem dotM_all {a b : List Int} (ha : ∀ n ∈ a,Fit n = true) (hb : ∀ n ∈ b,Coord n = true) (s : Int) : (a.zip b).foldlM dotStep s = some (s + dotL a b) := by
  rw [dotM,if_pos]
  rw [List.all_eq_true]
  rintro ⟨x,y⟩ h
  rw [ha x (List.of_mem_zip h).1,hb y (List.of_mem_zip h).2];rfl
theorem dotL_b {a b : List Int} (ha : ∀ n ∈ a,Fit n = true) (hb : ∀ n ∈ b,Coord n = true) : -(4503599627370496 * (a.length : Int)) ≤ dotL a b ∧ dotL a b ≤ 4503599627370496 * (a.length : Int) := by
  have := dotM_bound (dotM_all ha hb 0)
  simp only [List.length_zip] at this
  omega
theorem dotL_take {a b : List Int} {i : Nat} (h : i < a.length) (h2 : i < b.length) : dotL (a.take (i + 1)) (b.take (i + 1)) = dotL (a.take i) (b.take i) + a.getD i 0 * b.getD i 0 := by
  rw [take_succ_getD 0 h,take_succ_getD 0 h2]
  have key : ∀ (u v : List Int) (x y : Int),u.length = v.length → dotL (u ++ [x]) (v ++ [y]) = dotL u v + x * y := by
    intro u
    induction u with
    | nil => intro v x y h;cases v with
      | nil => simp [dotL]
      | cons _ _ => simp at h
    | cons p u ih => intro v x y h;cases v with
      | nil => simp at h
      | cons q v =>
        simp only [List.cons_append,dotL]
        rw [ih v x y (by simpa using h)];omega
  exact key _ _ _ _ (by simp;omega)
theorem ref02_Value.spec (l : Lin) (p : List Int) (hp : ref02_Value.pre (l,p,())) : ref02_Value.wp l p (fun r => r = ref02_Value.fn (l,p,())) := by
  obtain ⟨hv,hl,hc⟩ := hp
  simp only at hv hl hc
  obtain ⟨h1,h2,h3⟩ := linValid.b hv
  have hfn : ref02_Value.fn (l,p,()) = l.2 + dotL l.1 p := rfl
  have hfa : ∀ n ∈ l.1,Fit n = true := fun n hn => fit_iff.2 (h2 n hn)
  simp only [ref02_Value.wp,hfn]
  refine Lp.iter l.1.length (fun i y => y = ((i : Int),l.2 + dotL (l.1.take i) (p.take i))) (by simp [dotL]) ?_
  rintro i y hle rfl R hR
  by_cases e : i < l.1.length
  · have e2 : i < p.length := by omega
    have hb := dotL_b (a := l.1.take i) (b := p.take i) (fun n hn => hfa n (List.mem_of_mem_take hn)) fun n hn => hc n (List.mem_of_mem_take hn)
    have hlt : (l.1.take i).length = i := by simp;omega
    rw [hlt] at hb
    have hx := h2 _ (getD_memL (d := 0) e)
    have hy := coord_iff.1 (hc _ (getD_memL (d := 0) e2))
    have hm := mul_bound (n := 1048576) (m := 4294967296) (by omega) (by omega) hx.1 hx.2 hy.1 hy.2
    have ht := dotL_take e e2
    simp only [decide_eq_true (show (i : Int) < (l.1.length : Int) by omega),Int.toNat_natCast,cond_true]
    generalize l.1.getD i 0 * p.getD i 0 = v at *
    refine ⟨⟨by omega,by omega⟩,⟨by omega,by omega⟩,⟨by omega,by omega⟩,⟨by omega,by omega⟩,⟨by omega,by omega⟩,hR e _ ?_⟩
    rw [ht,Int.add_assoc];rfl
  · have : i = l.1.length := by omega
    subst this
    simp only [Int.lt_irrefl,decide_false,cond_false,List.take_length]
    rw [hl,List.take_length]
theorem ref03_Is.spec (c : Cond) (p : List Int) (hp : ref03_Is.pre (c,p,())) : ref03_Is.wp c p (fun r => r = ref03_Is.fn (c,p,())) := by
  obtain ⟨hv,hl,hc⟩ := hp
  simp only at hv hl hc
  have hk := condValid.kind hv
  have hfn : ref03_Is.fn (c,p,()) = trueAt c (c.2.2.2 + dotL c.2.2.1 p) := rfl
  simp only [ref03_Is.wp,ref02_Value.fn,hfn]
  refine ⟨⟨condValid.lin hv,hl,hc⟩,?_⟩
  unfold trueAt
  by_cases k0 : c.1 = 0
  · rw [if_pos k0];simp only [k0,beq_self_eq_true,cond_true]
  · by_cases k1 : c.1 = 1
    · rw [if_neg k0,if_pos k1];simp only [k1,show ((1 : Int) == 0) = false from rfl,beq_self_eq_true,cond_true,cond_false]
    · rw [if_neg k0,if_neg k1]
      simp only [beq_eq_false_iff_ne.2 k0,beq_eq_false_iff_ne.2 k1,cond_false]
      exact ⟨by omega,trivial⟩
theorem ref04_In.spec (q : List Cond) (p : List Int) (hl : q.length ≤ 9223372036854775807) (hp : ref04_In.pre (q,p,())) : ref04_In.wp q p (fun r => r = ref04_In.fn (q,p,())) := by
  have hp' : ∀ c ∈ q,atOk c p := hp
  have hfn : ref04_In.fn (q,p,()) = q.all fun c => isF c p := rfl
  simp only [ref04_In.wp,hfn,ref03_Is.fn]
  refine Lp.all q dCond (fun c => isF c p) hl ?_ ?_
  · intro i R e e2 hf h1 h2
    simp only [decide_eq_true e2,Int.toNat_natCast,cond_true]
    refine ⟨⟨by omega,by omega⟩,hp' _ (getD_memL e),?_⟩
    cases h : isF (q.getD i dCond) p with
    | true => exact ⟨hf,h1 h⟩
    | false => exact (h2 h).symm
  · intro R h
    simp only [Int.lt_irrefl,decide_false,cond_false]
    exact h.symm
theorem ref04_Is.spec (s : PSet) (p : List Int) (hl : s.2.length ≤ 9223372036854775807) (hp : ref04_Is.pre (s,p,())) : ref04_Is.wp s p (fun r => r = ref04_Is.fn (s,p,())) := by
  have hp' : ∀ q ∈ s.2,∀ c ∈ q,atOk c p := hp
  have hfn : ref04_Is.fn (s,p,()) = !s.2.all fun q => !q.all fun c => isF c p := by
    show (s.2.any fun q => q.all fun c => isF c p) = _
    rw [List.not_all_eq_any_not]
    simp
  simp only [ref04_Is.wp,hfn,ref04_In.fn]
  refine Lp.all s.2 [] (fun q => !q.all fun c => isF c p) hl ?_ ?_
  · intro i R e e2 hf h1 h2
    simp only [decide_eq_true e2,Int.toNat_natCast,cond_true]
    refine ⟨⟨by omega,by omega⟩,hp' _ (getD_memL e),?_⟩
    cases h : (s.2.getD i []).all fun c => isF c p with
    | false => exact ⟨hf,h1 (by rw [h];rfl)⟩
    | true =>
      show true = _
      rw [h2 (by rw [h];rfl)];rfl
  · intro R h
    simp only [Int.lt_irrefl,decide_false,cond_false]
    rw [h];rfl
theorem dotF_ok {c : Cond} {p : List Int} (h : atOk c p) : holdsF c p = (isF c p,0) := by
  obtain ⟨hv,hl,hc⟩ := h
  obtain ⟨h1,h2,h3⟩ := linValid.b (condValid.lin hv)
  have hd : dotF c.2.2.1 p = (dotL c.2.2.1 p,0) := by
    unfold dotF
    rw [if_neg (by omega),if_neg (by omega),if_pos]
    rw [List.all_eq_true]
    rintro ⟨x,y⟩ h
    rw [fit_iff.2 (h2 x (List.of_mem_zip h).1),hc y (List.of_mem_zip h).2];rfl
  have ha : atF c.2.2 p = (c.2.2.2 + dotL c.2.2.1 p,0) := by
    simp [atF,condValid.lin hv,hd]
  simp [holdsF,hv,ha,isF]
theorem ref04_Has.spec (s : PSet) (p : List Int) : ref04_Has.wp s p (fun r => r = ref04_Has.fn (s,p,())) := by
  have hfn : ref04_Has.fn (s,p,()) = hasF s p := rfl
  simp only [ref04_Has.wp,hfn,ref04_Valid.fn,ref02_Point.fn,ref04_Is.fn]
  cases hv : setValid s with
  | false => simp [hasF,hv]
  | true =>
    by_cases h1 : ((p.length : Nat) : Int) = s.1
    · simp only [h1,bne_self_eq_false,cond_false,Bool.not_true]
      cases h2 : p.all Coord with
      | false => simp [hasF,hv,h1,h2]
      | true =>
        simp only [Bool.not_true,cond_false]
        have hok : ∀ q ∈ s.2,∀ c ∈ q,atOk c p := fun q hq c hc => by
          obtain ⟨h3,h4⟩ := ((setValid.b hv).2.2.2 q hq).2 c hc
          exact ⟨h3,by omega,List.all_eq_true.1 h2⟩
        refine ⟨hok,?_⟩
        have : (s.2.any fun q => !q.any fun c => !(holdsF c p).1) = s.2.any fun q => q.all fun c => isF c p := by
          rw [Bool.eq_iff_iff,List.any_eq_true,List.any_eq_true]
          have : ∀ q ∈ s.2,(!q.any fun c => !(holdsF c p).1) = q.all fun c => isF c p := fun q hq => by
            rw [List.not_any_eq_all_not]
            rw [Bool.eq_iff_iff,List.all_eq_true,List.all_eq_true]
            constructor
            · intro h c hc
              have := h c hc
              rw [dotF_ok (hok q hq c hc)] at this
              simpa using this
            · intro h c hc
              rw [dotF_ok (hok q hq c hc)]
              simpa using h c hc
          constructor
          · rintro ⟨q,hq,h⟩
            exact ⟨q,hq,by rw [← this q hq];exact h⟩
          · rintro ⟨q,hq,h⟩
            exact ⟨q,hq,by rw [this q hq];exact h⟩
        simp only [hasF,hv,h1,h2,Bool.true_eq_false,if_false,ne_eq,not_true_eq_false,this]
    · simp only [bne_iff_ne.2 h1,cond_true,Bool.not_true,cond_false]
      simp [hasF,hv,h1]
abbrev coll (b : List Cond) (acc : List (List Cond)) (a : List Cond) : Option (List (List Cond)) := if (cutF a b).2 ≠ 0 then none else some (acc ++ (cutF a b).1)
theorem tidL_append (a b : List (List Cond)) : tidL (a ++ b) = (tidL a).bind fun out => b.foldlM tidStep out := by
  unfold tidL
  rw [List.foldlM_append];rfl
theorem coll_tid (b : List Cond) : ∀ (cur acc : List (List Cond)),(cur.foldlM (coll b) acc).bind tidL = (tidL acc).bind fun out => cur.foldlM (cutTid b) out
  | [],acc => by
    show tidL acc = (tidL acc).bind some
    cases tidL acc <;> rfl
  | a :: cur,acc => by
    simp only [List.foldlM_cons]
    by_cases h : (cutF a b).2 = 0
    · have e1 : coll b acc a = some (acc ++ (cutF a b).1) := if_neg fun h2 => h2 h
      have e2 : ∀ out,cutTid b out a = (cutF a b).1.foldlM tidStep out := fun out => if_neg fun h2 => h2 h
      rw [e1]
      show (cur.foldlM (coll b) (acc ++ (cutF a b).1)).bind tidL = _
      rw [coll_tid b cur,tidL_append]
      simp only [e2]
      cases tidL acc <;> rfl
    · have e1 : coll b acc a = none := if_pos h
      have e2 : ∀ out,cutTid b out a = none := fun out => if_pos h
      rw [e1]
      simp only [e2]
      cases tidL acc <;> rfl
theorem minStep_coll (cur : List (List Cond)) (b : List Cond) : minStep cur b = (cur.foldlM (coll b) []).bind tidL := (coll_tid b cur []).symm
theorem cutF_dims {a b : List Cond} {n : Nat} (ha : dims a n) (hv : validP b) (hb : dims b n) : ∀ p ∈ (cutF a b).1,dims p n := by
  unfold cutF
  split
  · simp
  · split
    · intro p hp;simp only [List.mem_singleton] at hp;subst hp;exact ha
    · have key : ∀ (l : List Nat) (out out' : List (List Cond)),(∀ i ∈ l,i < b.length) → l.foldlM (cutStep a b) out = some out' → (∀ p ∈ out,dims p n) → ∀ p ∈ out',dims p n := by
        intro l
        induction l with
        | nil => intro out out' _ h h3;cases h;exact h3
        | cons i l ih =>
          intro out out' hl h h3
          simp only [List.foldlM_cons,Option.bind_eq_bind,Option.bind_eq_some_iff] at h
          obtain ⟨s,h1,h2⟩ := h
          refine ih s out' (fun j hj => hl j (by simp [hj])) h2 ?_
          have hm := getD_memL (d := dCond) (hl i (by simp))
          have hn := negF_dims (hv.2 _ hm)
          unfold cutStep at h1
          split at h1
          · cases h1
          · cases h1
            intro p hp
            rcases List.mem_append.1 hp with hp | hp
            · exact h3 p hp
            · obtain ⟨o,ho,rfl⟩ := List.mem_map.1 hp
              intro c hc
              rcases List.mem_append.1 hc with hc | hc
              · exact ha c hc
              · rcases List.mem_append.1 hc with hc | hc
                · exact hb c (List.mem_of_mem_take hc)
                · simp only [List.mem_singleton] at hc;subst hc
                  rw [hn c ho,hb _ hm]
      rcases opt_cases ((List.range b.length).foldlM (cutStep a b) []) with h | ⟨out,h⟩
      · rw [h];simp
      · rw [h]
        exact key _ _ _ (fun i hi => List.mem_range.1 hi) h (by simp)
theorem collM {b : List Cond} (hb : validP b) {n : Nat} (hbd : dims b n) : ∀ {l acc acc' : List (List Cond)},l.foldlM (coll b) acc = some acc' → (∀ p ∈ acc,pieceB p ∧ dims p n) → (∀ p ∈ l,validP p ∧ dims p n) → acc'.length ≤ acc.length + 4194304 * l.length ∧ ∀ p ∈ acc',pieceB p ∧ dims p n
  | [],acc,acc',h,h1,_ => by cases h;exact ⟨by simp,h1⟩
  | a :: l,acc,acc',h,h1,hv => by
    simp only [List.foldlM_cons,Option.bind_eq_bind,Option.bind_eq_some_iff] at h
    obtain ⟨s,h2,h3⟩ := h
    obtain ⟨hva,hda⟩ := hv a (by simp)
    obtain ⟨hcl,hcB⟩ := cutF_B hva hb
    unfold coll at h2
    split at h2
    · cases h2
    · cases h2
      obtain ⟨h4,h5⟩ := collM hb hbd h3 (fun p hp => (List.mem_append.1 hp).elim (h1 p) fun hp => ⟨hcB p hp,cutF_dims hda hb hbd p hp⟩) fun p hp => hv p (by simp [hp])
      refine ⟨?_,h5⟩
      simp only [List.length_append,List.length_cons] at *
      omega
theorem cutF_void {a b : List Cond} (h0 : (tidyF (a ++ b)).2.2 = 0) (h1 : (tidyF (a ++ b)).2.1 = true) : cutF a b = ([a],0) := by simp [cutF,h0,h1]
theorem coll_of {a b : List Cond} {acc r : List (List Cond)} (h : cutF a b = (r,0)) : coll b acc a = some (acc ++ r) := by simp [coll,h]
theorem ref04_Minus.spec (x y : PSet) : ref04_Minus.wp x y (fun r => r = ref04_Minus.fn (x,y,())) := by
  have hfn : ref04_Minus.fn (x,y,()) = minusF x y := rfl
  simp only [ref04_Minus.wp,ref04_Both.fn,hfn,ref04_Normal.fn,ref04_Piece.fn,ref04_And.fn,ref03_Negate.fn,ref04_Made.fn]
  by_cases he : bothErr x y = 0
  · obtain ⟨hvx,hvy,hxy⟩ := bothErr_zero he
    have hM : minusF x y = if (normF x).2 ≠ 0 ∨ (normF y).2 ≠ 0 then ((0,[]),3) else ofTid x.1 ((normF y).1.2.foldlM minStep (normF x).1.2) := by
      unfold minusF;exact if_neg (fun h => h he)
    simp only [he,bne_self_eq_false,cond_false]
    refine ⟨fun h => ⟨h,trivial⟩,fun h => by rw [h];rfl,?_⟩
    by_cases hx : (normF x).2 = 0
    · by_cases hy : (normF y).2 = 0
      · simp only [hx,hy,bne_self_eq_false,Bool.or_false,cond_false,ne_eq,not_true_eq_false,or_self,if_false] at hM ⊢
        obtain ⟨pX,eX⟩ := normF_PP hx
        obtain ⟨pY,eY⟩ := normF_PP hy
        have dX := normF_dims hvx hx
        have dY := normF_dims hvy hy
        rw [← hxy] at dY
        generalize (normF x).1.2 = X at *
        generalize (normF y).1.2 = Y at *
        generalize x.1.toNat = n at *
        have hYl := pY.1
        refine Lp.iter Y.length (fun i z => ∃ cur,z = ((i : Int),cur) ∧ (Y.take i).foldlM minStep X = some cur ∧ ∀ p ∈ cur,dims p n) ⟨X,rfl,rfl,dX⟩ ?_
        rintro i z hle ⟨cur,rfl,ht,hdc⟩ R hR
        have pC := minM_PP ht pX fun p hp => pY.v (List.mem_of_mem_take hp)
        by_cases e : i < Y.length
        · simp only [decide_eq_true (show (i : Int) < (Y.length : Int) by omega),Int.toNat_natCast,cond_true]
          refine ⟨⟨by omega,by omega⟩,?_⟩
          have hvb := pY.v (getD_memL (d := []) e)
          have hdb := dY _ (getD_memL (d := []) e)
          have hsn := foldlM_snoc (d := []) ht e
          have hnone := foldlM_none (d := []) ht e
          have hT : minStep cur (Y.getD i []) = none → minusF x y = ((0,[]),3) := fun h => by rw [hM,hnone h];rfl
          rw [minStep_coll] at hsn hT
          have hCl := pC.1
          have hbl := (pY.2 _ (getD_memL (d := []) e)).1
          refine Lp.iter cur.length (fun j z => ∃ acc,z = ((j : Int),acc) ∧ (cur.take j).foldlM (coll (Y.getD i [])) [] = some acc) ⟨[],rfl,rfl⟩ ?_
          rintro j z hjle ⟨acc,rfl,ht2⟩ R2 hR2
          obtain ⟨hal,hab⟩ := collM hvb hdb ht2 (by simp) fun p hp => ⟨pC.v (List.mem_of_mem_take hp),hdc p (List.mem_of_mem_take hp)⟩
          simp only [List.length_nil,List.length_take] at hal
          by_cases e2 : j < cur.length
          · simp only [decide_eq_true (show (j : Int) < (cur.length : Int) by omega),Int.toNat_natCast,cond_true]
            have hva := pC.v (getD_memL (d := []) e2)
            have hda := hdc _ (getD_memL (d := []) e2)
            have hal2 := (pC.2 _ (getD_memL (d := []) e2)).1
            have hsn2 := foldlM_snoc (d := []) ht2 e2
            have hnone2 : coll (Y.getD i []) acc (cur.getD j []) = none → minusF x y = ((0,[]),3) := fun h => hT (by rw [foldlM_none (d := []) ht2 e2 h];rfl)
            have hR2' : ∀ acc',coll (Y.getD i []) acc (cur.getD j []) = some acc' → R2 ((j : Int) + 1,acc') := fun acc' h => hR2 e2 _ ⟨acc',rfl,hsn2.trans h⟩
            refine ⟨⟨by omega,by omega⟩,⟨by show (cur.getD j []).length ≤ _;omega,by show (Y.getD i []).length ≤ _;omega⟩,append_D (pC.2 _ (getD_memL (d := []) e2)) (pY.2 _ (getD_memL (d := []) e)) hda hdb,?_⟩
            clear hsn2 hR2 hsn hT hR
            by_cases h0 : (tidyF ((cur.getD j []) ++ (Y.getD i []))).2.2 = 0
            · simp only [h0,bne_self_eq_false,cond_false]
              by_cases h1 : (tidyF ((cur.getD j []) ++ (Y.getD i []))).2.1 = true
              · simp only [h1,cond_true]
                have hcf : cutF (cur.getD j []) (Y.getD i []) = ([(cur.getD j [])],0) := cutF_void h0 h1
                refine ⟨⟨by simp;omega,by simp;omega⟩,⟨by omega,by omega⟩,hR2' _ (coll_of hcf)⟩
              · rw [Bool.not_eq_true] at h1
                simp only [h1,cond_false]
                have hcf : cutF (cur.getD j []) (Y.getD i []) = match (List.range (Y.getD i []).length).foldlM (cutStep (cur.getD j []) (Y.getD i [])) [] with
                  | none => ([],3)
                  | some out => (out,0) := by
                  unfold cutF
                  exact (if_neg (fun h => h h0)).trans (if_neg (by rw [h1];simp))
                have hrl : (List.range (Y.getD i []).length).length = (Y.getD i []).length := by simp
                refine Lp.iter (Y.getD i []).length (fun k z => ∃ out,z = ((k : Int),acc ++ out) ∧ ((List.range (Y.getD i []).length).take k).foldlM (cutStep (cur.getD j []) (Y.getD i [])) [] = some out) ⟨[],by simp,rfl⟩ ?_
                rintro k z hkle ⟨out,rfl,ht3⟩ R3 hR3
                have hol := cutM_len hvb (fun m hm => by have := List.mem_of_mem_take hm;simpa using this) ht3
                simp only [List.length_nil,List.length_take,hrl] at hol
                by_cases e3 : k < (Y.getD i []).length
                · have hsn3 := foldlM_snoc (d := 0) ht3 (by rw [hrl];exact e3)
                  have hnone3 := foldlM_none (d := 0) ht3 (by rw [hrl];exact e3)
                  rw [range_getD e3] at hsn3 hnone3
                  simp only [decide_eq_true (show (k : Int) < ((Y.getD i []).length : Int) by omega),Int.toNat_natCast,cond_true]
                  have hng := negF_ok (hvb.2 _ (getD_memL (d := dCond) e3))
                  refine ⟨⟨by omega,by omega⟩,?_⟩
                  by_cases hn : (negF ((Y.getD i []).getD k dCond)).2 = 0
                  · simp only [hn,bne_self_eq_false,cond_false]
                    have hcs : cutStep (cur.getD j []) (Y.getD i []) out k = some (out ++ (negF ((Y.getD i []).getD k dCond)).1.map fun o => (cur.getD j []) ++ ((Y.getD i []).take k ++ [o])) := if_neg fun h => h hn
                    have h4 := hng.2.1
                    refine Lp.iter (negF ((Y.getD i []).getD k dCond)).1.length (fun m y => y = ((m : Int),(acc ++ out) ++ ((negF ((Y.getD i []).getD k dCond)).1.take m).map fun o => (cur.getD j []) ++ ((Y.getD i []).take k ++ [o]))) (by simp) ?_
                    rintro m y hml rfl R' hR'
                    by_cases e4 : m < (negF ((Y.getD i []).getD k dCond)).1.length
                    · simp only [decide_eq_true (show (m : Int) < ((negF ((Y.getD i []).getD k dCond)).1.length : Int) by omega),Int.toNat_natCast,cond_true]
                      refine ⟨⟨by omega,by omega⟩,⟨by omega,by omega⟩,⟨by show (cur.getD j []).length ≤ _;omega,by show ((Y.getD i []).take k).length ≤ _;simp only [List.length_append,List.length_take];omega⟩,⟨by show ((cur.getD j []) ++ (Y.getD i []).take k).length ≤ _;simp only [List.length_append,List.length_take];omega,by simp⟩,⟨?_,?_⟩,⟨by omega,by omega⟩,hR' e4 _ ?_⟩
                      · simp only [List.length_append,List.length_map,List.length_take,List.length_cons,List.length_nil];omega
                      · simp only [List.length_append,List.length_map,List.length_take,List.length_cons,List.length_nil];omega
                      · rw [take_succ_getD dCond e4,List.map_append,List.append_assoc (cur.getD j [])]
                        exact congrArg (Prod.mk ((m : Int) + 1)) (List.append_assoc _ _ _)
                    · have : m = (negF ((Y.getD i []).getD k dCond)).1.length := by omega
                      subst this
                      simp only [Int.lt_irrefl,decide_false,cond_false,List.take_length]
                      refine ⟨⟨by omega,by omega⟩,hR3 e3 _ ⟨_,?_,hsn3.trans hcs⟩⟩
                      rw [List.append_assoc];rfl
                  · simp only [bne_iff_ne.2 hn,cond_true]
                    have : coll (Y.getD i []) acc (cur.getD j []) = none := by
                      refine if_pos ?_
                      rw [hcf,hnone3 (if_pos hn)]
                      decide
                    rw [hnone2 this,(hng.1.resolve_left hn)]
                · have : k = (Y.getD i []).length := by omega
                  subst this
                  simp only [Int.lt_irrefl,decide_false,cond_false]
                  rw [List.take_of_length_le (by rw [hrl];exact Nat.le_refl _)] at ht3
                  rw [ht3] at hcf
                  exact ⟨⟨by omega,by omega⟩,hR2' _ (coll_of hcf)⟩
            · simp only [bne_iff_ne.2 h0,cond_true]
              have hcf : cutF (cur.getD j []) (Y.getD i []) = ([],3) := if_pos h0
              rw [hnone2 (if_pos (by rw [hcf];decide)),((tidyF_err _).resolve_left h0).1]
          · have : j = cur.length := by omega
            subst this
            simp only [Int.lt_irrefl,decide_false,cond_false]
            rw [List.take_length] at ht2
            rw [ht2,Option.bind_some] at hsn hT
            refine ⟨⟨by simp only;omega,fun p hp => ⟨(hab p hp).1,n,(hab p hp).2⟩⟩,?_⟩
            rcases opt_cases (tidL acc) with h5 | ⟨out,h5⟩
            · rw [h5]
              rw [hT h5];rfl
            · rw [h5]
              refine ⟨⟨by omega,by omega⟩,hR e _ ⟨out,rfl,hsn.trans h5,tidM_dims h5 (by simp) hab⟩⟩
        · have : i = Y.length := by omega
          subst this
          simp only [Int.lt_irrefl,decide_false,cond_false]
          rw [List.take_length] at ht
          rw [hM,ht];rfl
      · simp only [bne_iff_ne.2 hy,Bool.or_true,cond_true]
        rw [hM,if_pos (.inr hy)]
    · simp only [bne_iff_ne.2 hx,Bool.true_or,cond_true]
      rw [hM,if_pos (.inl hx)]
  · rw [bne_iff_ne.2 he]
    simp [minusF,he]
theorem negC_negC (C : List Int) : negC (negC C) = C := by
  unfold negC
  rw [List.map_map]
  conv => rhs;rw [← List.map_id C]
  exact List.map_congr_left fun n _ => by simp
theorem gcdL_negC (C : List Int) : gcdL (negC C) = gcdL C := by
  unfold gcdL negC
  rw [List.foldl_map]
  simp
theorem firstNeg_neg : ∀ {C : List Int},gcdL C ≠ 0 → firstNeg (negC C) = !firstNeg C
  | [],h => by simp [gcdL] at h
  | n :: C,h => by
    simp only [negC,List.map_cons,firstNeg]
    by_cases h0 : n = 0
    · subst h0
      rw [gcdL_cons] at h
      simp at h
      simp only [Int.neg_zero,if_true]
      exact firstNeg_neg h
    · rw [if_neg h0,if_neg (show -n ≠ 0 by omega)]
      by_cases h1 : n < 0
      · rw [decide_eq_true h1,decide_eq_false (show ¬ -n < 0 by omega)];rfl
      · rw [decide_eq_false h1,decide_eq_true (show -n < 0 by omega)];rfl
theorem negC_ne {C : List Int} (h : gcdL C = 1) : negC C ≠ C := fun e => by
  have := firstNeg_neg (C := C) (by omega)
  rw [e] at this
  cases h2 : firstNeg C <;> rw [h2] at this <;> cases this
abbrev toEq (c : Cond) : Cond := (rawF (1,0,c.2.2)).1
theorem toEq_neg {c d : Cond} (h : gcdL c.2.2.1 = 1) (h1 : d.2.2.1 = negC c.2.2.1) (h2 : c.2.2.2 + d.2.2.2 = 0) : toEq d = toEq c := by
  obtain ⟨k,m,C,K⟩ := c
  obtain ⟨k',m',C',K'⟩ := d
  simp only at h h1 h2
  subst h1
  have h3 : K' = -K := by omega
  subst h3
  have hf := firstNeg_neg (C := C) (by omega)
  have hs : eqSign (1,0,negC C,-K) = -eqSign (1,0,C,K) := by
    simp only [eqSign,gcdL_negC,hf]
    cases firstNeg C <;> simp
  have ha : ∀ s K : Int,∀ C : List Int,gcdL C = 1 → eqF (1,0,C,K) = ((1,0,C.map (·.tdiv (eqSign (1,0,C,K))),K.tdiv (eqSign (1,0,C,K))),0) := fun s K C hC => by
    have : ¬ (gcdL C = 0 ∨ K.tmod (gcdL C) ≠ 0) := by
      rw [hC]
      rintro (h | h)
      · omega
      · exact h (tmod_one _)
    unfold eqF
    exact if_neg this
  show (eqF (1,0,negC C,-K)).1 = (eqF (1,0,C,K)).1
  rw [ha 0 _ _ h,ha 0 _ _ (by rw [gcdL_negC];exact h),hs]
  simp only [negC,List.map_map,Int.tdiv_neg,Int.neg_tdiv,Int.neg_neg]
  congr 4
  funext n
  simp
def Mk (n : Nat) (c : Cond) : Prop := normC n c ∧ kind3 c.1 ∧ (c.1 = 0 → c.2.1 = 0)
theorem Mk.gcd {n : Nat} {c : Cond} (h : Mk n c) (h0 : c.1 = 0) : gcdL c.2.2.1 = 1 := h.1.2.1 (by omega)
theorem toEq_mk {n : Nat} {c : Cond} (h : Mk n c) (h0 : c.1 = 0) : Mk n (toEq c) ∧ (toEq c).1 = 1 := by
  obtain ⟨h1,h2,h3⟩ := eq_of_ge h.1 h0
  exact ⟨⟨h2,.inr (.inl h3),fun h => by rw [h3] at h;cases h⟩,h3⟩
def Lm (l : List Cond) (c : Cond) : Prop := c ∈ l ∧ (c.1 = 0 → ∀ d ∈ l,d.1 = 0 → d.2.2.1 = c.2.2.1 → c.2.2.2 ≤ d.2.2.2)
theorem Lm.uniq {n : Nat} {l : List Cond} (hl : ∀ c ∈ l,Mk n c) {c d : Cond} (hc : Lm l c) (hd : Lm l d) (h0 : c.1 = 0) (h1 : d.1 = 0) (h : c.2.2.1 = d.2.2.1) : c = d := by
  have a := hc.2 h0 d hd.1 h1 h.symm
  have b := hd.2 h1 c hc.1 h0 h
  have e1 := (hl c hc.1).2.2 h0
  have e2 := (hl d hd.1).2.2 h1
  exact Prod.ext (by omega) (Prod.ext (by omega) (Prod.ext h (by omega)))
def Opp (L : Cond → Prop) (c : Cond) : Prop := ∃ d,L d ∧ d.1 = 0 ∧ d.2.2.1 = negC c.2.2.1 ∧ c.2.2.2 + d.2.2.2 = 0
def Void1 (L : Cond → Prop) : Prop := ∃ c d,L c ∧ L d ∧ c.1 = 0 ∧ d.1 = 0 ∧ d.2.2.1 = negC c.2.2.1 ∧ c.2.2.2 + d.2.2.2 < 0
def MM (L : Cond → Prop) (x : Cond) : Prop := (L x ∧ (x.1 = 0 → ¬ Opp L x)) ∨ ∃ c,L c ∧ c.1 = 0 ∧ Opp L c ∧ x = toEq c
def Void2 (M : Cond → Prop) : Prop := (∃ e f,M e ∧ M f ∧ e.1 = 1 ∧ f.1 = 1 ∧ e.2.2.1 = f.2.2.1 ∧ e.2.2.2 ≠ f.2.2.2) ∨ ∃ c e,M c ∧ M e ∧ c.1 = 0 ∧ e.1 = 1 ∧ ((e.2.2.1 = c.2.2.1 ∧ c.2.2.2 < e.2.2.2) ∨ (e.2.2.1 = negC c.2.2.1 ∧ c.2.2.2 + e.2.2.2 < 0))
def Fin2 (M : Cond → Prop) (x : Cond) : Prop := M x ∧ (x.1 = 0 → ∀ e,M e → e.1 = 1 → e.2.2.1 ≠ x.2.2.1 ∧ e.2.2.1 ≠ negC x.2.2.1)
theorem Lm_snoc_other {l : List Cond} {c : Cond} (h : c.1 ≠ 0) (x : Cond) : Lm (l ++ [c]) x ↔ Lm l x ∨ x = c := by
  simp only [Lm,List.mem_append,List.mem_singleton]
  constructor
  · rintro ⟨h1 | h1,h2⟩
    · exact .inl ⟨h1,fun h0 d hd => h2 h0 d (.inl hd)⟩
    · exact .inr h1
  · rintro (⟨h1,h2⟩ | rfl)
    · refine ⟨.inl h1,fun h0 d hd hd0 => ?_⟩
      rcases hd with hd | rfl
      · exact h2 h0 d hd hd0
      · exact absurd hd0 h
    · exact ⟨.inr rfl,fun h0 => absurd h0 h⟩
theorem Lm_snoc_ge {n : Nat} {l : List Cond} {c : Cond} (hl : ∀ d ∈ l,Mk n d) (hc : Mk n c) (h : c.1 = 0) (x : Cond) : Lm (l ++ [c]) x ↔ (Lm l x ∧ ¬ (x.1 = 0 ∧ x.2.2.1 = c.2.2.1)) ∨ (x.1 = 0 ∧ x.2.2.1 = c.2.2.1 ∧ ((∃ d,Lm l d ∧ d.1 = 0 ∧ d.2.2.1 = c.2.2.1 ∧ x = minK d c.2.2.2) ∨ (¬ (∃ d,Lm l d ∧ d.1 = 0 ∧ d.2.2.1 = c.2.2.1) ∧ x = c))) := by
  have hmem : ∀ y,y ∈ l ++ [c] ↔ y ∈ l ∨ y = c := fun y => by simp
  have hmin : ∀ (y : Cond),y ∈ l → y.1 = 0 → ∃ d,Lm l d ∧ d.1 = 0 ∧ d.2.2.1 = y.2.2.1 ∧ d.2.2.2 ≤ y.2.2.2 := by
    have key : ∀ (m : List Cond),(∀ y ∈ m,y ∈ l) → ∀ y ∈ m,y.1 = 0 → ∃ d ∈ m,d.1 = 0 ∧ d.2.2.1 = y.2.2.1 ∧ d.2.2.2 ≤ y.2.2.2 ∧ ∀ z ∈ m,z.1 = 0 → z.2.2.1 = y.2.2.1 → d.2.2.2 ≤ z.2.2.2 := by
      intro m
      induction m with
      | nil => intro _ y hy;cases hy
      | cons a m ih =>
        intro hs y hy h0
        have ih' := ih fun z hz => hs z (by simp [hz])
        rcases List.mem_cons.1 hy with rfl | hy
        · by_cases hex : ∃ z ∈ m,z.1 = 0 ∧ z.2.2.1 = y.2.2.1
          · obtain ⟨z,hz,hz0,hz1⟩ := hex
            obtain ⟨d,hd,hd0,hd1,hd2,hd3⟩ := ih' z hz hz0
            by_cases hlt : d.2.2.2 ≤ y.2.2.2
            · refine ⟨d,by simp [hd],hd0,hd1.trans hz1,hlt,fun w hw hw0 hw1 => ?_⟩
              rcases List.mem_cons.1 hw with rfl | hw
              · exact hlt
              · exact hd3 w hw hw0 (hw1.trans hz1.symm)
            · refine ⟨y,by simp,h0,rfl,Int.le_refl _,fun w hw hw0 hw1 => ?_⟩
              rcases List.mem_cons.1 hw with rfl | hw
              · exact Int.le_refl _
              · have := hd3 w hw hw0 (hw1.trans hz1.symm);omega
          · refine ⟨y,by simp,h0,rfl,Int.le_refl _,fun w hw hw0 hw1 => ?_⟩
            rcases List.mem_cons.1 hw with rfl | hw
            · exact Int.le_refl _
            · exact absurd ⟨w,hw,hw0,hw1⟩ hex
        · obtain ⟨d,hd,hd0,hd1,hd2,hd3⟩ := ih' y hy h0
          by_cases ha : a.1 = 0 ∧ a.2.2.1 = y.2.2.1 ∧ a.2.2.2 < d.2.2.2
          · refine ⟨a,by simp,ha.1,ha.2.1,by omega,fun w hw hw0 hw1 => ?_⟩
            rcases List.mem_cons.1 hw with rfl | hw
            · exact Int.le_refl _
            · have := hd3 w hw hw0 hw1;omega
          · refine ⟨d,by simp [hd],hd0,hd1,hd2,fun w hw hw0 hw1 => ?_⟩
            rcases List.mem_cons.1 hw with rfl | hw
            · apply Int.le_of_not_gt
              intro hgt
              exact ha ⟨hw0,hw1,hgt⟩
            · exact hd3 w hw hw0 hw1
    intro y hy h0
    obtain ⟨d,hd,hd0,hd1,hd2,hd3⟩ := key l (fun y h => h) y hy h0
    exact ⟨d,⟨hd,fun _ z hz hz0 hz1 => hd3 z hz hz0 (hz1.trans hd1)⟩,hd0,hd1,hd2⟩
  have heq : ∀ (y z : Cond),Mk n y → Mk n z → y.1 = 0 → z.1 = 0 → y.2.2.1 = z.2.2.1 → y.2.2.2 = z.2.2.2 → y = z := fun y z hy hz h1 h2 h3 h4 => by
    have e1 := hy.2.2 h1
    have e2 := hz.2.2 h2
    exact Prod.ext (by omega) (Prod.ext (by omega) (Prod.ext h3 h4))
  constructor
  · rintro ⟨hx,hx2⟩
    by_cases hxc : x.1 = 0 ∧ x.2.2.1 = c.2.2.1
    · right
      refine ⟨hxc.1,hxc.2,?_⟩
      have hmin' := hx2 hxc.1
      have hcx := hmin' c ((hmem c).2 (.inr rfl)) h hxc.2.symm
      by_cases hex : ∃ d,Lm l d ∧ d.1 = 0 ∧ d.2.2.1 = c.2.2.1
      · left
        obtain ⟨d,hd,hd0,hd1⟩ := hex
        have hdx := hmin' d ((hmem d).2 (.inl hd.1)) hd0 (hd1.trans hxc.2.symm)
        have hmd := hl d hd.1
        refine ⟨d,hd,hd0,hd1,?_⟩
        rcases (hmem x).1 hx with hxl | rfl
        · have h3 := hd.2 hd0 x hxl hxc.1 (hxc.2.trans hd1.symm)
          refine heq x (minK d c.2.2.2) (hl x hxl) hmd hxc.1 hd0 (hxc.2.trans hd1.symm) ?_
          show x.2.2.2 = min d.2.2.2 c.2.2.2
          omega
        · refine heq x (minK d x.2.2.2) hc hmd hxc.1 hd0 hd1.symm ?_
          show x.2.2.2 = min d.2.2.2 x.2.2.2
          omega
      · right
        refine ⟨hex,?_⟩
        rcases (hmem x).1 hx with hxl | rfl
        · obtain ⟨d,hd,hd0,hd1,_⟩ := hmin x hxl hxc.1
          exact absurd ⟨d,hd,hd0,hd1.trans hxc.2⟩ hex
        · rfl
    · left
      refine ⟨?_,hxc⟩
      rcases (hmem x).1 hx with hxl | rfl
      · exact ⟨hxl,fun h0 d hd => hx2 h0 d ((hmem d).2 (.inl hd))⟩
      · exact absurd ⟨h,rfl⟩ hxc
  · rintro (⟨hx,hxc⟩ | ⟨h0,hxc,⟨d,hd,hd0,hd1,rfl⟩ | ⟨hex,rfl⟩⟩)
    · refine ⟨(hmem x).2 (.inl hx.1),fun h0 d hd hd0 hd1 => ?_⟩
      rcases (hmem d).1 hd with hd | rfl
      · exact hx.2 h0 d hd hd0 hd1
      · exact absurd ⟨h0,hd1.symm⟩ hxc
    · have hmd := hl d hd.1
      refine ⟨?_,fun _ z hz hz0 hz1 => ?_⟩
      · by_cases hlt : d.2.2.2 ≤ c.2.2.2
        · have : minK d c.2.2.2 = d := heq _ _ hmd hmd hd0 hd0 rfl (by show min d.2.2.2 c.2.2.2 = _;omega)
          rw [this];exact (hmem d).2 (.inl hd.1)
        · have : minK d c.2.2.2 = c := heq _ _ hmd hc hd0 h hd1 (by show min d.2.2.2 c.2.2.2 = _;omega)
          rw [this];exact (hmem c).2 (.inr rfl)
      · show min d.2.2.2 c.2.2.2 ≤ _
        rcases (hmem z).1 hz with hz | rfl
        · have := hd.2 hd0 z hz hz0 hz1;omega
        · omega
    · refine ⟨(hmem x).2 (.inr rfl),fun _ z hz hz0 hz1 => ?_⟩
      rcases (hmem z).1 hz with hz | rfl
      · obtain ⟨d,hd,hd0,hd1,_⟩ := hmin z hz hz0
        exact absurd ⟨d,hd,hd0,hd1.trans hz1⟩ hex
      · exact Int.le_refl _
theorem idxGe_none {C : List Int} {out : List Cond} (h : idxGe C out = none) : ∀ d ∈ out,¬ (d.1 = 0 ∧ d.2.2.1 = C) := by
  intro d hd
  have := List.findIdx?_eq_none_iff.1 h d hd
  simpa using this
def Once (out : List Cond) : Prop := ∀ i j,i < out.length → j < out.length → (out.getD i dCond).1 = 0 → (out.getD j dCond).1 = 0 → (out.getD i dCond).2.2.1 = (out.getD j dCond).2.2.1 → i = j
theorem leastF_mem {n : Nat} : ∀ {l : List Cond},(∀ c ∈ l,Mk n c) → ∀ x,x ∈ leastF l ↔ Lm l x := by
  intro l hl
  have key : ∀ k,k ≤ l.length → (∀ x,x ∈ leastF (l.take k) ↔ Lm (l.take k) x) ∧ Once (leastF (l.take k)) := by
    intro k
    induction k with
    | zero => exact fun _ => ⟨fun x => by simp [leastF,Lm],fun i j hi => by simp [leastF] at hi⟩
    | succ k ih =>
      intro hk
      obtain ⟨ih1,ih2⟩ := ih (by omega)
      have e : k < l.length := by omega
      have hst : leastF (l.take (k + 1)) = leastStep (leastF (l.take k)) (l.getD k dCond) := by
        rw [take_succ_getD dCond e,leastF,List.foldl_append];rfl
      rw [hst,take_succ_getD dCond e]
      have hc := hl _ (getD_memL (d := dCond) e)
      have hlk : ∀ d ∈ l.take k,Mk n d := fun d hd => hl d (List.mem_of_mem_take hd)
      generalize l.getD k dCond = c at *
      generalize l.take k = m at *
      generalize leastF m = out at *
      by_cases h0 : c.1 = 0
      · have hls : leastStep out c = match idxGe c.2.2.1 out with
          | some i => out.set i (minK (out.getD i dCond) c.2.2.2)
          | none => out ++ [c] := by
          unfold leastStep;exact if_neg fun h => h h0
        rw [hls]
        rcases opt_cases (idxGe c.2.2.1 out) with hg | ⟨i,hg⟩
        · rw [hg]
          have hno := idxGe_none hg
          constructor
          · intro x
            rw [Lm_snoc_ge hlk hc h0]
            simp only [List.mem_append,List.mem_singleton]
            constructor
            · rintro (hx | rfl)
              · exact .inl ⟨(ih1 x).1 hx,hno x hx⟩
              · exact .inr ⟨h0,rfl,.inr ⟨fun ⟨d,hd,hd0,hd1⟩ => hno d ((ih1 d).2 hd) ⟨hd0,hd1⟩,rfl⟩⟩
            · rintro (⟨hx,_⟩ | ⟨_,_,⟨d,hd,hd0,hd1,_⟩ | ⟨_,rfl⟩⟩)
              · exact .inl ((ih1 x).2 hx)
              · exact absurd ⟨hd0,hd1⟩ (hno d ((ih1 d).2 hd))
              · exact .inr rfl
          · intro i j hi hj hi0 hj0 hij
            simp only [List.length_append,List.length_cons,List.length_nil] at hi hj
            have hget : ∀ i,i < out.length → (out ++ [c]).getD i dCond = out.getD i dCond := fun i hi => by
              rw [getD_eq (by simp;omega),getD_eq hi,List.getElem_append_left hi]
            have hlast : (out ++ [c]).getD out.length dCond = c := by
              rw [getD_eq (by simp)];simp
            by_cases h1 : i < out.length <;> by_cases h2 : j < out.length
            · rw [hget i h1] at hi0 hij
              rw [hget j h2] at hj0 hij
              exact ih2 i j h1 h2 hi0 hj0 hij
            · have : j = out.length := by omega
              subst this
              rw [hget i h1] at hi0 hij
              rw [hlast] at hij
              exact absurd ⟨hi0,hij⟩ (hno _ (getD_memL h1))
            · have : i = out.length := by omega
              subst this
              rw [hget j h2] at hj0 hij
              rw [hlast] at hij
              exact absurd ⟨hj0,hij.symm⟩ (hno _ (getD_memL h2))
            · omega
        · rw [hg]
          simp only
          obtain ⟨hi,hi0,hi1⟩ := idxGe_some hg
          have hgi := getD_eq (d := dCond) hi
          rw [← hgi] at hi0 hi1
          have hdm := getD_memL (d := dCond) hi
          constructor
          · intro x
            rw [Lm_snoc_ge hlk hc h0]
            constructor
            · intro hx
              obtain ⟨j,hj,rfl⟩ := mem_getD (d := dCond) hx
              rw [List.length_set] at hj
              by_cases hij : i = j
              · subst hij
                have e1 : (out.set i (minK (out.getD i dCond) c.2.2.2)).getD i dCond = minK (out.getD i dCond) c.2.2.2 := by
                  rw [getD_eq (by simpa using hj),List.getElem_set_self]
                rw [e1]
                exact .inr ⟨hi0,hi1,.inl ⟨_,(ih1 _).1 hdm,hi0,hi1,rfl⟩⟩
              · have e1 : (out.set i (minK (out.getD i dCond) c.2.2.2)).getD j dCond = out.getD j dCond := by
                  rw [getD_eq (by simpa using hj),List.getElem_set_ne hij,getD_eq hj]
                rw [e1]
                refine .inl ⟨(ih1 _).1 (getD_memL hj),fun h => hij (ih2 i j hi hj hi0 h.1 (hi1.trans h.2.symm))⟩
            · rintro (⟨hx,hxc⟩ | ⟨hx0,hxc,⟨d,hd,hd0,hd1,rfl⟩ | ⟨hex,rfl⟩⟩)
              · obtain ⟨j,hj,rfl⟩ := mem_getD (d := dCond) ((ih1 x).2 hx)
                have hij : i ≠ j := fun e => by subst e;exact hxc ⟨hi0,hi1⟩
                have e1 : (out.set i (minK (out.getD i dCond) c.2.2.2)).getD j dCond = out.getD j dCond := by
                  rw [getD_eq (by simpa using hj),List.getElem_set_ne hij,getD_eq hj]
                rw [← e1]
                exact getD_memL (by simpa using hj)
              · have hdd : d = out.getD i dCond := Lm.uniq hlk hd ((ih1 _).1 hdm) hd0 hi0 (hd1.trans hi1.symm)
                rw [hdd]
                exact List.mem_iff_getElem.2 ⟨i,by simpa using hi,by rw [List.getElem_set_self]⟩
              · exact absurd ⟨_,(ih1 _).1 hdm,hi0,hi1⟩ hex
          · intro a b ha hb ha0 hb0 hab
            rw [List.length_set] at ha hb
            have hget : ∀ j,j < out.length → ((out.set i (minK (out.getD i dCond) c.2.2.2)).getD j dCond).1 = (out.getD j dCond).1 ∧ ((out.set i (minK (out.getD i dCond) c.2.2.2)).getD j dCond).2.2.1 = (out.getD j dCond).2.2.1 := fun j hj => by
              by_cases hij : i = j
              · subst hij
                rw [getD_eq (show i < (out.set i (minK (out.getD i dCond) c.2.2.2)).length by simpa using hj),List.getElem_set_self]
                exact ⟨rfl,rfl⟩
              · rw [getD_eq (show j < (out.set i (minK (out.getD i dCond) c.2.2.2)).length by simpa using hj),List.getElem_set_ne hij,getD_eq hj]
                exact ⟨rfl,rfl⟩
            rw [(hget a ha).1] at ha0
            rw [(hget b hb).1] at hb0
            rw [(hget a ha).2,(hget b hb).2] at hab
            exact ih2 a b ha hb ha0 hb0 hab
      · have hls : leastStep out c = out ++ [c] := by unfold leastStep;exact if_pos h0
        rw [hls]
        constructor
        · intro x
          rw [Lm_snoc_other h0,List.mem_append,List.mem_singleton,ih1]
        · intro i j hi hj hi0 hj0 hij
          simp only [List.length_append,List.length_cons,List.length_nil] at hi hj
          have hget : ∀ i,i < out.length → (out ++ [c]).getD i dCond = out.getD i dCond := fun i hi => by
            rw [getD_eq (by simp;omega),getD_eq hi,List.getElem_append_left hi]
          have hlast : (out ++ [c]).getD out.length dCond = c := by
            rw [getD_eq (by simp)];simp
          by_cases h1 : i < out.length <;> by_cases h2 : j < out.length
          · rw [hget i h1] at hi0 hij
            rw [hget j h2] at hj0 hij
            exact ih2 i j h1 h2 hi0 hj0 hij
          · have : j = out.length := by omega
            subst this
            rw [hlast] at hj0
            exact absurd hj0 h0
          · have : i = out.length := by omega
            subst this
            rw [hlast] at hi0
            exact absurd hi0 h0
          · omega
  have := (key l.length (Nat.le_refl _)).1
  rwa [List.take_length] at this
theorem foldlM_inv {α τ : Type} {V : Prop} {P : Nat → τ → Prop} (l : List α) (d : α) (f : τ → α → Option τ) (a : τ) (h0 : P 0 a) (hs : ∀ i t,i < l.length → P i t → (f t (l.getD i d) = none → V) ∧ ∀ t',f t (l.getD i d) = some t' → P (i + 1) t') : (l.foldlM f a = none → V) ∧ ∀ t,l.foldlM f a = some t → P l.length t := by
  have key : ∀ k,k ≤ l.length → ((l.take k).foldlM f a = none → V) ∧ ∀ t,(l.take k).foldlM f a = some t → P k t := by
    intro k
    induction k with
    | zero => intro _;exact ⟨fun h => (by have h' : some a = none := h;cases h'),fun t h => by (have h' : some a = some t := h);cases h';exact h0⟩
    | succ k ih =>
      intro hk
      obtain ⟨ih1,ih2⟩ := ih (by omega)
      rcases opt_cases ((l.take k).foldlM f a) with h | ⟨t,h⟩
      · have : (l.take (k + 1)).foldlM f a = none := by
          rw [take_succ_getD d (show k < l.length by omega),List.foldlM_append,h];rfl
        rw [this]
        exact ⟨fun _ => ih1 h,fun t h => by cases h⟩
      · have hs' := hs k t (by omega) (ih2 t h)
        rw [foldlM_snoc (d := d) h (by omega)]
        exact hs'
  have := key l.length (Nat.le_refl _)
  rwa [List.take_length] at this
theorem lastGe_none {C : List Int} : ∀ {l : List Cond} {k : Nat},lastGe C l k = none → ∀ d ∈ l,¬ (d.1 = 0 ∧ d.2.2.1 = C)
  | [],k,_ => by simp
  | e :: l,k,h => by
    simp only [lastGe] at h
    rcases opt_cases (lastGe C l (k + 1)) with h1 | ⟨j,h1⟩
    · rw [h1] at h
      simp only at h
      split at h
      · cases h
      · rename_i h2
        intro d hd
        rcases List.mem_cons.1 hd with rfl | hd
        · exact h2
        · exact lastGe_none h1 d hd
    · rw [h1] at h;cases h
def Uniq (L : List Cond) : Prop := ∀ c ∈ L,∀ d ∈ L,c.1 = 0 → d.1 = 0 → c.2.2.1 = d.2.2.1 → c = d
theorem pairF_sem {n : Nat} {L : List Cond} (hm : ∀ c ∈ L,Mk n c) (hu : Uniq L) : (pairF L = none → Void1 (· ∈ L)) ∧ ∀ out,pairF L = some out → ¬ Void1 (· ∈ L) ∧ ∀ x,x ∈ out ↔ MM (· ∈ L) x := by
  let P : Nat → List Cond × (Int → Option Bool) → Prop := fun i st =>
    (∀ k,k < i → k < L.length → ((L.getD k dCond).1 = 0 → (∀ d ∈ L,d.1 = 0 → d.2.2.1 = negC (L.getD k dCond).2.2.1 → 0 ≤ (L.getD k dCond).2.2.2 + d.2.2.2) ∧ (¬ Opp (· ∈ L) (L.getD k dCond) → L.getD k dCond ∈ st.1) ∧ (Opp (· ∈ L) (L.getD k dCond) → toEq (L.getD k dCond) ∈ st.1)) ∧ ((L.getD k dCond).1 ≠ 0 → L.getD k dCond ∈ st.1)) ∧
    (∀ x ∈ st.1,MM (· ∈ L) x) ∧
    (∀ k : Nat,st.2 (k : Int) = some true → k < L.length ∧ (L.getD k dCond).1 = 0 ∧ Opp (· ∈ L) (L.getD k dCond) ∧ toEq (L.getD k dCond) ∈ st.1)
  have hinv := foldlM_inv (V := Void1 (· ∈ L)) (P := P) (withIdx L) (0,dCond) (pairStep L) ([],fun _ => none) ⟨fun k hk => absurd hk (by omega),by simp,fun k h => by cases h⟩ (by
    rintro i ⟨out,gone⟩ hi ⟨hA,hB,hG⟩
    rw [withIdx_len] at hi
    rw [withIdx_getD hi]
    have hcm := getD_memL (d := dCond) hi
    have hput : ∀ x, MM (· ∈ L) x → ∀ g : Int → Option Bool, (∀ k : Nat, g (k : Int) = some true → k < L.length ∧ (L.getD k dCond).1 = 0 ∧ Opp (· ∈ L) (L.getD k dCond) ∧ toEq (L.getD k dCond) ∈ out ++ [x]) →
        (((L.getD i dCond).1 = 0 → (∀ d ∈ L,d.1 = 0 → d.2.2.1 = negC (L.getD i dCond).2.2.1 → 0 ≤ (L.getD i dCond).2.2.2 + d.2.2.2) ∧ (¬ Opp (· ∈ L) (L.getD i dCond) → L.getD i dCond ∈ out ++ [x]) ∧ (Opp (· ∈ L) (L.getD i dCond) → toEq (L.getD i dCond) ∈ out ++ [x])) ∧ ((L.getD i dCond).1 ≠ 0 → L.getD i dCond ∈ out ++ [x])) → P (i + 1) (out ++ [x],g) := by
      intro x hx g hg hi'
      refine ⟨fun k hk hkl => ?_,fun y hy => ?_,hg⟩
      · by_cases hki : k = i
        · subst hki;exact hi'
        · obtain ⟨h1,h2⟩ := hA k (by omega) hkl
          exact ⟨fun h0 => ⟨(h1 h0).1,fun h => List.mem_append.2 (.inl ((h1 h0).2.1 h)),fun h => List.mem_append.2 (.inl ((h1 h0).2.2 h))⟩,fun h => List.mem_append.2 (.inl (h2 h))⟩
      · rcases List.mem_append.1 hy with hy | hy
        · exact hB y hy
        · simp only [List.mem_singleton] at hy;subst hy;exact hx
    have hG' : ∀ x,∀ k : Nat,gone (k : Int) = some true → k < L.length ∧ (L.getD k dCond).1 = 0 ∧ Opp (· ∈ L) (L.getD k dCond) ∧ toEq (L.getD k dCond) ∈ out ++ [x] := fun x k h => by
      obtain ⟨h1,h2,h3,h4⟩ := hG k h
      exact ⟨h1,h2,h3,List.mem_append.2 (.inl h4)⟩
    have hlast : ∀ x : Cond,x ∈ out ++ [x] := fun x => by simp
    simp only [pairStep]
    by_cases hg : (gone (i : Int)).getD false = true
    · rw [if_pos hg]
      refine ⟨fun h => (by cases h),fun t' ht' => ?_⟩
      cases ht'
      have hgs : gone (i : Int) = some true := by
        rcases opt_cases (gone (i : Int)) with h | ⟨b,h⟩
        · rw [h] at hg;cases hg
        · rw [h] at hg ⊢;simp only [Option.getD_some] at hg;rw [hg]
      obtain ⟨h1,h2,h3,h4⟩ := hG i hgs
      refine ⟨fun k hk hkl => ?_,hB,hG⟩
      by_cases hki : k = i
      · subst hki
        refine ⟨fun h0 => ⟨fun d hd hd0 hd1 => ?_,fun h => absurd h3 h,fun _ => h4⟩,fun h => absurd h2 h⟩
        obtain ⟨d',hd',hd0',hd1',hd2'⟩ := h3
        have : d = d' := hu d hd d' hd' hd0 hd0' (hd1.trans hd1'.symm)
        subst this
        omega
      · exact hA k (by omega) hkl
    · rw [if_neg hg]
      by_cases h0 : (L.getD i dCond).1 = 0
      · rw [if_neg (fun h => h h0)]
        have hmk := hm _ hcm
        rcases opt_cases (lastGe (negC (L.getD i dCond).2.2.1) L 0) with hj | ⟨j,hj⟩
        · rw [hj]
          have hno := lastGe_none hj
          have hnopp : ¬ Opp (· ∈ L) (L.getD i dCond) := fun ⟨d,hd,hd0,hd1,_⟩ => hno d hd ⟨hd0,hd1⟩
          refine ⟨fun h => (by cases h),fun t' ht' => ?_⟩
          cases ht'
          exact hput _ (.inl ⟨hcm,fun _ => hnopp⟩) _ (hG' _) ⟨fun _ => ⟨fun d hd hd0 hd1 => absurd ⟨hd0,hd1⟩ (hno d hd),fun _ => hlast _,fun h => absurd h hnopp⟩,fun h => absurd h0 h⟩
        · rw [hj]
          obtain ⟨_,hj1,hj2,hj3⟩ := lastGe_some hj
          simp only [Nat.sub_zero] at hj1 hj2 hj3
          rw [← getD_eq (d := dCond) hj1] at hj2 hj3
          have hdm := getD_memL (d := dCond) hj1
          simp only
          have huj : ∀ d ∈ L,d.1 = 0 → d.2.2.1 = negC (L.getD i dCond).2.2.1 → d = L.getD j dCond := fun d hd hd0 hd1 => hu d hd _ hdm hd0 hj2 (hd1.trans hj3.symm)
          by_cases h1 : (L.getD i dCond).2.2.2 + (L.getD j dCond).2.2.2 < 0
          · rw [if_pos h1]
            exact ⟨fun _ => ⟨_,_,hcm,hdm,h0,hj2,hj3,h1⟩,fun t' h => by cases h⟩
          · rw [if_neg h1]
            by_cases h2 : (L.getD i dCond).2.2.2 + (L.getD j dCond).2.2.2 = 0
            · rw [if_pos h2]
              have hopp : Opp (· ∈ L) (L.getD i dCond) := ⟨_,hdm,hj2,hj3,h2⟩
              have hteq := toEq_neg (hmk.gcd h0) hj3 h2
              refine ⟨fun h => (by cases h),fun t' ht' => ?_⟩
              cases ht'
              refine hput (toEq (L.getD i dCond)) (.inr ⟨_,hcm,h0,hopp,rfl⟩) _ (fun k hk => ?_) ⟨fun _ => ⟨fun d hd hd0 hd1 => ?_,fun h => absurd hopp h,fun _ => hlast _⟩,fun h => absurd h0 h⟩
              · simp only [mput] at hk
                by_cases hkj : (k : Int) = (j : Int)
                · have : k = j := by omega
                  subst this
                  refine ⟨hj1,hj2,⟨_,hcm,h0,?_,by omega⟩,?_⟩
                  · rw [hj3,negC_negC]
                  · rw [hteq];exact hlast _
                · rw [if_neg hkj] at hk
                  exact hG' _ k hk
              · rw [huj d hd hd0 hd1];omega
            · rw [if_neg h2]
              have hnopp : ¬ Opp (· ∈ L) (L.getD i dCond) := fun ⟨d,hd,hd0,hd1,hd2⟩ => by
                rw [huj d hd hd0 hd1] at hd2;exact h2 hd2
              refine ⟨fun h => (by cases h),fun t' ht' => ?_⟩
              cases ht'
              refine hput _ (.inl ⟨hcm,fun _ => hnopp⟩) _ (hG' _) ⟨fun _ => ⟨fun d hd hd0 hd1 => ?_,fun _ => hlast _,fun h => absurd h hnopp⟩,fun h => absurd h0 h⟩
              rw [huj d hd hd0 hd1];omega
      · rw [if_pos h0]
        refine ⟨fun h => (by cases h),fun t' ht' => ?_⟩
        cases ht'
        exact hput _ (.inl ⟨hcm,fun h => absurd h h0⟩) _ (hG' _) ⟨fun h => absurd h h0,fun _ => hlast _⟩)
  have hpf : pairF L = ((withIdx L).foldlM (pairStep L) ([],fun _ => none)).map (·.1) := rfl
  rw [hpf]
  rcases opt_cases ((withIdx L).foldlM (pairStep L) ([],fun _ => none)) with h | ⟨st,h⟩
  · rw [h]
    exact ⟨fun _ => hinv.1 h,fun out h => by cases h⟩
  · rw [h]
    refine ⟨fun h => (by cases h),fun out ho => ?_⟩
    cases ho
    obtain ⟨hA,hB,hG⟩ := hinv.2 st h
    rw [withIdx_len] at hA
    have hA' : ∀ c ∈ L,(c.1 = 0 → (∀ d ∈ L,d.1 = 0 → d.2.2.1 = negC c.2.2.1 → 0 ≤ c.2.2.2 + d.2.2.2) ∧ (¬ Opp (· ∈ L) c → c ∈ st.1) ∧ (Opp (· ∈ L) c → toEq c ∈ st.1)) ∧ (c.1 ≠ 0 → c ∈ st.1) := fun c hc => by
      obtain ⟨k,hk,rfl⟩ := mem_getD (d := dCond) hc
      exact hA k hk hk
    refine ⟨?_,fun x => ⟨hB x,?_⟩⟩
    · rintro ⟨c,d,hc,hd,h0,h1,h2,h3⟩
      have := ((hA' c hc).1 h0).1 d hd h1 h2
      omega
    · rintro (⟨hx,hx2⟩ | ⟨c,hc,h0,ho,rfl⟩)
      · by_cases h0 : x.1 = 0
        · exact ((hA' x hx).1 h0).2.1 (hx2 h0)
        · exact (hA' x hx).2 h0
      · exact ((hA' c hc).1 h0).2.2 ho
theorem eqK_none {C : List Int} {l : List Cond} (h : eqK C l = none) : ∀ e ∈ l,¬ (e.1 = 1 ∧ e.2.2.1 = C) := by
  intro e he
  simp only [eqK,Option.map_eq_none_iff,List.find?_eq_none,List.mem_reverse,decide_eq_true_eq] at h
  exact h e he
theorem eqSign_uniq {n : Nat} {e f : Cond} (he : Mk n e) (hf : Mk n f) (h1 : e.1 = 1) (h2 : f.1 = 1) : f.2.2.1 ≠ negC e.2.2.1 := fun h => by
  have a := he.1.2.2 h1
  have b := hf.1.2.2 h2
  have g := he.1.2.1 (by omega)
  rw [h,firstNeg_neg (by omega),a] at b
  cases b
theorem settleF_sem {n : Nat} {M : List Cond} (hm : ∀ c ∈ M,Mk n c) : (settleF M = none → Void2 (· ∈ M)) ∧ ∀ out,settleF M = some out → ¬ Void2 (· ∈ M) ∧ ∀ x,x ∈ out ↔ Fin2 (· ∈ M) x := by
  have hmt : ∀ {i : Nat} {e : Cond},e ∈ M.take i → e ∈ M := fun h => List.mem_of_mem_take h
  have h1 := foldlM_inv (V := Void2 (· ∈ M)) (P := fun i seen => seen = M.take i ∧ ∀ e ∈ M.take i,∀ f ∈ M.take i,e.1 = 1 → f.1 = 1 → e.2.2.1 = f.2.2.1 → e.2.2.2 = f.2.2.2) M dCond eqStep [] ⟨rfl,by simp⟩ (by
    rintro i seen hi ⟨rfl,hc⟩
    have hcm := getD_memL (d := dCond) hi
    have hts := take_succ_getD dCond hi
    have hnew : ∀ c : Cond,(∀ e ∈ M.take i,e.1 = 1 → c.1 = 1 → e.2.2.1 = c.2.2.1 → e.2.2.2 = c.2.2.2) → ∀ e ∈ M.take i ++ [c],∀ f ∈ M.take i ++ [c],e.1 = 1 → f.1 = 1 → e.2.2.1 = f.2.2.1 → e.2.2.2 = f.2.2.2 := fun c h e he f hf e1 f1 ef => by
      simp only [List.mem_append,List.mem_singleton] at he hf
      rcases he with he | rfl <;> rcases hf with hf | rfl
      · exact hc e he f hf e1 f1 ef
      · exact h e he e1 f1 ef
      · exact (h f hf f1 e1 ef.symm).symm
      · rfl
    rw [hts]
    unfold eqStep
    by_cases h0 : (M.getD i dCond).1 = 1
    · rw [if_neg (fun h => h h0)]
      rcases opt_cases (eqK (M.getD i dCond).2.2.1 (M.take i)) with hq | ⟨k,hq⟩
      · rw [hq]
        have hno := eqK_none hq
        refine ⟨fun h => (by cases h),fun t' ht' => ?_⟩
        cases ht'
        exact ⟨rfl,hnew _ fun e he e1 _ ee => absurd ⟨e1,ee⟩ (hno e he)⟩
      · rw [hq]
        obtain ⟨e,he,e1,e2,e3⟩ := eqK_B hq
        simp only
        by_cases hk : k = (M.getD i dCond).2.2.2
        · rw [if_neg (fun h => h hk)]
          refine ⟨fun h => (by cases h),fun t' ht' => ?_⟩
          cases ht'
          refine ⟨rfl,hnew _ fun f hf f1 _ ff => ?_⟩
          rw [hc f hf e he f1 e1 (ff.trans e2.symm),e3,hk]
        · rw [if_pos hk]
          exact ⟨fun _ => .inl ⟨e,_,hmt he,hcm,e1,h0,e2,by rw [e3];exact hk⟩,fun t' h => by cases h⟩
    · rw [if_pos h0]
      refine ⟨fun h => (by cases h),fun t' ht' => ?_⟩
      cases ht'
      exact ⟨rfl,hnew _ fun e he _ h _ => absurd h h0⟩)
  unfold settleF
  rcases opt_cases (M.foldlM eqStep []) with he | ⟨seen,he⟩
  · rw [he]
    exact ⟨fun _ => h1.1 he,fun out h => by cases h⟩
  · rw [he]
    simp only
    obtain ⟨_,hcf⟩ := h1.2 seen he
    rw [List.take_length] at hcf
    clear h1 he
    have h2 := foldlM_inv (V := Void2 (· ∈ M)) (P := fun i out => (∀ x,x ∈ out ↔ x ∈ M.take i ∧ (x.1 = 0 → ∀ e ∈ M,e.1 = 1 → e.2.2.1 ≠ x.2.2.1 ∧ e.2.2.1 ≠ negC x.2.2.1)) ∧ ∀ c ∈ M.take i,c.1 = 0 → ∀ e ∈ M,e.1 = 1 → (e.2.2.1 = c.2.2.1 → e.2.2.2 ≤ c.2.2.2) ∧ (e.2.2.1 = negC c.2.2.1 → 0 ≤ c.2.2.2 + e.2.2.2)) M dCond (setStep M) [] ⟨by simp,by simp⟩ (by
      rintro i out hi ⟨hA,hB⟩
      have hcm := getD_memL (d := dCond) hi
      have hts := take_succ_getD dCond hi
      have hput : ((M.getD i dCond).1 = 0 → ∀ e ∈ M,e.1 = 1 → e.2.2.1 ≠ (M.getD i dCond).2.2.1 ∧ e.2.2.1 ≠ negC (M.getD i dCond).2.2.1) → (∀ x,x ∈ out ++ [M.getD i dCond] ↔ x ∈ M.take i ++ [M.getD i dCond] ∧ (x.1 = 0 → ∀ e ∈ M,e.1 = 1 → e.2.2.1 ≠ x.2.2.1 ∧ e.2.2.1 ≠ negC x.2.2.1)) := fun h x => by
        simp only [List.mem_append,List.mem_singleton,hA]
        constructor
        · rintro (⟨h1,h2⟩ | rfl)
          · exact ⟨.inl h1,h2⟩
          · exact ⟨.inr rfl,h⟩
        · rintro ⟨h1 | h1,h2⟩
          · exact .inl ⟨h1,h2⟩
          · exact .inr h1
      have hdrop : ((M.getD i dCond).1 = 0 ∧ ∃ e ∈ M,e.1 = 1 ∧ (e.2.2.1 = (M.getD i dCond).2.2.1 ∨ e.2.2.1 = negC (M.getD i dCond).2.2.1)) → (∀ x,x ∈ out ↔ x ∈ M.take i ++ [M.getD i dCond] ∧ (x.1 = 0 → ∀ e ∈ M,e.1 = 1 → e.2.2.1 ≠ x.2.2.1 ∧ e.2.2.1 ≠ negC x.2.2.1)) := fun ⟨h0,e,he,he1,he2⟩ x => by
        simp only [List.mem_append,List.mem_singleton,hA]
        constructor
        · rintro ⟨h1,h2⟩;exact ⟨.inl h1,h2⟩
        · rintro ⟨h1 | rfl,h2⟩
          · exact ⟨h1,h2⟩
          · have := h2 h0 e he he1
            exact (he2.elim this.1 this.2).elim
      have hnew : ((M.getD i dCond).1 = 0 → ∀ e ∈ M,e.1 = 1 → (e.2.2.1 = (M.getD i dCond).2.2.1 → e.2.2.2 ≤ (M.getD i dCond).2.2.2) ∧ (e.2.2.1 = negC (M.getD i dCond).2.2.1 → 0 ≤ (M.getD i dCond).2.2.2 + e.2.2.2)) → ∀ c ∈ M.take i ++ [M.getD i dCond],c.1 = 0 → ∀ e ∈ M,e.1 = 1 → (e.2.2.1 = c.2.2.1 → e.2.2.2 ≤ c.2.2.2) ∧ (e.2.2.1 = negC c.2.2.1 → 0 ≤ c.2.2.2 + e.2.2.2) := fun h c hc => by
        simp only [List.mem_append,List.mem_singleton] at hc
        rcases hc with hc | rfl
        · exact hB c hc
        · exact h
      rw [hts]
      unfold setStep
      by_cases h0 : (M.getD i dCond).1 = 0
      · rw [if_neg (fun h => h h0)]
        rcases opt_cases (eqK (M.getD i dCond).2.2.1 M) with hq | ⟨k,hq⟩
        · rw [hq]
          have hno := eqK_none hq
          simp only
          rcases opt_cases (eqK (negC (M.getD i dCond).2.2.1) M) with hq2 | ⟨k,hq2⟩
          · rw [hq2]
            have hno2 := eqK_none hq2
            refine ⟨fun h => (by cases h),fun t' ht' => ?_⟩
            cases ht'
            exact ⟨hput fun _ e he e1 => ⟨fun h => hno e he ⟨e1,h⟩,fun h => hno2 e he ⟨e1,h⟩⟩,hnew fun _ e he e1 => ⟨fun h => absurd ⟨e1,h⟩ (hno e he),fun h => absurd ⟨e1,h⟩ (hno2 e he)⟩⟩
          · rw [hq2]
            obtain ⟨e,he,e1,e2,e3⟩ := eqK_B hq2
            simp only
            by_cases hk : (M.getD i dCond).2.2.2 + k < 0
            · rw [if_pos hk]
              exact ⟨fun _ => .inr ⟨_,e,hcm,he,h0,e1,.inr ⟨e2,by rw [e3];exact hk⟩⟩,fun t' h => by cases h⟩
            · rw [if_neg hk]
              refine ⟨fun h => (by cases h),fun t' ht' => ?_⟩
              cases ht'
              refine ⟨hdrop ⟨h0,e,he,e1,.inr e2⟩,hnew fun _ f hf f1 => ⟨fun h => absurd ⟨f1,h⟩ (hno f hf),fun h => ?_⟩⟩
              rw [hcf f hf e he f1 e1 (h.trans e2.symm),e3];omega
        · rw [hq]
          obtain ⟨e,he,e1,e2,e3⟩ := eqK_B hq
          simp only
          by_cases hk : (M.getD i dCond).2.2.2 < k
          · rw [if_pos hk]
            exact ⟨fun _ => .inr ⟨_,e,hcm,he,h0,e1,.inl ⟨e2,by rw [e3];exact hk⟩⟩,fun t' h => by cases h⟩
          · rw [if_neg hk]
            refine ⟨fun h => (by cases h),fun t' ht' => ?_⟩
            cases ht'
            refine ⟨hdrop ⟨h0,e,he,e1,.inl e2⟩,hnew fun _ f hf f1 => ⟨fun h => ?_,fun h => ?_⟩⟩
            · rw [hcf f hf e he f1 e1 (h.trans e2.symm),e3];omega
            · exact absurd (e2 ▸ h) (eqSign_uniq (hm e he) (hm f hf) e1 f1)
      · rw [if_pos h0]
        refine ⟨fun h => (by cases h),fun t' ht' => ?_⟩
        cases ht'
        exact ⟨hput fun h => absurd h h0,hnew fun h => absurd h h0⟩)
    refine ⟨h2.1,fun out ho => ?_⟩
    obtain ⟨hA,hB⟩ := h2.2 out ho
    rw [List.take_length] at hA hB
    refine ⟨?_,fun x => hA x⟩
    rintro (⟨e,f,he,hf,e1,f1,ef,hk⟩ | ⟨c,e,hc,he,c0,e1,⟨h3,h4⟩ | ⟨h3,h4⟩⟩)
    · exact hk (hcf e he f hf e1 f1 ef)
    · have := (hB c hc c0 e he e1).1 h3;omega
    · have := (hB c hc c0 e he e1).2 h3;omega
theorem rawF_mod0 {c : Cond} (h0 : (rawF c).2 = 0) (h1 : (rawF c).1.1 = 0) : (rawF c).1.2.1 = 0 := by
  have hs : ∀ b,(sureF b).2 ≠ 0 := fun b => by cases b <;> simp [sureF]
  unfold rawF at *
  split at h0
  · rename_i hk
    rw [if_pos hk]
    unfold geF at *
    split
    · rfl
    · rfl
  · rename_i hk
    rw [if_neg hk] at h1 ⊢
    split at h0
    · rename_i hk2
      rw [if_pos hk2] at h1 ⊢
      unfold eqF at *
      split
      · rfl
      · rfl
    · rename_i hk2
      rw [if_neg hk2] at h1 ⊢
      unfold divF at *
      split at h1
      · rename_i ha
        rw [if_pos ha];rfl
      · rename_i ha
        rw [if_neg ha]
        split at h1
        · rename_i hb
          rw [if_pos hb];rfl
        · cases h1
theorem rawL_Mk {p : List Cond} {n : Nat} (h : pieceB p) (hd : dims p n) : ∀ c ∈ rawL p,Mk n c := by
  intro c hc
  refine ⟨rawL_norm h hd c hc,((rawL_B h).2 c hc).k3,fun h0 => ?_⟩
  simp only [rawL,List.mem_map,List.mem_filter] at hc
  obtain ⟨r,⟨⟨d,hd2,rfl⟩,hr⟩,rfl⟩ := hc
  exact rawF_mod0 (by simpa using hr) h0
theorem sortU_congr {a b : List Cond} (h : K3 a) (hab : ∀ x,x ∈ a ↔ x ∈ b) : sortU a = sortU b := by
  have hb : K3 b := fun c hc => h c ((hab c).2 hc)
  exact SS_ext (sortU_SS h) (sortU_SS hb) fun c => by rw [sortU_mem h,sortU_mem hb,hab]
theorem minK_Mk {n : Nat} {d c : Cond} (h : Mk n d) : Mk n (minK d c.2.2.2) := h
theorem tidyF_sem {p : List Cond} {n : Nat} (hb : pieceB p) (hd : dims p n) (hv : rawVoid p = false) :
    (Void1 (Lm (rawL p)) ∨ Void2 (MM (Lm (rawL p))) → tidyF p = ([],true,0)) ∧
    (¬ Void1 (Lm (rawL p)) → ¬ Void2 (MM (Lm (rawL p))) → ∀ m,(∀ x,x ∈ m ↔ Fin2 (MM (Lm (rawL p))) x) → tidyF p = if ((rawL p).any (fun c => !condValid c) || decide (96 < (sortU m).length)) = true then ([],false,3) else (sortU m,false,0)) := by
  have hl := rawL_Mk hb hd
  have e : (fun x => x ∈ leastF (rawL p)) = Lm (rawL p) := funext fun x => propext (leastF_mem hl x)
  have hL : ∀ c ∈ leastF (rawL p),Mk n c := leastF_P (fun d c hd _ => minK_Mk hd) hl
  have hu : Uniq (leastF (rawL p)) := fun c hc d hd h0 h1 h => Lm.uniq hl ((leastF_mem hl c).1 hc) ((leastF_mem hl d).1 hd) h0 h1 h
  obtain ⟨hp1,hp2⟩ := pairF_sem hL hu
  rw [e] at hp1 hp2
  have ht := tidyF_eq p
  rw [hv] at ht
  simp only [Bool.false_eq_true,if_false] at ht
  rcases opt_cases (pairF (leastF (rawL p))) with h1 | ⟨M,h1⟩
  · rw [h1] at ht
    exact ⟨fun _ => ht,fun h => absurd (hp1 h1) h⟩
  · obtain ⟨hnv,hM⟩ := hp2 M h1
    have eM : (fun x => x ∈ M) = MM (Lm (rawL p)) := funext fun x => propext (hM x)
    have hMk : ∀ c ∈ M,Mk n c := pairF_P (fun c h0 hc => (toEq_mk hc h0).1) hL h1
    obtain ⟨hs1,hs2⟩ := settleF_sem hMk
    rw [eM] at hs1 hs2
    rw [h1,Option.bind_some] at ht
    rcases opt_cases (settleF M) with h2 | ⟨out,h2⟩
    · rw [h2] at ht
      exact ⟨fun _ => ht,fun _ h => absurd (hs1 h2) h⟩
    · obtain ⟨hnv2,hO⟩ := hs2 out h2
      rw [h2] at ht
      refine ⟨fun h => (h.elim hnv hnv2).elim,fun _ _ m hm => ?_⟩
      have hk3 : K3 out := fun c hc => (settleF_P (P := Mk n) hMk h2 c hc).2.1
      have : sortU out = sortU m := sortU_congr hk3 fun x => by rw [hO,hm]
      rw [← this];exact ht
def ges (l : List Cond) : List Cond := l.filter fun c => decide (c.1 = 0)
theorem ges_mem {l : List Cond} {c : Cond} : c ∈ ges l ↔ c ∈ l ∧ c.1 = 0 := by simp [ges]
theorem Lm_ges {l : List Cond} {x : Cond} (h0 : x.1 = 0) : Lm l x ↔ Lm (ges l) x := by
  simp only [Lm,ges_mem]
  constructor
  · rintro ⟨h1,h2⟩;exact ⟨⟨h1,h0⟩,fun h d hd hd0 => h2 h d hd.1 hd0⟩
  · rintro ⟨h1,h2⟩;exact ⟨h1.1,fun h d hd hd0 => h2 h d ⟨hd,hd0⟩ hd0⟩
theorem Lm_other {l : List Cond} {x : Cond} (h0 : x.1 ≠ 0) : Lm l x ↔ x ∈ l := ⟨fun h => h.1,fun h => ⟨h,fun e => absurd e h0⟩⟩
theorem sides_one {a b : Cond} : sidesF a b = 1 ↔ a.2.2.1 = b.2.2.1 := by
  unfold sidesF
  split
  · rename_i h;exact ⟨fun _ => h,fun _ => rfl⟩
  · rename_i h
    split
    · exact ⟨fun h => (by cases h),fun e => absurd e h⟩
    · exact ⟨fun h => (by cases h),fun e => absurd e h⟩
theorem sides_neg {a b : Cond} (h : gcdL a.2.2.1 = 1) : sidesF a b = -1 ↔ b.2.2.1 = negC a.2.2.1 := by
  unfold sidesF
  split
  · rename_i h1
    exact ⟨fun h => (by cases h),fun e => absurd (e.symm.trans h1.symm) (negC_ne h)⟩
  · split
    · rename_i h2;exact ⟨fun _ => by rw [h2,negC_negC],fun _ => rfl⟩
    · rename_i h2;exact ⟨fun h => (by cases h),fun e => absurd (by rw [e,negC_negC]) h2⟩
theorem sides_zero {a b : Cond} : sidesF a b = 0 ↔ a.2.2.1 ≠ b.2.2.1 ∧ a.2.2.1 ≠ negC b.2.2.1 := by
  unfold sidesF
  split
  · rename_i h1;exact ⟨fun h => (by cases h),fun e => absurd h1 e.1⟩
  · rename_i h1
    split
    · rename_i h2;exact ⟨fun h => (by cases h),fun e => absurd h2 e.2⟩
    · rename_i h2;exact ⟨fun _ => ⟨h1,h2⟩,fun _ => rfl⟩
def refMin (out : List Cond) (c : Cond) : List Cond := out.map fun d => if d.2.2.1 = c.2.2.1 then minK d c.2.2.2 else d
def refHas (out : List Cond) (c : Cond) : Bool := out.any fun d => decide (d.2.2.1 = c.2.2.1)
def refLeast (out : List Cond) (c : Cond) : List Cond := if refHas out c = true then refMin out c else out ++ [c]
theorem refLeast_mem {n : Nat} {m out : List Cond} {c : Cond} (hm : ∀ d ∈ m,Mk n d ∧ d.1 = 0) (hc : Mk n c) (h0 : c.1 = 0) (ho : ∀ x,x ∈ out ↔ Lm m x) (x : Cond) : x ∈ refLeast out c ↔ Lm (m ++ [c]) x := by
  rw [Lm_snoc_ge (fun d hd => (hm d hd).1) hc h0]
  have hg : ∀ d ∈ out,d.1 = 0 := fun d hd => (hm d ((ho d).1 hd).1).2
  unfold refLeast
  by_cases hh : refHas out c = true
  · rw [if_pos hh]
    obtain ⟨e,he,he1⟩ := List.any_eq_true.1 hh
    simp only [decide_eq_true_eq] at he1
    simp only [refMin,List.mem_map]
    constructor
    · rintro ⟨d,hd,rfl⟩
      by_cases h1 : d.2.2.1 = c.2.2.1
      · rw [if_pos h1]
        exact .inr ⟨hg d hd,h1,.inl ⟨d,(ho d).1 hd,hg d hd,h1,rfl⟩⟩
      · rw [if_neg h1]
        exact .inl ⟨(ho d).1 hd,fun h => h1 h.2⟩
    · rintro (⟨hx,hxc⟩ | ⟨hx0,hxc,⟨d,hd,hd0,hd1,rfl⟩ | ⟨hex,rfl⟩⟩)
      · refine ⟨x,(ho x).2 hx,if_neg fun h => hxc ⟨hg x ((ho x).2 hx),h⟩⟩
      · exact ⟨d,(ho d).2 hd,if_pos hd1⟩
      · exact absurd ⟨e,(ho e).1 he,hg e he,he1⟩ hex
  · rw [if_neg hh]
    have hno : ∀ d ∈ out,d.2.2.1 ≠ c.2.2.1 := fun d hd h => hh (List.any_eq_true.2 ⟨d,hd,decide_eq_true h⟩)
    simp only [List.mem_append,List.mem_singleton]
    constructor
    · rintro (hx | rfl)
      · exact .inl ⟨(ho x).1 hx,fun h => hno x hx h.2⟩
      · exact .inr ⟨h0,rfl,.inr ⟨fun ⟨d,hd,hd0,hd1⟩ => hno d ((ho d).2 hd) hd1,rfl⟩⟩
    · rintro (⟨hx,hxc⟩ | ⟨hx0,hxc,⟨d,hd,hd0,hd1,rfl⟩ | ⟨hex,rfl⟩⟩)
      · exact .inl ((ho x).2 hx)
      · exact absurd hd1 (hno d ((ho d).2 hd))
      · exact .inr rfl
def proc (N i j a b : Nat) : Prop := a < b ∧ b < N ∧ (a < i ∨ (a = i ∧ b < j))
theorem proc_step {N i j a b : Nat} (h : i < j) (hj : j < N) : proc N i (j + 1) a b ↔ proc N i j a b ∨ (a = i ∧ b = j) := by
  unfold proc;omega
theorem proc_row {N i a b : Nat} : proc N i N a b ↔ proc N (i + 1) (i + 2) a b := by
  unfold proc;omega
theorem proc_nil {N a b : Nat} : ¬ proc N 0 1 a b := by unfold proc;omega
theorem proc_all {N i a b : Nat} (h : N ≤ i) : proc N i (i + 1) a b ↔ a < b ∧ b < N := by unfold proc;omega
def opp0 (G : List Cond) (a b : Nat) : Prop := sidesF (G.getD a dCond) (G.getD b dCond) = -1 ∧ (G.getD a dCond).2.2.2 + (G.getD b dCond).2.2.2 = 0
structure PairI (G eq : List Cond) (i j : Nat) (eqs : List Cond) (gone : List Bool) : Prop where
  nn : ∀ a b,proc G.length i j a b → sidesF (G.getD a dCond) (G.getD b dCond) = -1 → 0 ≤ (G.getD a dCond).2.2.2 + (G.getD b dCond).2.2.2
  ee : ∀ x,x ∈ eqs ↔ x ∈ eq ∨ ∃ a b,proc G.length i j a b ∧ opp0 G a b ∧ x = toEq (G.getD a dCond)
  gl : gone.length = G.length
  gg : ∀ k,k < G.length → (gone.getD k false = true ↔ ∃ a b,proc G.length i j a b ∧ opp0 G a b ∧ (k = a ∨ k = b))
theorem PairI.nil (G eq : List Cond) : PairI G eq 0 1 eq (List.replicate G.length false) :=
  ⟨fun a b h => absurd h proc_nil,fun x => ⟨.inl,fun h => h.elim id fun ⟨a,b,h,_⟩ => absurd h proc_nil⟩,by simp,fun k hk => by
    rw [getD_eq (by simpa using hk)]
    simp only [List.getElem_replicate,Bool.false_eq_true,false_iff]
    rintro ⟨a,b,h,_⟩;exact proc_nil h⟩
theorem PairI.row {G eq : List Cond} {i : Nat} {eqs : List Cond} {gone : List Bool} (h : PairI G eq i G.length eqs gone) : PairI G eq (i + 1) (i + 2) eqs gone :=
  ⟨fun a b h1 => h.nn a b (proc_row.2 h1),fun x => (h.ee x).trans (by simp only [proc_row]),h.gl,fun k hk => (h.gg k hk).trans (by simp only [proc_row])⟩
theorem PairI.skip {G eq : List Cond} {i j : Nat} {eqs : List Cond} {gone : List Bool} (h : PairI G eq i j eqs gone) (hij : i < j) (hj : j < G.length) (hs : sidesF (G.getD i dCond) (G.getD j dCond) = -1 → 0 < (G.getD i dCond).2.2.2 + (G.getD j dCond).2.2.2) : PairI G eq i (j + 1) eqs gone := by
  have hno : ¬ opp0 G i j := fun ⟨h1,h2⟩ => by have := hs h1;omega
  have hex : ∀ P : Nat → Nat → Prop,(∃ a b,proc G.length i (j + 1) a b ∧ opp0 G a b ∧ P a b) ↔ ∃ a b,proc G.length i j a b ∧ opp0 G a b ∧ P a b := fun P => by
    constructor
    · rintro ⟨a,b,h1,h2,h3⟩
      rcases (proc_step hij hj).1 h1 with h1 | ⟨rfl,rfl⟩
      · exact ⟨a,b,h1,h2,h3⟩
      · exact absurd h2 hno
    · rintro ⟨a,b,h1,h2,h3⟩
      exact ⟨a,b,(proc_step hij hj).2 (.inl h1),h2,h3⟩
  refine ⟨fun a b h1 h2 => ?_,fun x => (h.ee x).trans (or_congr Iff.rfl (hex _).symm),h.gl,fun k hk => (h.gg k hk).trans (hex _).symm⟩
  rcases (proc_step hij hj).1 h1 with h1 | ⟨rfl,rfl⟩
  · exact h.nn a b h1 h2
  · have := hs h2;omega
theorem PairI.put {G eq : List Cond} {i j : Nat} {eqs : List Cond} {gone : List Bool} (h : PairI G eq i j eqs gone) (hij : i < j) (hj : j < G.length) (hs : opp0 G i j) : PairI G eq i (j + 1) (eqs ++ [toEq (G.getD i dCond)]) ((gone.set i true).set j true) := by
  have hex : ∀ P : Nat → Nat → Prop,(∃ a b,proc G.length i (j + 1) a b ∧ opp0 G a b ∧ P a b) ↔ (∃ a b,proc G.length i j a b ∧ opp0 G a b ∧ P a b) ∨ P i j := fun P => by
    constructor
    · rintro ⟨a,b,h1,h2,h3⟩
      rcases (proc_step hij hj).1 h1 with h1 | ⟨rfl,rfl⟩
      · exact .inl ⟨a,b,h1,h2,h3⟩
      · exact .inr h3
    · rintro (⟨a,b,h1,h2,h3⟩ | h3)
      · exact ⟨a,b,(proc_step hij hj).2 (.inl h1),h2,h3⟩
      · exact ⟨i,j,(proc_step hij hj).2 (.inr ⟨rfl,rfl⟩),hs,h3⟩
  refine ⟨fun a b h1 h2 => ?_,fun x => ?_,by simpa using h.gl,fun k hk => ?_⟩
  · rcases (proc_step hij hj).1 h1 with h1 | ⟨rfl,rfl⟩
    · exact h.nn a b h1 h2
    · have := hs.2;omega
  · rw [hex,List.mem_append,List.mem_singleton,h.ee,or_assoc]
  · rw [hex,← h.gg k hk]
    have hgl := h.gl
    rw [getD_eq (by simp;omega)]
    by_cases h1 : j = k
    · subst h1
      rw [List.getElem_set_self]
      exact ⟨fun _ => .inr (.inr rfl),fun _ => rfl⟩
    · rw [List.getElem_set_ne h1]
      by_cases h2 : i = k
      · subst h2
        rw [List.getElem_set_self]
        exact ⟨fun _ => .inr (.inl rfl),fun _ => rfl⟩
      · rw [List.getElem_set_ne h2,getD_eq (show k < gone.length by omega)]
        exact ⟨.inl,fun h => h.elim id fun h => by omega⟩
structure PairsDone (L : Cond → Prop) (G eqs : List Cond) (gone : List Bool) : Prop where
  nv : ¬ Void1 L
  ee : ∀ x,x ∈ eqs ↔ MM L x ∧ x.1 = 1
  gl : gone.length = G.length
  gg : ∀ k,k < G.length → (gone.getD k false = true ↔ Opp L (G.getD k dCond))
theorem PairI.done {n : Nat} {l G eq : List Cond} {eqs : List Cond} {gone : List Bool} (hl : ∀ c ∈ l,Mk n c) (hG : ∀ x,x ∈ G ↔ Lm l x ∧ x.1 = 0) (hq : ∀ x,x ∈ eq ↔ x ∈ l ∧ x.1 = 1) (h : PairI G eq G.length (G.length + 1) eqs gone) : PairsDone (Lm l) G eqs gone := by
  have hmk : ∀ a,a < G.length → Mk n (G.getD a dCond) ∧ (G.getD a dCond).1 = 0 ∧ Lm l (G.getD a dCond) := fun a ha => by
    have := (hG _).1 (getD_memL (d := dCond) ha)
    exact ⟨hl _ this.1.1,this.2,this.1⟩
  have hsd : ∀ a b,a < G.length → b < G.length → (sidesF (G.getD a dCond) (G.getD b dCond) = -1 ↔ (G.getD b dCond).2.2.1 = negC (G.getD a dCond).2.2.1) := fun a b ha hb => sides_neg ((hmk a ha).1.gcd (hmk a ha).2.1)
  have hsym : ∀ a b,a < G.length → b < G.length → (G.getD b dCond).2.2.1 = negC (G.getD a dCond).2.2.1 → (G.getD a dCond).2.2.1 = negC (G.getD b dCond).2.2.1 := fun a b ha hb h => by rw [h,negC_negC]
  have hne : ∀ a b,a < G.length → b < G.length → (G.getD b dCond).2.2.1 = negC (G.getD a dCond).2.2.1 → a ≠ b := fun a b ha hb h e => by
    subst e
    exact negC_ne ((hmk a ha).1.gcd (hmk a ha).2.1) h.symm
  have hpr : ∀ a b,proc G.length G.length (G.length + 1) a b ↔ a < b ∧ b < G.length := fun a b => proc_all (Nat.le_refl _)
  have hOpp : ∀ k,k < G.length → (Opp (Lm l) (G.getD k dCond) ↔ ∃ b,b < G.length ∧ (G.getD b dCond).2.2.1 = negC (G.getD k dCond).2.2.1 ∧ (G.getD k dCond).2.2.2 + (G.getD b dCond).2.2.2 = 0) := fun k hk => by
    constructor
    · rintro ⟨d,hd,hd0,hd1,hd2⟩
      obtain ⟨b,hb,rfl⟩ := mem_getD (d := dCond) ((hG d).2 ⟨hd,hd0⟩)
      exact ⟨b,hb,hd1,hd2⟩
    · rintro ⟨b,hb,h1,h2⟩
      exact ⟨_,(hmk b hb).2.2,(hmk b hb).2.1,h1,h2⟩
  refine ⟨?_,fun x => ?_,h.gl,fun k hk => ?_⟩
  · rintro ⟨c,d,hc,hd,c0,d0,hcd,hlt⟩
    obtain ⟨a,ha,rfl⟩ := mem_getD (d := dCond) ((hG c).2 ⟨hc,c0⟩)
    obtain ⟨b,hb,rfl⟩ := mem_getD (d := dCond) ((hG d).2 ⟨hd,d0⟩)
    rcases Nat.lt_or_gt_of_ne (hne a b ha hb hcd) with hab | hab
    · have := h.nn a b ((hpr a b).2 ⟨hab,hb⟩) ((hsd a b ha hb).2 hcd);omega
    · have := h.nn b a ((hpr b a).2 ⟨hab,ha⟩) ((hsd b a hb ha).2 (hsym a b ha hb hcd));omega
  · rw [h.ee,hq]
    constructor
    · rintro (⟨h1,h2⟩ | ⟨a,b,h1,⟨h2,h3⟩,rfl⟩)
      · exact ⟨.inl ⟨(Lm_other (by omega)).2 h1,fun h => by omega⟩,h2⟩
      · have ha : a < G.length := by have := (hpr a b).1 h1;omega
        have hb : b < G.length := by have := (hpr a b).1 h1;omega
        exact ⟨.inr ⟨_,(hmk a ha).2.2,(hmk a ha).2.1,(hOpp a ha).2 ⟨b,hb,(hsd a b ha hb).1 h2,h3⟩,rfl⟩,(toEq_mk (hmk a ha).1 (hmk a ha).2.1).2⟩
    · rintro ⟨⟨h1,h2⟩ | ⟨c,hc,c0,ho,rfl⟩,hx1⟩
      · exact .inl ⟨h1.1,hx1⟩
      · obtain ⟨k,hk,rfl⟩ := mem_getD (d := dCond) ((hG c).2 ⟨hc,c0⟩)
        obtain ⟨b,hb,h3,h4⟩ := (hOpp k hk).1 ho
        right
        rcases Nat.lt_or_gt_of_ne (hne k b hk hb h3) with hkb | hkb
        · exact ⟨k,b,(hpr k b).2 ⟨hkb,hb⟩,⟨(hsd k b hk hb).2 h3,h4⟩,rfl⟩
        · exact ⟨b,k,(hpr b k).2 ⟨hkb,hk⟩,⟨(hsd b k hb hk).2 (hsym k b hk hb h3),by omega⟩,(toEq_neg ((hmk k hk).1.gcd c0) h3 h4).symm⟩
  · rw [h.gg k hk,hOpp k hk]
    constructor
    · rintro ⟨a,b,h1,⟨h2,h3⟩,h4⟩
      have ha : a < G.length := by have := (hpr a b).1 h1;omega
      have hb : b < G.length := by have := (hpr a b).1 h1;omega
      have h5 := (hsd a b ha hb).1 h2
      rcases h4 with rfl | rfl
      · exact ⟨b,hb,h5,h3⟩
      · exact ⟨a,ha,hsym a k ha hb h5,by omega⟩
    · rintro ⟨b,hb,h3,h4⟩
      rcases Nat.lt_or_gt_of_ne (hne k b hk hb h3) with hkb | hkb
      · exact ⟨k,b,(hpr k b).2 ⟨hkb,hb⟩,⟨(hsd k b hk hb).2 h3,h4⟩,.inl rfl⟩
      · exact ⟨b,k,(hpr b k).2 ⟨hkb,hk⟩,⟨(hsd b k hb hk).2 (hsym k b hk hb h3),by omega⟩,.inr rfl⟩
structure EqI (G E : List Cond) (gone0 : List Bool) (i : Nat) (gone : List Bool) : Prop where
  cc : ∀ a b,a < i → b < i → (E.getD a dCond).2.2.1 = (E.getD b dCond).2.2.1 → (E.getD a dCond).2.2.2 = (E.getD b dCond).2.2.2
  nn : ∀ k,k < G.length → gone0.getD k false = false → ∀ a,a < i → ((E.getD a dCond).2.2.1 = (G.getD k dCond).2.2.1 → (E.getD a dCond).2.2.2 ≤ (G.getD k dCond).2.2.2) ∧ ((E.getD a dCond).2.2.1 = negC (G.getD k dCond).2.2.1 → 0 ≤ (G.getD k dCond).2.2.2 + (E.getD a dCond).2.2.2)
  gl : gone.length = G.length
  gg : ∀ k,k < G.length → (gone.getD k false = true ↔ gone0.getD k false = true ∨ ∃ a,a < i ∧ sidesF (E.getD a dCond) (G.getD k dCond) ≠ 0)
theorem EqI.nil {G E : List Cond} {gone0 : List Bool} (h : gone0.length = G.length) : EqI G E gone0 0 gone0 :=
  ⟨fun a b h => absurd h (by omega),fun k _ _ a h => absurd h (by omega),h,fun k hk => ⟨.inl,fun h => h.elim id fun ⟨a,h,_⟩ => absurd h (by omega)⟩⟩
structure EqR (G E : List Cond) (gone0 : List Bool) (i j : Nat) (gone1 gone : List Bool) : Prop where
  nn : ∀ k,k < j → gone0.getD k false = false → ((E.getD i dCond).2.2.1 = (G.getD k dCond).2.2.1 → (E.getD i dCond).2.2.2 ≤ (G.getD k dCond).2.2.2) ∧ ((E.getD i dCond).2.2.1 = negC (G.getD k dCond).2.2.1 → 0 ≤ (G.getD k dCond).2.2.2 + (E.getD i dCond).2.2.2)
  gl : gone.length = G.length
  gg : ∀ k,k < G.length → (gone.getD k false = true ↔ gone1.getD k false = true ∨ (k < j ∧ sidesF (E.getD i dCond) (G.getD k dCond) ≠ 0))
theorem EqI.row {G E : List Cond} {gone0 : List Bool} {i : Nat} {gone1 gone : List Bool} (h : EqI G E gone0 i gone1) (hc : ∀ a,a < i → (E.getD i dCond).2.2.1 = (E.getD a dCond).2.2.1 → (E.getD i dCond).2.2.2 = (E.getD a dCond).2.2.2) (hr : EqR G E gone0 i G.length gone1 gone) : EqI G E gone0 (i + 1) gone := by
  refine ⟨fun a b ha hb hab => ?_,fun k hk h0 a ha => ?_,hr.gl,fun k hk => ?_⟩
  · rcases Nat.lt_or_ge a i with h1 | h1 <;> rcases Nat.lt_or_ge b i with h2 | h2
    · exact h.cc a b h1 h2 hab
    · have : b = i := by omega
      subst this
      exact (hc a h1 hab.symm).symm
    · have : a = i := by omega
      subst this
      exact hc b h2 hab
    · have : a = b := by omega
      rw [this]
  · rcases Nat.lt_or_ge a i with h1 | h1
    · exact h.nn k hk h0 a h1
    · have : a = i := by omega
      subst this
      exact hr.nn k hk h0
  · rw [hr.gg k hk,h.gg k hk,or_assoc]
    refine or_congr Iff.rfl ⟨?_,?_⟩
    · rintro (⟨a,ha,h1⟩ | ⟨_,h1⟩)
      · exact ⟨a,by omega,h1⟩
      · exact ⟨i,by omega,h1⟩
    · rintro ⟨a,ha,h1⟩
      rcases Nat.lt_or_ge a i with h2 | h2
      · exact .inl ⟨a,h2,h1⟩
      · have : a = i := by omega
        subst this
        exact .inr ⟨hk,h1⟩
theorem EqR.nil {G E : List Cond} {gone0 gone1 : List Bool} {i : Nat} (h : gone1.length = G.length) : EqR G E gone0 i 0 gone1 gone1 :=
  ⟨fun k h => absurd h (by omega),h,fun k hk => ⟨.inl,fun h => h.elim id fun ⟨h,_⟩ => absurd h (by omega)⟩⟩
theorem EqR.skip {n : Nat} {G E : List Cond} {gone0 gone1 gone : List Bool} {i j : Nat} (hE : ∀ a,a ≤ i → Mk n (E.getD a dCond) ∧ (E.getD a dCond).1 = 1) (hI : EqI G E gone0 i gone1) (hc : ∀ a,a < i → (E.getD i dCond).2.2.1 = (E.getD a dCond).2.2.1 → (E.getD i dCond).2.2.2 = (E.getD a dCond).2.2.2) (h : EqR G E gone0 i j gone1 gone) (hj : j < G.length) (hs : gone.getD j false = true ∨ sidesF (E.getD i dCond) (G.getD j dCond) = 0) : EqR G E gone0 i (j + 1) gone1 gone := by
  have hneg : ∀ {u v : List Int},u = negC v → v = negC u := fun {u v} h => by rw [h,negC_negC]
  refine ⟨fun k hk h0 => ?_,h.gl,fun k hk => ?_⟩
  · rcases Nat.lt_or_ge k j with h1 | h1
    · exact h.nn k h1 h0
    · have : k = j := by omega
      subst this
      rcases hs with hs | hs
      · rcases (h.gg k hj).1 hs with h2 | h2
        · rcases (hI.gg k hj).1 h2 with h3 | ⟨a,ha,h3⟩
          · rw [h0] at h3;cases h3
          · have hn := hI.nn k hj h0 a ha
            obtain ⟨ma,a1⟩ := hE a (by omega)
            obtain ⟨mi,i1⟩ := hE i (Nat.le_refl _)
            have h4 : (E.getD a dCond).2.2.1 = (G.getD k dCond).2.2.1 ∨ (E.getD a dCond).2.2.1 = negC (G.getD k dCond).2.2.1 := by
              rcases Decidable.em ((E.getD a dCond).2.2.1 = (G.getD k dCond).2.2.1) with h5 | h5
              · exact .inl h5
              · rcases Decidable.em ((E.getD a dCond).2.2.1 = negC (G.getD k dCond).2.2.1) with h6 | h6
                · exact .inr h6
                · exact absurd (sides_zero.2 ⟨h5,h6⟩) h3
            constructor
            · intro h5
              rcases h4 with h4 | h4
              · rw [hc a ha (h5.trans h4.symm)];exact hn.1 h4
              · exact absurd (h5 ▸ h4) (eqSign_uniq mi ma i1 a1)
            · intro h5
              rcases h4 with h4 | h4
              · exact absurd (h4 ▸ h5) (eqSign_uniq ma mi a1 i1)
              · rw [hc a ha (h5.trans h4.symm)];exact hn.2 h4
        · omega
      · have := sides_zero.1 hs
        exact ⟨fun h => absurd h this.1,fun h => absurd h this.2⟩
  · rw [h.gg k hk]
    constructor
    · rintro (h1 | ⟨h1,h2⟩)
      · exact .inl h1
      · exact .inr ⟨by omega,h2⟩
    · rintro (h1 | ⟨h1,h2⟩)
      · exact .inl h1
      · rcases Nat.lt_or_ge k j with h3 | h3
        · exact .inr ⟨h3,h2⟩
        · have : k = j := by omega
          subst this
          rcases hs with hs | hs
          · exact (h.gg k hk).1 hs
          · exact absurd hs h2
theorem EqR.put {G E : List Cond} {gone0 gone1 gone : List Bool} {i j : Nat} (h : EqR G E gone0 i j gone1 gone) (hj : j < G.length) (hs : sidesF (E.getD i dCond) (G.getD j dCond) ≠ 0) (hn : 0 ≤ (G.getD j dCond).2.2.2 - sidesF (E.getD i dCond) (G.getD j dCond) * (E.getD i dCond).2.2.2) (hg : gcdL (E.getD i dCond).2.2.1 = 1) : EqR G E gone0 i (j + 1) gone1 (gone.set j true) := by
  have hgl := h.gl
  refine ⟨fun k hk h0 => ?_,by simpa using hgl,fun k hk => ?_⟩
  · rcases Nat.lt_or_ge k j with h1 | h1
    · exact h.nn k h1 h0
    · have : k = j := by omega
      subst this
      constructor
      · intro h5
        rw [sides_one.2 h5] at hn;omega
      · intro h5
        rw [(sides_neg hg).2 (by rw [h5,negC_negC])] at hn;omega
  · rw [getD_eq (by simp;omega)]
    by_cases h1 : j = k
    · subst h1
      rw [List.getElem_set_self]
      exact ⟨fun _ => .inr ⟨by omega,hs⟩,fun _ => rfl⟩
    · rw [List.getElem_set_ne h1,← getD_eq (d := false) (show k < gone.length by omega),h.gg k hk]
      exact or_congr Iff.rfl ⟨fun h => ⟨by omega,h.2⟩,fun h => ⟨by omega,h.2⟩⟩
theorem EqI.done {n : Nat} {l G E : List Cond} {gone0 gone : List Bool} (hl : ∀ c ∈ l,Mk n c) (hG : ∀ x,x ∈ G ↔ Lm l x ∧ x.1 = 0) (hp : PairsDone (Lm l) G E gone0) (h : EqI G E gone0 E.length gone) {m : List Cond} (hm : ∀ x,x ∈ m ↔ x ∈ E ∨ (∃ k,k < G.length ∧ gone.getD k false = false ∧ x = G.getD k dCond) ∨ (x ∈ l ∧ x.1 = 2)) : ¬ Void2 (MM (Lm l)) ∧ ∀ x,x ∈ m ↔ Fin2 (MM (Lm l)) x := by
  have hMk : ∀ c,MM (Lm l) c → c.1 = 0 → c ∈ G ∧ ¬ Opp (Lm l) c := fun c hc c0 => by
    rcases hc with ⟨h1,h2⟩ | ⟨d,hd,d0,_,rfl⟩
    · exact ⟨(hG c).2 ⟨h1,c0⟩,h2 c0⟩
    · have := (toEq_mk (hl d hd.1) d0).2
      omega
  have hgk : ∀ c,MM (Lm l) c → c.1 = 0 → ∃ k,k < G.length ∧ c = G.getD k dCond ∧ gone0.getD k false = false := fun c hc c0 => by
    obtain ⟨h1,h2⟩ := hMk c hc c0
    obtain ⟨k,hk,rfl⟩ := mem_getD (d := dCond) h1
    refine ⟨k,hk,rfl,?_⟩
    cases hb : gone0.getD k false with
    | false => rfl
    | true => exact absurd ((hp.gg k hk).1 hb) h2
  have hEi : ∀ e,MM (Lm l) e → e.1 = 1 → ∃ a,a < E.length ∧ e = E.getD a dCond := fun e he e1 => by
    obtain ⟨a,ha,h⟩ := mem_getD (d := dCond) ((hp.ee e).2 ⟨he,e1⟩)
    exact ⟨a,ha,h.symm⟩
  refine ⟨?_,fun x => ?_⟩
  · rintro (⟨e,f,he,hf,e1,f1,ef,hk⟩ | ⟨c,e,hc,he,c0,e1,hor⟩)
    · obtain ⟨a,ha,rfl⟩ := hEi e he e1
      obtain ⟨b,hb,rfl⟩ := hEi f hf f1
      exact hk (h.cc a b ha hb ef)
    · obtain ⟨a,ha,rfl⟩ := hEi e he e1
      obtain ⟨k,hk,rfl,hk0⟩ := hgk c hc c0
      have := h.nn k hk hk0 a ha
      rcases hor with ⟨h1,h2⟩ | ⟨h1,h2⟩
      · have := this.1 h1;omega
      · have := this.2 h1;omega
  · rw [hm]
    constructor
    · rintro (hx | ⟨k,hk,hg,rfl⟩ | ⟨hx,x2⟩)
      · obtain ⟨h1,h2⟩ := (hp.ee x).1 hx
        exact ⟨h1,fun h => by omega⟩
      · have h0 : ¬ (gone0.getD k false = true ∨ ∃ a,a < E.length ∧ sidesF (E.getD a dCond) (G.getD k dCond) ≠ 0) := fun h1 => by
          rw [(h.gg k hk).2 h1] at hg;cases hg
        rw [not_or] at h0
        have hgm := (hG _).1 (getD_memL (d := dCond) hk)
        refine ⟨.inl ⟨hgm.1,fun _ ho => h0.1 ((hp.gg k hk).2 ho)⟩,fun _ e he e1 => ?_⟩
        obtain ⟨a,ha,rfl⟩ := hEi e he e1
        have : sidesF (E.getD a dCond) (G.getD k dCond) = 0 := by
          rcases Decidable.em (sidesF (E.getD a dCond) (G.getD k dCond) = 0) with h1 | h1
          · exact h1
          · exact absurd ⟨a,ha,h1⟩ h0.2
        exact sides_zero.1 this
      · exact ⟨.inl ⟨(Lm_other (by omega)).2 hx,fun h => by omega⟩,fun h => by omega⟩
    · rintro ⟨hx,hx2⟩
      have hk3 : kind3 x.1 := by
        rcases hx with ⟨h1,_⟩ | ⟨d,hd,d0,_,rfl⟩
        · exact (hl x h1.1).2.1
        · exact .inr (.inl (toEq_mk (hl d hd.1) d0).2)
      rcases hk3 with x0 | x1 | x2
      · obtain ⟨k,hk,rfl,hk0⟩ := hgk x hx x0
        refine .inr (.inl ⟨k,hk,?_,rfl⟩)
        cases hb : gone.getD k false with
        | false => rfl
        | true =>
          rcases (h.gg k hk).1 hb with h1 | ⟨a,ha,h1⟩
          · rw [hk0] at h1;cases h1
          · obtain ⟨h2,h3⟩ := (hp.ee _).1 (getD_memL (d := dCond) ha)
            exact absurd (sides_zero.2 (hx2 x0 _ h2 h3)) h1
      · exact .inl ((hp.ee x).2 ⟨hx,x1⟩)
      · rcases hx with ⟨h1,_⟩ | ⟨d,hd,d0,_,rfl⟩
        · exact .inr (.inr ⟨h1.1,x2⟩)
        · have := (toEq_mk (hl d hd.1) d0).2
          omega
def partS (st : Bool × List Cond × List Cond × List Cond) (r : Cond) : Bool × List Cond × List Cond × List Cond :=
  (st.1 || !condValid r,if r.1 = 0 then (st.2.1 ++ [r],st.2.2.1,st.2.2.2) else if r.1 = 1 then (st.2.1,st.2.2.1 ++ [r],st.2.2.2) else (st.2.1,st.2.2.1,st.2.2.2 ++ [r]))
def pStep (st : Bool × List Cond × List Cond × List Cond) (c : Cond) : Option (Bool × List Cond × List Cond × List Cond) :=
  if (rawF c).2 < 0 then none else if (rawF c).2 = 0 then some (partS st (rawF c).1) else some st
theorem pStep_fold : ∀ (p : List Cond) (st : Bool × List Cond × List Cond × List Cond),p.foldlM pStep st = if rawVoid p then none else some ((rawL p).foldl partS st)
  | [],st => by simp [rawVoid,rawL]
  | c :: p,st => by
    rw [List.foldlM_cons]
    simp only [pStep,rawVoid,rawL,List.map_cons,List.any_cons]
    by_cases h : (rawF c).2 < 0
    · simp [h]
    · have ih : ∀ st,p.foldlM pStep st = if rawVoid p then none else some ((rawL p).foldl partS st) := pStep_fold p
      unfold rawVoid rawL at ih
      by_cases h2 : (rawF c).2 = 0
      · simp only [if_neg h,if_pos h2,Option.bind_eq_bind,Option.bind_some,ih,decide_eq_false h,Bool.false_or]
        simp [h2]
      · simp only [if_neg h,if_neg h2,Option.bind_eq_bind,Option.bind_some,ih,decide_eq_false h,Bool.false_or]
        simp [h2]
structure PartI (l : List Cond) (st : Bool × List Cond × List Cond × List Cond) : Prop where
  bad : st.1 = l.any fun c => !condValid c
  ge : ∀ x,x ∈ st.2.1 ↔ x ∈ l ∧ x.1 = 0
  eq : ∀ x,x ∈ st.2.2.1 ↔ x ∈ l ∧ x.1 = 1
  div : ∀ x,x ∈ st.2.2.2 ↔ x ∈ l ∧ x.1 ≠ 0 ∧ x.1 ≠ 1
  len : st.2.1.length + st.2.2.1.length + st.2.2.2.length = l.length
theorem partI_snoc {l : List Cond} {st : Bool × List Cond × List Cond × List Cond} {r : Cond} (h : PartI l st) : PartI (l ++ [r]) (partS st r) := by
  have hb : (partS st r).1 = (l ++ [r]).any fun c => !condValid c := by
    simp only [partS,h.bad,List.any_append,List.any_cons,List.any_nil,Bool.or_false]
  have hg := h.ge
  have hq := h.eq
  have hd := h.div
  have hl := h.len
  unfold partS at hb ⊢
  by_cases h0 : r.1 = 0
  · rw [if_pos h0] at hb ⊢
    refine ⟨hb,fun x => ?_,fun x => ?_,fun x => ?_,by simp only [List.length_append,List.length_cons,List.length_nil];omega⟩
    · simp only [List.mem_append,List.mem_singleton,hg]
      constructor
      · rintro (h | rfl)
        · exact ⟨.inl h.1,h.2⟩
        · exact ⟨.inr rfl,h0⟩
      · rintro ⟨h1 | h1,h2⟩
        · exact .inl ⟨h1,h2⟩
        · exact .inr h1
    · simp only [List.mem_append,List.mem_singleton,hq]
      constructor
      · intro h;exact ⟨.inl h.1,h.2⟩
      · rintro ⟨h1 | rfl,h2⟩
        · exact ⟨h1,h2⟩
        · omega
    · simp only [List.mem_append,List.mem_singleton,hd]
      constructor
      · intro h;exact ⟨.inl h.1,h.2⟩
      · rintro ⟨h1 | rfl,h2⟩
        · exact ⟨h1,h2⟩
        · exact absurd h0 h2.1
  · rw [if_neg h0] at hb ⊢
    by_cases h1 : r.1 = 1
    · rw [if_pos h1] at hb ⊢
      refine ⟨hb,fun x => ?_,fun x => ?_,fun x => ?_,by simp only [List.length_append,List.length_cons,List.length_nil];omega⟩
      · simp only [List.mem_append,List.mem_singleton,hg]
        constructor
        · intro h;exact ⟨.inl h.1,h.2⟩
        · rintro ⟨h1 | rfl,h2⟩
          · exact ⟨h1,h2⟩
          · exact absurd h2 h0
      · simp only [List.mem_append,List.mem_singleton,hq]
        constructor
        · rintro (h | rfl)
          · exact ⟨.inl h.1,h.2⟩
          · exact ⟨.inr rfl,h1⟩
        · rintro ⟨h3 | h3,h2⟩
          · exact .inl ⟨h3,h2⟩
          · exact .inr h3
      · simp only [List.mem_append,List.mem_singleton,hd]
        constructor
        · intro h;exact ⟨.inl h.1,h.2⟩
        · rintro ⟨h3 | rfl,h2⟩
          · exact ⟨h3,h2⟩
          · exact absurd h1 h2.2
    · rw [if_neg h1] at hb ⊢
      refine ⟨hb,fun x => ?_,fun x => ?_,fun x => ?_,by simp only [List.length_append,List.length_cons,List.length_nil];omega⟩
      · simp only [List.mem_append,List.mem_singleton,hg]
        constructor
        · intro h;exact ⟨.inl h.1,h.2⟩
        · rintro ⟨h1 | rfl,h2⟩
          · exact ⟨h1,h2⟩
          · exact absurd h2 h0
      · simp only [List.mem_append,List.mem_singleton,hq]
        constructor
        · intro h;exact ⟨.inl h.1,h.2⟩
        · rintro ⟨h3 | rfl,h2⟩
          · exact ⟨h3,h2⟩
          · exact absurd h2 h1
      · simp only [List.mem_append,List.mem_singleton,hd]
        constructor
        · rintro (h | rfl)
          · exact ⟨.inl h.1,h.2⟩
          · exact ⟨.inr rfl,h0,h1⟩
        · rintro ⟨h3 | h3,h2⟩
          · exact .inl ⟨h3,h2⟩
          · exact .inr h3
theorem partI_all (l : List Cond) : PartI l (l.foldl partS (false,[],[],[])) := by
  have key : ∀ k,k ≤ l.length → PartI (l.take k) ((l.take k).foldl partS (false,[],[],[])) := by
    intro k
    induction k with
    | zero => intro _;exact ⟨rfl,by simp,by simp,by simp,rfl⟩
    | succ k ih =>
      intro hk
      rw [take_succ_getD dCond (show k < l.length by omega),List.foldl_append]
      exact partI_snoc (ih (by omega))
  have := key l.length (Nat.le_refl _)
  rwa [List.take_length] at this
theorem sides_vals (a b : Cond) : sidesF a b = 1 ∨ sidesF a b = -1 ∨ sidesF a b = 0 := by
  unfold sidesF
  split
  · exact .inl rfl
  · split
    · exact .inr (.inl rfl)
    · exact .inr (.inr rfl)
theorem refMin_snoc (out : List Cond) (d c : Cond) : refMin (out ++ [d]) c = refMin out c ++ [if d.2.2.1 = c.2.2.1 then minK d c.2.2.2 else d] := by simp [refMin]
theorem refHas_snoc (out : List Cond) (d c : Cond) : refHas (out ++ [d]) c = (refHas out c || decide (d.2.2.1 = c.2.2.1)) := by simp [refHas]
theorem refMin_id {out : List Cond} {c : Cond} (h : refHas out c = false) : refMin out c = out := by
  unfold refMin
  conv => rhs;rw [← List.map_id out]
  refine List.map_congr_left fun d hd => ?_
  have := List.any_eq_false.1 h d hd
  simp only [decide_eq_true_eq] at this
  exact if_neg this
theorem refMin_len (out : List Cond) (c : Cond) : (refMin out c).length = out.length := by simp [refMin]
theorem bfalse {b : Bool} {p : Prop} (h : b = true ↔ p) (hp : ¬ p) : b = false := by
  cases b with
  | false => rfl
  | true => exact absurd (h.1 rfl) hp
theorem getD_mid {α : Type} {u out : List α} {d : α} {j : Nat} (h : u.length = j) : (u ++ out.drop j).getD j d = out.getD j d := by
  rw [List.getD_eq_getElem?_getD,List.getElem?_append_right (by omega),h,Nat.sub_self,List.getElem?_drop,Nat.add_zero,← List.getD_eq_getElem?_getD]
theorem len_mid {α : Type} {u out : List α} {j : Nat} (h : u.length = j) (hj : j ≤ out.length) : (u ++ out.drop j).length = out.length := by
  rw [List.length_append,List.length_drop,h];omega
theorem ref04_Piece.spec (p : List Cond) (hp : ref04_Piece.pre (p,())) : ref04_Piece.wp p (fun r => r = ref04_Piece.fn (p,())) := by
  obtain ⟨hpB,hdim⟩ : pieceD p := hp
  obtain ⟨n,hn,hd⟩ : ∃ n,n ≤ 1048576 ∧ dims p n := by
    cases p with
    | nil => exact ⟨0,by omega,by intro c hc;simp at hc⟩
    | cons c p =>
      obtain ⟨n,hd⟩ := hdim
      exact ⟨n,by have h1 := hd c (by simp);have h2 := (hpB.2 c (by simp)).2.1;omega,hd⟩
  have hl := hpB.1
  have hQ : ref04_Piece.fn (p,()) = tidyF p := rfl
  simp only [ref04_Piece.wp,hQ,ref03_Made.fn,ref03_Valid.fn,ref04_sides.fn,ref04_Sorted.fn]
  refine Lp.foldO p dCond pStep (false,[],[],[]) (by omega) ?_ ?_
  · rintro i ⟨bad,A,B,D⟩ R e e2 hf ht hR1 hR2
    have hb := hpB.2 _ (getD_memL (d := dCond) e)
    have hlen : A.length + B.length + D.length ≤ i := by
      rw [pStep_fold] at ht
      split at ht
      · cases ht
      · have := (partI_all (rawL (p.take i))).len
        rw [Option.some.inj ht] at this
        simp only at this
        have h3 := List.length_filter_le (fun r : Cond × Int => decide (r.2 = 0)) ((p.take i).map rawF)
        have h4 : (rawL (p.take i)).length ≤ (p.take i).length := by simp only [rawL,List.length_map] at *;omega
        rw [List.length_take] at h4
        omega
    simp only [decide_eq_true e2,Int.toNat_natCast,cond_true]
    refine ⟨⟨by omega,by omega⟩,hb,?_⟩
    have hst := rawF_state (p.getD i dCond)
    have hps : pStep (bad,A,B,D) (p.getD i dCond) = if (rawF (p.getD i dCond)).2 < 0 then none else if (rawF (p.getD i dCond)).2 = 0 then some (partS (bad,A,B,D) (rawF (p.getD i dCond)).1) else some (bad,A,B,D) := rfl
    rw [hps] at hR1 hR2
    generalize hr : rawF (p.getD i dCond) = r at *
    obtain ⟨r,s⟩ := r
    simp only at hst hR1 hR2
    rcases hst with rfl | rfl | rfl
    · simp only [show ((0 : Int) == -1) = false from rfl,show ((0 : Int) == 1) = false from rfl,cond_false]
      rw [if_neg (by omega),if_pos rfl] at hR1
      refine ⟨fun h => ⟨h,trivial⟩,fun h => ⟨h,trivial⟩,fun h => by rw [h];rfl,?_⟩
      by_cases h0 : r.1 = 0
      · have hpt : partS (bad,A,B,D) r = (bad || !condValid r,A ++ [r],B,D) := by simp [partS,h0]
        simp only [h0,beq_self_eq_true,cond_true]
        rw [hpt] at hR1
        refine ⟨⟨by simp;omega,by simp;omega⟩,hf,?_⟩
        have e0 : (((0 : Int),r.2.1,r.2.2) : Cond) = r := by rw [← h0]
        rw [e0]
        exact hR1 _ rfl
      · simp only [beq_eq_false_iff_ne.2 h0,cond_false]
        by_cases h1 : r.1 = 1
        · have hpt : partS (bad,A,B,D) r = (bad || !condValid r,A,B ++ [r],D) := by simp [partS,h1]
          simp only [h1,beq_self_eq_true,cond_true]
          rw [hpt] at hR1
          refine ⟨⟨by simp;omega,by simp;omega⟩,hf,?_⟩
          have e1 : (((1 : Int),r.2.1,r.2.2) : Cond) = r := by rw [← h1]
          rw [e1]
          exact hR1 _ rfl
        · have hpt : partS (bad,A,B,D) r = (bad || !condValid r,A,B,D ++ [r]) := by simp [partS,h0,h1]
          simp only [beq_eq_false_iff_ne.2 h1,cond_false]
          rw [hpt] at hR1
          exact ⟨⟨by simp;omega,by simp;omega⟩,hf,hR1 _ rfl⟩
    · simp only [show ((1 : Int) == -1) = false from rfl,beq_self_eq_true,cond_false,cond_true]
      exact ⟨hf,hR1 _ rfl⟩
    · simp only [beq_self_eq_true,cond_true]
      have := hR2 rfl
      rw [pStep_fold] at this
      rw [tidyF_eq]
      cases hv : rawVoid p with
      | true => rfl
      | false => rw [hv] at this;cases this
  rintro ⟨bad,A,B,D⟩ R hraws
  rw [pStep_fold] at hraws
  have hv : rawVoid p = false := by
    cases h : rawVoid p with
    | true => rw [h] at hraws;cases hraws
    | false => rfl
  rw [hv] at hraws
  simp only [Bool.false_eq_true,if_false,Option.some.injEq] at hraws
  have hpart := partI_all (rawL p)
  rw [hraws] at hpart
  clear hraws
  obtain ⟨hbad,hA,hB,hD,hlen⟩ := hpart
  simp only at hbad hA hB hD hlen
  obtain ⟨hs1,hs2⟩ := tidyF_sem hpB hd hv
  have hMk := rawL_Mk hpB hd
  have hlB := rawL_B hpB
  rw [← hbad] at hs2
  generalize rawL p = l at *
  generalize tidyF p = T at *
  have hll := hlB.1
  have hlm : ∀ c ∈ l,c.2.2.1.length = n ∧ intsB c.2.2.1 ∧ intB c.2.2.2 := fun c hc => ⟨(hMk c hc).1.1,linB_ints (hlB.2 c hc).2,(hlB.2 c hc).2.2.2⟩
  simp only [Int.lt_irrefl,decide_false,cond_false]
  have hAM : ∀ c ∈ A,Mk n c ∧ c.1 = 0 := fun c hc => ⟨hMk c ((hA c).1 hc).1,((hA c).1 hc).2⟩
  refine Lp.iter A.length (fun i y => ∃ out,y = ((i : Int),out) ∧ (∀ x,x ∈ out ↔ Lm (A.take i) x) ∧ out.length ≤ i) ⟨[],rfl,by simp [Lm],by simp⟩ ?_
  rintro i y hile ⟨out,rfl,hout,hol⟩ R hR
  by_cases e : i < A.length
  · have hcm := getD_memL (d := dCond) e
    have hts := take_succ_getD dCond e
    obtain ⟨hcM,hc0⟩ := hAM _ hcm
    have hcl := hlm _ ((hA _).1 hcm).1
    have hoA : ∀ d ∈ out,d.2.2.1.length = n := fun d hd => (hAM d (List.mem_of_mem_take ((hout d).1 hd).1)).1.1.1
    have hnew := refLeast_mem (fun d hd => hAM d (List.mem_of_mem_take hd)) hcM hc0 hout
    rw [← hts] at hnew
    simp only [decide_eq_true (show (i : Int) < (A.length : Int) by omega),Int.toNat_natCast,cond_true]
    refine ⟨⟨by omega,by omega⟩,e,?_⟩
    refine Lp.iter out.length (fun j y => y = ((j : Int),refHas (out.take j) (A.getD i dCond),refMin (out.take j) (A.getD i dCond) ++ out.drop j)) (by simp [refHas,refMin]) ?_
    rintro j y hjle rfl R' hR'
    have hml : (refMin (out.take j) (A.getD i dCond)).length = j := by rw [refMin_len];simp;omega
    by_cases e2 : j < out.length
    · have hts2 := take_succ_getD dCond e2
      have hget := getD_mid (d := dCond) (out := out) hml
      have hlen2 := len_mid (out := out) hml hjle
      have hdl := hoA _ (getD_memL (d := dCond) e2)
      simp only [decide_eq_true (show (j : Int) < (out.length : Int) by omega),Int.toNat_natCast,cond_true,hget,hlen2]
      refine ⟨⟨by omega,by omega⟩,e2,⟨hdl.trans hcl.1.symm,by show (out.getD j dCond).2.2.1.length ≤ _;omega,hcl.2.1⟩,?_⟩
      have hnext := hR' e2
      rw [hts2,refHas_snoc,refMin_snoc] at hnext
      by_cases h1 : (out.getD j dCond).2.2.1 = (A.getD i dCond).2.2.1
      · rw [sides_one.2 h1]
        rw [if_pos h1,decide_eq_true h1,Bool.or_true] at hnext
        refine ⟨⟨by omega,by omega⟩,e2,⟨by omega,by omega⟩,e2,⟨by omega,by omega⟩,hnext _ ?_⟩
        have hset : (refMin (out.take j) (A.getD i dCond) ++ out.drop j).set j (minK (out.getD j dCond) (A.getD i dCond).2.2.2) = refMin (out.take j) (A.getD i dCond) ++ [minK (out.getD j dCond) (A.getD i dCond).2.2.2] ++ out.drop (j + 1) := by
          rw [List.set_append_right _ _ (by omega),hml,Nat.sub_self,List.drop_eq_getElem_cons e2,List.set_cons_zero,List.append_assoc];rfl
        exact congrArg (fun z => ((j : Int) + 1,true,z)) hset
      · have hs0 : sidesF (out.getD j dCond) (A.getD i dCond) ≠ 1 := fun h => h1 (sides_one.1 h)
        rw [beq_eq_false_iff_ne.2 hs0]
        rw [if_neg h1,decide_eq_false h1,Bool.or_false] at hnext
        refine ⟨⟨by omega,by omega⟩,hnext _ ?_⟩
        rw [List.append_assoc,List.singleton_append,getD_eq e2,← List.drop_eq_getElem_cons e2]
        rfl
    · have : j = out.length := by omega
      subst this
      simp only [Int.lt_irrefl,decide_false,cond_false,List.take_length,List.drop_length,List.append_nil]
      unfold refLeast at hnew
      cases hh : refHas out (A.getD i dCond) with
      | true =>
        rw [hh] at hnew
        simp only [Bool.not_true,cond_false]
        refine ⟨⟨by omega,by omega⟩,hR e _ ⟨_,rfl,hnew,by rw [refMin_len];omega⟩⟩
      | false =>
        rw [hh] at hnew
        simp only [Bool.not_false,cond_true,refMin_id hh]
        exact ⟨⟨by simp;omega,by simp;omega⟩,⟨by omega,by omega⟩,hR e _ ⟨_,rfl,hnew,by simp;omega⟩⟩
  have hiA : i = A.length := by omega
  subst hiA
  clear hR hile e
  simp only [Int.lt_irrefl,decide_false,cond_false,Int.toNat_natCast]
  rw [List.take_length] at hout
  have hGm : ∀ x,x ∈ out ↔ Lm l x ∧ x.1 = 0 := fun x => by
    rw [hout]
    constructor
    · intro h
      have h0 : x.1 = 0 := ((hA x).1 h.1).2
      refine ⟨⟨((hA x).1 h.1).1,fun _ d hd hd0 hd1 => h.2 h0 d ((hA d).2 ⟨hd,hd0⟩) hd0 hd1⟩,h0⟩
    · rintro ⟨h,h0⟩
      exact ⟨(hA x).2 ⟨h.1,h0⟩,fun _ d hd hd0 hd1 => h.2 h0 d ((hA d).1 hd).1 hd0 hd1⟩
  clear hout
  generalize out = G at *
  have hGl : G.length ≤ 1048576 := by omega
  have hGi : ∀ k,k < G.length → Mk n (G.getD k dCond) ∧ (G.getD k dCond).1 = 0 ∧ Lm l (G.getD k dCond) ∧ (G.getD k dCond).2.2.1.length = n ∧ intsB (G.getD k dCond).2.2.1 ∧ intB (G.getD k dCond).2.2.2 ∧ condB (G.getD k dCond) := fun k hk => by
    have h1 := (hGm _).1 (getD_memL (d := dCond) hk)
    have h2 := hlm _ h1.1.1
    exact ⟨hMk _ h1.1.1,h1.2,h1.1,h2.1,h2.2.1,h2.2.2,hlB.2 _ h1.1.1⟩
  refine ⟨⟨by omega,by omega,by omega,by omega⟩,?_⟩
  have hNN : ∀ i,i ≤ G.length → i * G.length ≤ 1048576 * 1048576 := fun i hi => Nat.mul_le_mul (by omega) hGl
  refine Lp.iter G.length (fun i y => ∃ E gone,y = ((i : Int),E,gone) ∧ PairI G B i (i + 1) E gone ∧ E.length ≤ B.length + i * G.length) ⟨B,_,rfl,PairI.nil G B,by simp⟩ ?_
  rintro i y hile ⟨E,gone,rfl,hI,hEl⟩ R hR
  by_cases e : i < G.length
  · obtain ⟨hiM,hi0,hiL,hin,hii,hik,hib⟩ := hGi i e
    simp only [decide_eq_true (show (i : Int) < (G.length : Int) by omega),Int.toNat_natCast,cond_true]
    refine ⟨⟨by omega,by omega⟩,e,⟨by omega,by omega⟩,?_⟩
    refine Lp.iter (G.length - (i + 1)) (fun m y => ∃ E' gone',y = ((i : Int) + 1 + m,E',gone') ∧ PairI G B i (i + 1 + m) E' gone' ∧ E'.length ≤ B.length + i * G.length + m) ⟨E,gone,by simp,hI,by omega⟩ ?_
    rintro m y hmle ⟨E',gone',rfl,hI',hEl'⟩ R' hR'
    have hNi := hNN i (by omega)
    by_cases e2 : m < G.length - (i + 1)
    · have ej : i + 1 + m < G.length := by omega
      obtain ⟨hjM,hj0,hjL,hjn,hji,hjk,hjb⟩ := hGi (i + 1 + m) ej
      have htn : ((i : Int) + 1 + m).toNat = i + 1 + m := by omega
      have hgl := hI'.gl
      simp only [decide_eq_true (show (i : Int) + 1 + m < (G.length : Int) by omega),htn,cond_true]
      unfold intB at hik hjk
      refine ⟨⟨by omega,by omega⟩,ej,⟨hin.trans hjn.symm,by show (G.getD i dCond).2.2.1.length ≤ _;omega,hji⟩,?_⟩
      by_cases hs : sidesF (G.getD i dCond) (G.getD (i + 1 + m) dCond) = -1
      · simp only [hs,bne_self_eq_false,cond_false]
        refine ⟨⟨by omega,by omega⟩,?_⟩
        have hvoid : (G.getD i dCond).2.2.2 + (G.getD (i + 1 + m) dCond).2.2.2 < 0 → T = ([],true,0) := fun h => hs1 (.inl ⟨_,_,hiL,hjL,hi0,hj0,(sides_neg (hiM.gcd hi0)).1 hs,h⟩)
        by_cases h1 : (G.getD i dCond).2.2.2 + (G.getD (i + 1 + m) dCond).2.2.2 < 0
        · simp only [decide_eq_true h1,cond_true]
          exact (hvoid h1).symm
        · simp only [decide_eq_false h1,cond_false]
          refine ⟨⟨by omega,by omega⟩,?_⟩
          by_cases h2 : (G.getD i dCond).2.2.2 + (G.getD (i + 1 + m) dCond).2.2.2 = 0
          · simp only [h2,beq_self_eq_true,cond_true]
            have hput := hI'.put (by omega) ej ⟨hs,h2⟩
            refine ⟨⟨by omega,by omega⟩,by omega,⟨by omega,by simp;omega⟩,by simp;omega,⟨.inr (.inl rfl),hib.2⟩,⟨by simp;omega,by simp;omega⟩,⟨by omega,by omega⟩,hR' e2 _ ⟨_,_,?_,hput,by simp;omega⟩⟩
            exact congrArg (fun z : Int => (z,E' ++ [toEq (G.getD i dCond)],(gone'.set i true).set (i + 1 + m) true)) (by omega)
          · simp only [beq_eq_false_iff_ne.2 h2,cond_false]
            have hskip := hI'.skip (by omega) ej fun _ => by omega
            refine ⟨⟨by omega,by omega⟩,hR' e2 _ ⟨_,_,?_,hskip,by omega⟩⟩
            exact congrArg (fun z : Int => (z,E',gone')) (by omega)
      · simp only [bne_iff_ne.2 hs,cond_true]
        have hskip := hI'.skip (by omega) ej fun h => absurd h hs
        refine ⟨⟨by omega,by omega⟩,hR' e2 _ ⟨_,_,?_,hskip,by omega⟩⟩
        exact congrArg (fun z : Int => (z,E',gone')) (by omega)
    · have hm : i + 1 + m = G.length := by omega
      rw [hm] at hI'
      simp only [decide_eq_false (show ¬ (i : Int) + 1 + m < (G.length : Int) by omega),cond_false]
      refine ⟨⟨by omega,by omega⟩,hR e _ ⟨_,_,rfl,hI'.row,?_⟩⟩
      rw [Nat.succ_mul];omega
  have hiG : i = G.length := by omega
  subst hiG
  clear hR hile e
  simp only [Int.lt_irrefl,decide_false,cond_false,Int.toNat_natCast]
  have hP := hI.done hMk hGm hB
  have hNi := hNN G.length (Nat.le_refl _)
  have hEB : E.length ≤ 1048576 + 1099511627776 := by omega
  clear hI hEl
  have hEi : ∀ k,k < E.length → Mk n (E.getD k dCond) ∧ (E.getD k dCond).1 = 1 ∧ MM (Lm l) (E.getD k dCond) ∧ (E.getD k dCond).2.2.1.length = n ∧ intsB (E.getD k dCond).2.2.1 ∧ intB (E.getD k dCond).2.2.2 := fun k hk => by
    have h1 := (hP.ee _).1 (getD_memL (d := dCond) hk)
    have h3 : Mk n (E.getD k dCond) ∧ condB (E.getD k dCond) := by
      rcases h1.1 with ⟨h2,_⟩ | ⟨c,hc,c0,_,h2⟩
      · exact ⟨hMk _ h2.1,hlB.2 _ h2.1⟩
      · rw [h2];exact ⟨(toEq_mk (hMk c hc.1) c0).1,eqF_B (hlB.2 c hc.1).2⟩
    exact ⟨h3.1,h1.2,h1.1,h3.1.1.1,linB_ints h3.2.2,h3.2.2.2.2⟩
  refine Lp.iter E.length (fun i y => ∃ gone',y = ((i : Int),gone') ∧ EqI G E gone i gone') ⟨gone,rfl,EqI.nil hP.gl⟩ ?_
  rintro i y hile ⟨gone1,rfl,hI⟩ R hR
  by_cases e : i < E.length
  · obtain ⟨hiM,hi1,hiL,hin,hii,hik⟩ := hEi i e
    have hgl := hI.gl
    simp only [decide_eq_true (show (i : Int) < (E.length : Int) by omega),Int.toNat_natCast,cond_true]
    refine ⟨⟨by omega,by omega⟩,e,⟨by omega,by omega⟩,?_⟩
    refine Lp.iter i (fun j y => y = (j : Int) ∧ ∀ a,a < j → (E.getD i dCond).2.2.1 = (E.getD a dCond).2.2.1 → (E.getD i dCond).2.2.2 = (E.getD a dCond).2.2.2) ⟨rfl,fun a ha => absurd ha (by omega)⟩ ?_
    rintro j y hjle ⟨rfl,hj⟩ R2 hR2
    by_cases e2 : j < i
    · obtain ⟨hjM,hj1,hjL,hjn,hji,hjk⟩ := hEi j (by omega)
      simp only [decide_eq_true (show (j : Int) < (i : Int) by omega),Int.toNat_natCast,cond_true,Nat.zero_add]
      refine ⟨⟨by omega,by omega,by omega⟩,by omega,⟨hin.trans hjn.symm,by show (E.getD i dCond).2.2.1.length ≤ _;omega,hji⟩,fun h => ⟨h,trivial⟩,fun h => ⟨h,trivial⟩,fun h => ⟨h,trivial⟩,fun h => ⟨h,trivial⟩,fun h => ⟨h,h,trivial⟩,fun h => h,?_⟩
      by_cases hs : (E.getD i dCond).2.2.1 = (E.getD j dCond).2.2.1
      · rw [sides_one.2 hs]
        by_cases hk : (E.getD i dCond).2.2.2 = (E.getD j dCond).2.2.2
        · simp only [hk,bne_self_eq_false,Bool.and_false,cond_false]
          refine ⟨⟨by omega,by omega⟩,hR2 e2 _ ⟨rfl,fun a ha h => ?_⟩⟩
          by_cases haj : a = j
          · subst haj;exact hk
          · exact hj a (by omega) h
        · simp only [bne_iff_ne.2 hk,beq_self_eq_true,Bool.and_true,cond_true]
          exact (hs1 (.inr (.inl ⟨_,_,hiL,hjL,hi1,hj1,hs,hk⟩))).symm
      · have hs0 : sidesF (E.getD i dCond) (E.getD j dCond) ≠ 1 := fun h => hs (sides_one.1 h)
        simp only [beq_eq_false_iff_ne.2 hs0,Bool.false_and,cond_false]
        refine ⟨⟨by omega,by omega⟩,hR2 e2 _ ⟨rfl,fun a ha h => ?_⟩⟩
        by_cases haj : a = j
        · subst haj;exact absurd h hs
        · exact hj a (by omega) h
    · have hji : j = i := by omega
      subst hji
      simp only [Int.lt_irrefl,decide_false,cond_false]
      refine Lp.iter G.length (fun k y => ∃ gone',y = ((k : Int),gone') ∧ EqR G E gone j k gone1 gone') ⟨gone1,rfl,EqR.nil hgl⟩ ?_
      rintro k y hkle ⟨gone',rfl,hr⟩ R3 hR3
      have hgl' := hr.gl
      by_cases e3 : k < G.length
      · obtain ⟨hkM,hk0,hkL,hkn,hki,hkk,hkb⟩ := hGi k e3
        simp only [decide_eq_true (show (k : Int) < (G.length : Int) by omega),Int.toNat_natCast,cond_true]
        refine ⟨⟨by omega,by omega⟩,e3,⟨by omega,by omega⟩,by omega,fun h => ⟨h,h,⟨hin.trans hkn.symm,by show (E.getD j dCond).2.2.1.length ≤ _;omega,hki⟩⟩,fun h => ⟨h,trivial⟩,fun h => by rw [h];rfl,?_⟩
        have hEM : ∀ a,a ≤ j → Mk n (E.getD a dCond) ∧ (E.getD a dCond).1 = 1 := fun a ha => ⟨(hEi a (by omega)).1,(hEi a (by omega)).2.1⟩
        by_cases hskip : gone'.getD k false = true ∨ sidesF (E.getD j dCond) (G.getD k dCond) = 0
        · have hb : (gone'.getD k false || (sidesF (E.getD j dCond) (G.getD k dCond) == 0)) = true := by
            rcases hskip with h | h
            · rw [h,Bool.true_or]
            · rw [h,beq_self_eq_true,Bool.or_true]
          rw [hb]
          exact ⟨⟨by omega,by omega⟩,hR3 e3 _ ⟨_,rfl,EqR.skip hEM hI hj hr e3 hskip⟩⟩
        · rw [not_or] at hskip
          have hg0 : gone'.getD k false = false := by simpa using hskip.1
          simp only [hg0,beq_eq_false_iff_ne.2 hskip.2,Bool.or_self,cond_false]
          unfold intB at hik hkk
          have hsv := sides_vals (E.getD j dCond) (G.getD k dCond)
          have hmul : ∀ s : Int,(s = 1 ∨ s = -1 ∨ s = 0) → fits .i64 (s * (E.getD j dCond).2.2.2) ∧ fits .i64 ((G.getD k dCond).2.2.2 - s * (E.getD j dCond).2.2.2) := fun s hs => by
            rcases hs with rfl | rfl | rfl
            · exact ⟨⟨by omega,by omega⟩,⟨by omega,by omega⟩⟩
            · exact ⟨⟨by omega,by omega⟩,⟨by omega,by omega⟩⟩
            · exact ⟨⟨by omega,by omega⟩,⟨by omega,by omega⟩⟩
          refine ⟨⟨hin.trans hkn.symm,by show (E.getD j dCond).2.2.1.length ≤ _;omega,hki⟩,(hmul _ hsv).1,(hmul _ hsv).2,?_⟩
          have hng : gone.getD k false = false ∧ ∀ a,a < j → sidesF (E.getD a dCond) (G.getD k dCond) = 0 := by
            have h1 : ¬ (gone1.getD k false = true) := fun h => by
              have := (hr.gg k e3).2 (.inl h)
              rw [hg0] at this;cases this
            have h2 : ¬ (gone.getD k false = true ∨ ∃ a,a < j ∧ sidesF (E.getD a dCond) (G.getD k dCond) ≠ 0) := fun h => h1 ((hI.gg k e3).2 h)
            rw [not_or] at h2
            refine ⟨by simpa using h2.1,fun a ha => ?_⟩
            rcases Decidable.em (sidesF (E.getD a dCond) (G.getD k dCond) = 0) with h3 | h3
            · exact h3
            · exact absurd ⟨a,ha,h3⟩ h2.2
          have hkMM : MM (Lm l) (G.getD k dCond) := .inl ⟨hkL,fun _ ho => by
            have := (hP.gg k e3).2 ho
            rw [hng.1] at this;cases this⟩
          by_cases hneg : (G.getD k dCond).2.2.2 - sidesF (E.getD j dCond) (G.getD k dCond) * (E.getD j dCond).2.2.2 < 0
          · simp only [decide_eq_true hneg,cond_true]
            refine (hs1 (.inr (.inr ⟨_,_,hkMM,hiL,hk0,hi1,?_⟩))).symm
            rcases hsv with h1 | h1 | h1
            · rw [h1] at hneg
              exact .inl ⟨sides_one.1 h1,by omega⟩
            · rw [h1] at hneg
              have h2 := (sides_neg (hiM.1.2.1 (by omega))).1 h1
              exact .inr ⟨by rw [h2,negC_negC],by omega⟩
            · exact absurd h1 hskip.2
          · simp only [decide_eq_false hneg,cond_false]
            exact ⟨⟨by omega,by omega⟩,by omega,⟨by omega,by omega⟩,hR3 e3 _ ⟨_,rfl,hr.put e3 hskip.2 (by omega) (hiM.1.2.1 (by omega))⟩⟩
      · have hkG : k = G.length := by omega
        subst hkG
        simp only [Int.lt_irrefl,decide_false,cond_false]
        exact ⟨⟨by omega,by omega⟩,hR e _ ⟨_,rfl,hI.row hj hr⟩⟩
  have hiE : i = E.length := by omega
  subst hiE
  clear hR hile e
  simp only [Int.lt_irrefl,decide_false,cond_false]
  have hgl := hI.gl
  refine Lp.iter G.length (fun i y => ∃ out,y = ((i : Int),out) ∧ (∀ x,x ∈ out ↔ x ∈ E ∨ ∃ k,k < i ∧ gone1.getD k false = false ∧ x = G.getD k dCond) ∧ out.length ≤ E.length + i) ⟨E,rfl,fun x => ⟨.inl,fun h => h.elim id fun ⟨k,hk,_⟩ => absurd hk (by omega)⟩,by omega⟩ ?_
  rintro i y hile ⟨out,rfl,hout,hol⟩ R hR
  by_cases e : i < G.length
  · simp only [decide_eq_true (show (i : Int) < (G.length : Int) by omega),Int.toNat_natCast,cond_true]
    refine ⟨⟨by omega,by omega⟩,e,⟨by omega,by omega⟩,by omega,?_⟩
    cases hg : gone1.getD i false with
    | false =>
      simp only [Bool.not_false,cond_true]
      refine ⟨⟨by simp;omega,by simp;omega⟩,⟨by omega,by omega⟩,hR e _ ⟨_,rfl,fun x => ?_,by simp;omega⟩⟩
      rw [List.mem_append,List.mem_singleton,hout,or_assoc]
      refine or_congr Iff.rfl ⟨?_,?_⟩
      · rintro (⟨k,hk,h⟩ | rfl)
        · exact ⟨k,by omega,h⟩
        · exact ⟨i,by omega,hg,rfl⟩
      · rintro ⟨k,hk,h1,h2⟩
        rcases Nat.lt_or_ge k i with h3 | h3
        · exact .inl ⟨k,h3,h1,h2⟩
        · have : k = i := by omega
          subst this
          exact .inr h2
    | true =>
      simp only [Bool.not_true,cond_false]
      refine ⟨⟨by omega,by omega⟩,hR e _ ⟨_,rfl,fun x => ?_,by omega⟩⟩
      rw [hout]
      refine or_congr Iff.rfl ⟨?_,?_⟩
      · rintro ⟨k,hk,h⟩
        exact ⟨k,by omega,h⟩
      · rintro ⟨k,hk,h1,h2⟩
        rcases Nat.lt_or_ge k i with h3 | h3
        · exact ⟨k,h3,h1,h2⟩
        · have : k = i := by omega
          subst this
          rw [hg] at h1;cases h1
  have hiG : i = G.length := by omega
  subst hiG
  simp only [Int.lt_irrefl,decide_false,cond_false]
  have hmem : ∀ x,x ∈ out ++ D ↔ x ∈ E ∨ (∃ k,k < G.length ∧ gone1.getD k false = false ∧ x = G.getD k dCond) ∨ (x ∈ l ∧ x.1 = 2) := fun x => by
    rw [List.mem_append,hout,or_assoc]
    refine or_congr Iff.rfl (or_congr Iff.rfl ?_)
    rw [hD]
    constructor
    · rintro ⟨h1,h2,h3⟩
      rcases (hMk x h1).2.1 with h | h | h
      · exact absurd h h2
      · exact absurd h h3
      · exact ⟨h1,h⟩
    · rintro ⟨h1,h2⟩;exact ⟨h1,by omega,by omega⟩
  obtain ⟨hnv2,hfin⟩ := hI.done hMk hGm hP hmem
  have hT := hs2 hP.nv hnv2 _ hfin
  have hdims : dims (out ++ D) n := fun x hx => by
    rcases (hmem x).1 hx with h | ⟨k,hk,_,rfl⟩ | ⟨h,_⟩
    · obtain ⟨k,hk,rfl⟩ := mem_getD (d := dCond) h
      exact (hEi k hk).2.2.2.1
    · exact (hGi k hk).2.2.2.1
    · exact (hlm x h).1
  refine ⟨⟨by omega,by omega⟩,⟨by show (out ++ D).length ≤ _;simp only [List.length_append];omega,n,hn,hdims⟩,fun h => ⟨h,trivial⟩,fun h => ⟨h,trivial⟩,fun h => by rw [h];rfl,?_⟩
  rw [hT]
  have e1 : decide ((96 : Int) < ((sortU (out ++ D)).length : Int)) = decide (96 < (sortU (out ++ D)).length) := decide_eq_decide.2 (by omega)
  rw [e1]
  cases (bad || decide (96 < (sortU (out ++ D)).length)) <;> rfl
theorem wrap_small {n : Int} (h1 : -9223372036854775808 ≤ n) (h2 : n ≤ 9223372036854775807) : IntKind.wrap .i64 n = n := by
  simp [IntKind.wrap,IntKind.bits,IntKind.signed]
  omega
theorem fewSum_snoc (l : List PSet) (s : PSet) : fewSum (l ++ [s]) = IntKind.wrap .i64 (fewSum l + (s.2.length : Int)) := by simp [fewSum]
theorem law04_Few.spec (n m : Int) (l : List PSet) (hl : l.length ≤ 9223372036854775807) (hs : ∀ s ∈ l,s.2.length ≤ 9223372036854775807) : law04_Few.wp n m l (fun r => r = law04_Few.fn (n,m,l,())) := by
  have hfn : law04_Few.fn (n,m,l,()) = (fewLen m l && decide (fewSum l ≤ n)) := rfl
  simp only [law04_Few.wp,hfn]
  refine Lp.iter l.length (fun i y => y = ((i : Int),fewSum (l.take i)) ∧ fewLen m (l.take i) = true) ⟨rfl,rfl⟩ ?_
  rintro i y hle ⟨rfl,hf⟩ R hR
  by_cases e : i < l.length
  · have hts := take_succ_getD ((0,[]) : PSet) e
    have hsl := hs _ (getD_memL (d := ((0,[]) : PSet)) e)
    simp only [decide_eq_true (show (i : Int) < (l.length : Int) by omega),Int.toNat_natCast,cond_true]
    refine ⟨⟨by omega,by omega⟩,?_⟩
    have hall : fewLen m l = true → ∀ p ∈ (l.getD i (0,[])).2,(p.length : Int) ≤ m := fun h p hp => by
      have := List.all_eq_true.1 h _ (getD_memL (d := ((0,[]) : PSet)) e)
      have := List.all_eq_true.1 this p hp
      simpa using this
    refine Lp.iter (l.getD i (0,[])).2.length (fun j y => y = (j : Int) ∧ ∀ k,k < j → ((((l.getD i (0,[])).2.getD k []).length : Nat) : Int) ≤ m) ⟨rfl,fun k hk => absurd hk (by omega)⟩ ?_
    rintro j y hjle ⟨rfl,hj⟩ R' hR'
    by_cases e2 : j < (l.getD i (0,[])).2.length
    · simp only [decide_eq_true (show (j : Int) < ((l.getD i (0,[])).2.length : Int) by omega),Int.toNat_natCast,cond_true]
      refine ⟨⟨by omega,by omega⟩,?_⟩
      by_cases h1 : m < ((((l.getD i (0,[])).2.getD j []).length : Nat) : Int)
      · simp only [decide_eq_true h1,cond_true]
        cases hfl : fewLen m l with
        | false => rfl
        | true => have := hall hfl _ (getD_memL (d := []) e2);omega
      · simp only [decide_eq_false h1,cond_false]
        rw [wrap_small (by omega) (by omega)]
        refine hR' e2 _ ⟨rfl,fun k hk => ?_⟩
        by_cases hkj : k = j
        · subst hkj;omega
        · exact hj k (by omega)
    · have : j = (l.getD i (0,[])).2.length := by omega
      subst this
      simp only [Int.lt_irrefl,decide_false,cond_false]
      rw [wrap_small (n := (i : Int) + 1) (by omega) (by omega)]
      refine hR e _ ⟨?_,?_⟩
      · rw [hts,fewSum_snoc];rfl
      · rw [hts]
        unfold fewLen at hf ⊢
        rw [List.all_append,hf]
        simp only [List.all_cons,List.all_nil,Bool.and_true,Bool.true_and,List.all_eq_true,decide_eq_true_eq]
        intro p hp
        obtain ⟨k,hk,rfl⟩ := mem_getD (d := []) hp
        exact hj k hk
  · have : i = l.length := by omega
    subst this
    rw [List.take_length] at hf ⊢
    simp only [Int.lt_irrefl,decide_false,cond_false,hf,Bool.true_and]
theorem awake1 : minusF (1,[[(0,0,[1],0),(0,0,[-1],5)]]) (1,[[(0,0,[1],-2),(0,0,[-1],3)]]) = ((1,[[(0,0,[-1],5),(0,0,[1],-4)],[(0,0,[-1],1),(0,0,[1],0)]]),0) := by kernel_rfl
theorem awake2 : normF (1,[[(0,0,[1],-3),(0,0,[-1],3)]]) = ((1,[[(1,0,[1],-3)]]),0) := by kernel_rfl
theorem law04_awake.spec : law04_awake.wp (fun r => r = law04_awake.fn ()) := by
  simp only [law04_awake.wp,set_Minus.fn,set_Normal.fn,law04_at.fn,ref04_Same.fn,awake1,awake2]
  simp
theorem is_refl (a : PSet × Int) : law04_is.fn (a.1,a.2,a.1,a.2,()) = true := by simp [law04_is.fn]
theorem law04_SetNormal.spec (x : PSet) : law04_SetNormal.wp x (fun r => r = true) := by
  simp only [law04_SetNormal.wp,set_Normal.fn,ref04_Normal.fn,is_refl,law04_awake.fn]
  cases law04_Few.fn _ <;> simp
theorem law04_SetMinus.spec (x y : PSet) : law04_SetMinus.wp x y (fun r => r = true) := by
  simp only [law04_SetMinus.wp,set_Minus.fn,ref04_Minus.fn,is_refl,law04_awake.fn]
  cases law04_Few.fn _ <;> simp
theorem law04_SetSimple.spec (p : List Cond) (n : Int) : law04_SetSimple.wp p n (fun r => r = true) := by
  simp only [law04_SetSimple.wp,set_Simple.fn,ref04_Simple.fn,ref04_SamePiece.fn,law04_awake.fn]
  cases decide (500 < ((p.length : Nat) : Int)) <;> simp
theorem law04_SetJoins.spec (x y : PSet) : law04_SetJoins.wp x y (fun r => r = true) := by
  simp only [law04_SetJoins.wp,set_Union.fn,ref04_Union.fn,set_Meet.fn,ref04_Meet.fn,is_refl,law04_awake.fn]
  cases law04_Few.fn _ <;> simp
theorem law04_SetHas.spec (x : PSet) (p : List Int) : law04_SetHas.wp x p (fun r => r = true) := by
  simp only [law04_SetHas.wp,set_Has.fn,ref04_Has.fn,law04_awake.fn]
  cases law04_Few.fn _ <;> simp
theorem ref04_Valid.spec (x : PSet) (hl : x.2.length ≤ 9223372036854775807) : ref04_Valid.wp x (fun r => r = ref04_Valid.fn (x,())) := by
  obtain ⟨n,ps⟩ := x
  simp only [ref04_Valid.wp,ref04_Valid.fn,ref03_Valid.fn]
  have hg : ∀ b : Bool,(b = true → b = true ∧ True) := fun b h => ⟨h,trivial⟩
  have hn : ∀ b : Bool,(b = false → (!b) = true) := fun b h => by rw [h];rfl
  refine ⟨hg _,hg _,hn _,hg _,hg _,hg _,hn _,?_⟩
  by_cases h1 : n < 0
  · simp [h1,setValid,show ¬ 0 ≤ n by omega]
  by_cases h2 : 12 < n
  · simp [h1,h2,setValid,show ¬ n ≤ 12 by omega]
  by_cases h3 : (400 : Int) < (ps.length : Int)
  · simp only [decide_eq_true h3,Bool.or_true,cond_true]
    simp [setValid,show ¬ ((ps.length : Int) ≤ 400) by omega]
  rw [decide_eq_false h1,decide_eq_false h2,decide_eq_false h3]
  have hv : ∀ b,ps.all (fun p => decide ((p.length : Int) ≤ 96) && overF p n) = b → setValid (n,ps) = b := fun b h => by
    simp only [setValid,h]
    rw [decide_eq_true (show (0 : Int) ≤ n by omega),decide_eq_true (show n ≤ 12 by omega),decide_eq_true (show (ps.length : Int) ≤ 400 by omega)]
    rfl
  refine Lp.all ps [] (fun p => decide ((p.length : Int) ≤ 96) && overF p n) hl (fun i R hi hi' hf ht hff => ?_) (fun R h => ?_)
  · simp only [decide_eq_true hi',Int.toNat_natCast]
    refine ⟨⟨by omega,hi'⟩,?_⟩
    by_cases h4 : (96 : Int) < ((ps.getD i []).length : Int)
    · simp only [decide_eq_true h4,cond_true]
      exact (hv false (hff (by rw [decide_eq_false (show ¬ (((ps.getD i []).length : Int) ≤ 96) by omega)];rfl))).symm
    · simp only [decide_eq_false h4,cond_false]
      have h5 : decide (((ps.getD i []).length : Int) ≤ 96) = true := decide_eq_true (by omega)
      rw [h5,Bool.true_and] at ht hff
      refine Lp.all (ps.getD i []) dCond (fun c => condValid c && ((c.2.2.1.length : Int) == n)) (by omega) (fun j R' hj hj' hf' ht' hff' => ?_) (fun R' h' => ?_)
      · simp only [decide_eq_true hj',Int.toNat_natCast,cond_true]
        refine ⟨⟨by omega,by omega⟩,hg _,hg _,hg _,hg _,fun h => ⟨h,h,trivial⟩,fun h => by rw [h];rfl,?_⟩
        have hb : ((!condValid ((ps.getD i []).getD j dCond)) || ((((ps.getD i []).getD j dCond).2.2.1.length : Int) != n)) = !(condValid ((ps.getD i []).getD j dCond) && ((((ps.getD i []).getD j dCond).2.2.1.length : Int) == n)) := by
          rw [Bool.not_and];rfl
        rw [hb]
        by_cases h6 : (condValid ((ps.getD i []).getD j dCond) && ((((ps.getD i []).getD j dCond).2.2.1.length : Int) == n)) = true
        · have := ht' h6
          rw [h6]
          exact ⟨hf',this⟩
        · rw [Bool.not_eq_true] at h6
          have := hff' h6
          rw [h6]
          exact (hv false (hff this)).symm
      · simp only [Int.lt_irrefl,decide_false,cond_false]
        exact ⟨hf,ht h'⟩
  · simp only [Int.lt_irrefl,decide_false,cond_false]
    exact (hv true h).symm
def roomL (l : Lin) (i k : Int) : Lin := (l.1.take i.toNat ++ List.replicate k.toNat 0 ++ l.1.drop i.toNat,l.2)
def roomF (l : Lin) (i k : Int) : Lin × Int := if linValid l = false then (([],0),1) else if i < 0 ∨ (l.1.length : Int) < i ∨ k < 0 then (([],0),6) else if 12 - (l.1.length : Int) < k then (([],0),3) else (roomL l i k,0)
abbrev lin_Room.fn (x : Lin × Int × Int × Unit) : Lin × Int := roomF x.1 x.2.1 x.2.2.1
abbrev ref02_Room.fn (x : Lin × Int × Int × Unit) : Lin × Int := roomF x.1 x.2.1 x.2.2.1
abbrev set_Room_1.fn (x : Lin × Int × Int × Unit) : Lin := (roomF x.1 x.2.1 x.2.2.1).1
abbrev set_Room_1.pre (x : Lin × Int × Int × Unit) : Prop := True
def eachF (s : PSet) (n : Int) (f : Lin → Lin) : PSet := (n,s.2.map fun p => p.map fun c => (c.1,c.2.1,f c.2.2))
abbrev set_each.fn (x : PSet × Int × ((Lin → Prop) × (Lin → Lin)) × Unit) : PSet := eachF x.1 x.2.1 x.2.2.1.2
abbrev set_each.pre (x : PSet × Int × ((Lin → Prop) × (Lin → Lin)) × Unit) : Prop := x.1.2.length ≤ 400 ∧ ∀ p ∈ x.1.2,p.length ≤ 96 ∧ ∀ c ∈ p,x.2.2.1.1 c.2.2
def roomS (s : PSet) (i k : Int) : PSet × Int := if setValid s = false then ((0,[]),1) else if i < 0 ∨ s.1 < i ∨ k < 0 then ((0,[]),6) else if 12 - s.1 < k then ((0,[]),3) else (eachF s (s.1 + k) (fun l => (roomF l i k).1),0)
abbrev set_Room.fn (x : PSet × Int × Int × Unit) : PSet × Int := roomS x.1 x.2.1 x.2.2.1
abbrev ref04_Room.fn (x : PSet × Int × Int × Unit) : PSet × Int := roomS x.1 x.2.1 x.2.2.1
def permOk (n : Int) (l : List Int) : Bool := decide (∀ v ∈ l,0 ≤ v ∧ v < n) && decide l.Nodup
def turnL (l : List Int) (x : Lin) : Lin := (l.map fun v => x.1.getD v.toNat 0,x.2)
def turnS (s : PSet) (l : List Int) : PSet × Int := if setValid s = false then ((0,[]),1) else if (l.length : Int) ≠ s.1 then ((0,[]),2) else if permOk s.1 l = false then ((0,[]),6) else (eachF s s.1 (turnL l),0)
abbrev set_Turn_1.fn (x : Lin × List Int × Unit) : Lin := turnL x.2.1 x.1
abbrev set_Turn_1.pre (x : Lin × List Int × Unit) : Prop := x.1.1.length ≤ 12 ∧ x.2.1.length = x.1.1.length ∧ ∀ v ∈ x.2.1,0 ≤ v ∧ v < (x.1.1.length : Int)
abbrev set_Turn.fn (x : PSet × List Int × Unit) : PSet × Int := turnS x.1 x.2.1
abbrev ref04_Turn.fn (x : PSet × List Int × Unit) : PSet × Int := turnS x.1 x.2.1
set_option maxRecDepth 4000
def lin_Room.wp (x0 : Lin) (x1 : Int) (x2 : Int) (Q : Lin × Int → Prop) : Prop := let v0 := List.replicate (Int.toNat x2) (0 : Int);cond (!(lin_Valid.fn (x0,()))) (Q ((([] : List Int),(0 : Int)),(1 : Int))) (((!(decide (x1 < (0 : Int)))) = true → ((!(decide (x1 < (0 : Int)))) = true ∧ True)) ∧ (((!(decide (x1 < (0 : Int)))) = true → ((!(decide (x1 < (0 : Int)))) = true ∧ True)) ∧ (((!(decide (x1 < (0 : Int)))) = true → ((!(decide (x1 < (0 : Int)))) = true ∧ ((!(decide (x1 < (0 : Int)))) = true ∧ True))) ∧ ((decide (x1 < (0 : Int)) = false → (!(decide (x1 < (0 : Int)))) = true) ∧ (((!(decide (x1 < (0 : Int)) || decide (((List.length x0.1 : Nat) : Int) < x1))) = true → ((!(decide (x1 < (0 : Int)) || decide (((List.length x0.1 : Nat) : Int) < x1))) = true ∧ True)) ∧ (((decide (x1 < (0 : Int)) || decide (((List.length x0.1 : Nat) : Int) < x1)) = false → (!(decide (x1 < (0 : Int)) || decide (((List.length x0.1 : Nat) : Int) < x1))) = true) ∧ cond ((decide (x1 < (0 : Int)) || decide (((List.length x0.1 : Nat) : Int) < x1)) || decide (x2 < (0 : Int))) (Q ((([] : List Int),(0 : Int)),(6 : Int))) (fits IntKind.i64 ((12 : Int) - ((List.length x0.1 : Nat) : Int)) ∧ cond (decide (((12 : Int) - ((List.length x0.1 : Nat) : Int)) < x2)) (Q ((([] : List Int),(0 : Int)),(3 : Int))) ((List.length x0.1 * 8) ≤ 140737488355328 ∧ (((0 : Int) ≤ x2 ∧ (x2 ≤ x2 ∧ ((x2 * ((8 : Nat) : Int)) ≤ (140737488355328 : Int) ∧ x2 ≤ (9223372036854775807 : Int)))) ∧ (((0 : Int) ≤ x1 ∧ (x1 ≤ ((List.length x0.1 : Nat) : Int) ∧ ((List.length x0.1 + List.length v0) * 8) ≤ 140737488355328)) ∧ Q (((((List.take (Int.toNat x1) x0.1) ++ v0) ++ (List.drop (Int.toNat x1) x0.1)),x0.2),(0 : Int))))))))))))
def ref02_Room.wp (x0 : Lin) (x1 : Int) (x2 : Int) (Q : Lin × Int → Prop) : Prop := let v0 := List.take (Int.toNat x1) x0.1;let v1 := List.replicate (Int.toNat x2) (0 : Int);let v2 := List.length (v0 ++ v1);let v3 := List.drop (Int.toNat x1) x0.1;cond (!(ref02_Valid.fn (x0,()))) (Q ((([] : List Int),(0 : Int)),(1 : Int))) (((!(decide (x1 < (0 : Int)))) = true → ((!(decide (x1 < (0 : Int)))) = true ∧ True)) ∧ (((!(decide (x1 < (0 : Int)))) = true → ((!(decide (x1 < (0 : Int)))) = true ∧ True)) ∧ (((!(decide (x1 < (0 : Int)))) = true → ((!(decide (x1 < (0 : Int)))) = true ∧ ((!(decide (x1 < (0 : Int)))) = true ∧ True))) ∧ ((decide (x1 < (0 : Int)) = false → (!(decide (x1 < (0 : Int)))) = true) ∧ (((!(decide (x1 < (0 : Int)) || decide (((List.length x0.1 : Nat) : Int) < x1))) = true → ((!(decide (x1 < (0 : Int)) || decide (((List.length x0.1 : Nat) : Int) < x1))) = true ∧ True)) ∧ (((decide (x1 < (0 : Int)) || decide (((List.length x0.1 : Nat) : Int) < x1)) = false → (!(decide (x1 < (0 : Int)) || decide (((List.length x0.1 : Nat) : Int) < x1))) = true) ∧ cond ((decide (x1 < (0 : Int)) || decide (((List.length x0.1 : Nat) : Int) < x1)) || decide (x2 < (0 : Int))) (Q ((([] : List Int),(0 : Int)),(6 : Int))) (fits IntKind.i64 ((12 : Int) - ((List.length x0.1 : Nat) : Int)) ∧ cond (decide (((12 : Int) - ((List.length x0.1 : Nat) : Int)) < x2)) (Q ((([] : List Int),(0 : Int)),(3 : Int))) (((0 : Int) ≤ x1 ∧ x1 ≤ ((List.length x0.1 : Nat) : Int)) ∧ (((List.length v0 * 8) ≤ 140737488355328 ∧ List.length v0 ≤ 9223372036854775807) ∧ (((0 : Int) ≤ x2 ∧ (((List.length v0 + Int.toNat x2) * 8) ≤ 140737488355328 ∧ (List.length v0 + Int.toNat x2) ≤ 9223372036854775807)) ∧ (((0 : Int) ≤ x1 ∧ x1 ≤ ((List.length x0.1 : Nat) : Int)) ∧ ((((v2 + List.length v3) * 8) ≤ 140737488355328 ∧ (v2 + List.length v3) ≤ 9223372036854775807) ∧ Q ((((v0 ++ v1) ++ v3),x0.2),(0 : Int))))))))))))))
def set_Room_1.wp (x0 : Lin) (x1 : Int) (x2 : Int) (Q : Lin → Prop) : Prop := Q (lin_Room.fn (x0,(x1,(x2,())))).1
def set_each.wp (x0 : Int × (List (List Cond))) (x1 : Int) (x2 : (Lin → Prop) × (Lin → Lin)) (Q : (Int × (List (List Cond))) → Prop) : Prop := (((0 : Int) ≤ ((List.length x0.2 : Nat) : Int) ∧ (((List.length x0.2 : Nat) : Int) ≤ ((List.length x0.2 : Nat) : Int) ∧ ((((List.length x0.2 : Nat) : Int) * ((24 : Nat) : Int)) ≤ (140737488355328 : Int) ∧ ((List.length x0.2 : Nat) : Int) ≤ (9223372036854775807 : Int)))) ∧ Lp (σ := Int × (List (List (Cond))) × Nat) (fun y4 R4 => let v1 := List.getD x0.2 (Int.toNat y4.1) ([] : List (Cond));cond (decide (y4.1 < ((List.length x0.2 : Nat) : Int))) (((0 : Int) ≤ y4.1 ∧ y4.1 < ((List.length x0.2 : Nat) : Int)) ∧ (0 < y4.2.2 ∧ Lp (σ := Int × ((List (List (Cond))) × Nat) × List (Cond)) (fun y6 R6 => let v2 := List.getD v1 (Int.toNat y6.1) dCond;let v3 := [(v2.1,(v2.2.1,(x2.2 v2.2.2)))];cond (decide (y6.1 < ((List.length v1 : Nat) : Int))) (((0 : Int) ≤ y6.1 ∧ y6.1 < ((List.length v1 : Nat) : Int)) ∧ (((0 : Int) ≤ y4.1 ∧ y4.1 < ((((List.length y6.2.1.1 + 1) + y6.2.1.2) : Nat) : Int)) ∧ (Int.toNat y4.1 = List.length y6.2.1.1 ∧ (x2.1 v2.2.2 ∧ ((((List.length y6.2.2 + List.length v3) * 48) ≤ 140737488355328 ∧ (List.length y6.2.2 + List.length v3) ≤ 9223372036854775807) ∧ (((0 : Int) ≤ y4.1 ∧ y4.1 < ((((List.length y6.2.1.1 + 1) + y6.2.1.2) : Nat) : Int)) ∧ (Int.toNat y4.1 = List.length y6.2.1.1 ∧ (fits IntKind.i64 (y6.1 + (1 : Int)) ∧ R6 ((y6.1 + (1 : Int)),(y6.2.1,(y6.2.2 ++ v3))))))))))) (fits IntKind.i64 (y4.1 + (1 : Int)) ∧ R4 ((y4.1 + (1 : Int)),((y6.2.1.1 ++ [y6.2.2]),y6.2.1.2)))) ((0 : Int),((y4.2.1,(y4.2.2 - 1)),([] : List (Cond)))))) (Q (x1,(y4.2.1 ++ (List.replicate y4.2.2 ([] : List (Cond))))))) ((0 : Int),(([] : List (List (Cond))),(Int.toNat ((List.length x0.2 : Nat) : Int)))))
def set_Room.wp (x0 : Int × (List (List Cond))) (x1 : Int) (x2 : Int) (Q : (Int × (List (List Cond))) × Int → Prop) : Prop := cond (!(set_Valid.fn (x0,()))) (Q (((0 : Int),([] : List (List (Cond)))),(1 : Int))) (((!(decide (x1 < (0 : Int)))) = true → ((!(decide (x1 < (0 : Int)))) = true ∧ True)) ∧ (((!(decide (x1 < (0 : Int)))) = true → ((!(decide (x1 < (0 : Int)))) = true ∧ ((!(decide (x1 < (0 : Int)))) = true ∧ True))) ∧ ((decide (x1 < (0 : Int)) = false → (!(decide (x1 < (0 : Int)))) = true) ∧ (((!(decide (x1 < (0 : Int)) || decide (x0.1 < x1))) = true → ((!(decide (x1 < (0 : Int)) || decide (x0.1 < x1))) = true ∧ True)) ∧ (((decide (x1 < (0 : Int)) || decide (x0.1 < x1)) = false → (!(decide (x1 < (0 : Int)) || decide (x0.1 < x1))) = true) ∧ cond ((decide (x1 < (0 : Int)) || decide (x0.1 < x1)) || decide (x2 < (0 : Int))) (Q (((0 : Int),([] : List (List (Cond)))),(6 : Int))) (fits IntKind.i64 ((12 : Int) - x0.1) ∧ cond (decide (((12 : Int) - x0.1) < x2)) (Q (((0 : Int),([] : List (List (Cond)))),(3 : Int))) (fits IntKind.i64 (x0.1 + x2) ∧ (set_each.pre (x0,((x0.1 + x2),((fun (a4 : (List Int) × Int) => set_Room_1.pre (a4,(x1,(x2,()))),fun (a4 : (List Int) × Int) => (set_Room_1.fn (a4,(x1,(x2,()))))),()))) ∧ Q ((set_each.fn (x0,((x0.1 + x2),((fun (a4 : (List Int) × Int) => set_Room_1.pre (a4,(x1,(x2,()))),fun (a4 : (List Int) × Int) => (set_Room_1.fn (a4,(x1,(x2,()))))),())))),(0 : Int))))))))))
def set_Turn_1.wp (x0 : Lin) (x1 : List Int) (Q : Lin → Prop) : Prop := (((0 : Int) ≤ ((List.length x0.1 : Nat) : Int) ∧ (((List.length x0.1 : Nat) : Int) ≤ ((List.length x0.1 : Nat) : Int) ∧ ((((List.length x0.1 : Nat) : Int) * ((8 : Nat) : Int)) ≤ (140737488355328 : Int) ∧ ((List.length x0.1 : Nat) : Int) ≤ (9223372036854775807 : Int)))) ∧ Lp (σ := Int × List Int) (fun y3 R3 => let v2 := List.getD x1 (Int.toNat y3.1) (0 : Int);cond (decide (y3.1 < ((List.length x1 : Nat) : Int))) (((0 : Int) ≤ y3.1 ∧ y3.1 < ((List.length x1 : Nat) : Int)) ∧ (((0 : Int) ≤ v2 ∧ v2 < ((List.length x0.1 : Nat) : Int)) ∧ (((0 : Int) ≤ y3.1 ∧ y3.1 < ((List.length y3.2 : Nat) : Int)) ∧ (Int.toNat y3.1 < List.length y3.2 ∧ (fits IntKind.i64 (y3.1 + (1 : Int)) ∧ R3 ((y3.1 + (1 : Int)),(List.set y3.2 (Int.toNat y3.1) (List.getD x0.1 (Int.toNat v2) (0 : Int))))))))) (Q (y3.2,x0.2))) ((0 : Int),(List.replicate (Int.toNat ((List.length x0.1 : Nat) : Int)) (0 : Int))))
def set_Turn.wp (x0 : Int × (List (List Cond))) (x1 : List Int) (Q : (Int × (List (List Cond))) × Int → Prop) : Prop := cond (!(set_Valid.fn (x0,()))) (Q (((0 : Int),([] : List (List (Cond)))),(1 : Int))) (cond (((List.length x1 : Nat) : Int) != x0.1) (Q (((0 : Int),([] : List (List (Cond)))),(2 : Int))) (Lp (σ := Int × List Bool) (fun y3 R3 => let v0 := List.getD x1 (Int.toNat y3.1) (0 : Int);cond (decide (y3.1 < ((List.length x1 : Nat) : Int))) (((0 : Int) ≤ y3.1 ∧ y3.1 < ((List.length x1 : Nat) : Int)) ∧ (((!(decide (v0 < (0 : Int)))) = true → ((!(decide (v0 < (0 : Int)))) = true ∧ True)) ∧ (((!(decide (v0 < (0 : Int)))) = true → ((!(decide (v0 < (0 : Int)))) = true ∧ ((!(decide (v0 < (0 : Int)))) = true ∧ True))) ∧ ((decide (v0 < (0 : Int)) = false → (!(decide (v0 < (0 : Int)))) = true) ∧ (((!(decide (v0 < (0 : Int)) || decide (x0.1 ≤ v0))) = true → ((!(decide (v0 < (0 : Int)) || decide (x0.1 ≤ v0))) = true ∧ ((0 : Int) ≤ v0 ∧ v0 < ((12 : Nat) : Int)))) ∧ (((!(decide (v0 < (0 : Int)) || decide (x0.1 ≤ v0))) = true → ((!(decide (v0 < (0 : Int)) || decide (x0.1 ≤ v0))) = true ∧ Int.toNat v0 < List.length y3.2)) ∧ (((decide (v0 < (0 : Int)) || decide (x0.1 ≤ v0)) = false → (!(decide (v0 < (0 : Int)) || decide (x0.1 ≤ v0))) = true) ∧ cond ((decide (v0 < (0 : Int)) || decide (x0.1 ≤ v0)) || (List.getD y3.2 (Int.toNat v0) false)) (Q (((0 : Int),([] : List (List (Cond)))),(6 : Int))) (((0 : Int) ≤ v0 ∧ v0 < ((12 : Nat) : Int)) ∧ (Int.toNat v0 < List.length y3.2 ∧ (fits IntKind.i64 (y3.1 + (1 : Int)) ∧ R3 ((y3.1 + (1 : Int)),(List.set y3.2 (Int.toNat v0) true)))))))))))) (set_each.pre (x0,(x0.1,((fun (a5 : (List Int) × Int) => set_Turn_1.pre (a5,(x1,())),fun (a5 : (List Int) × Int) => (set_Turn_1.fn (a5,(x1,())))),()))) ∧ Q ((set_each.fn (x0,(x0.1,((fun (a5 : (List Int) × Int) => set_Turn_1.pre (a5,(x1,())),fun (a5 : (List Int) × Int) => (set_Turn_1.fn (a5,(x1,())))),())))),(0 : Int)))) ((0 : Int),List.replicate 12 false)))
def ref04_Room.wp (x0 : Int × (List (List Cond))) (x1 : Int) (x2 : Int) (Q : (Int × (List (List Cond))) × Int → Prop) : Prop := cond (!(ref04_Valid.fn (x0,()))) (Q (((0 : Int),([] : List (List (Cond)))),(1 : Int))) (((!(decide (x1 < (0 : Int)))) = true → ((!(decide (x1 < (0 : Int)))) = true ∧ True)) ∧ (((!(decide (x1 < (0 : Int)))) = true → ((!(decide (x1 < (0 : Int)))) = true ∧ ((!(decide (x1 < (0 : Int)))) = true ∧ True))) ∧ ((decide (x1 < (0 : Int)) = false → (!(decide (x1 < (0 : Int)))) = true) ∧ (((!(decide (x1 < (0 : Int)) || decide (x0.1 < x1))) = true → ((!(decide (x1 < (0 : Int)) || decide (x0.1 < x1))) = true ∧ True)) ∧ (((decide (x1 < (0 : Int)) || decide (x0.1 < x1)) = false → (!(decide (x1 < (0 : Int)) || decide (x0.1 < x1))) = true) ∧ cond ((decide (x1 < (0 : Int)) || decide (x0.1 < x1)) || decide (x2 < (0 : Int))) (Q (((0 : Int),([] : List (List (Cond)))),(6 : Int))) (fits IntKind.i64 ((12 : Int) - x0.1) ∧ cond (decide (((12 : Int) - x0.1) < x2)) (Q (((0 : Int),([] : List (List (Cond)))),(3 : Int))) (fits IntKind.i64 (x0.1 + x2) ∧ Lp (σ := Int × Int × List (List (Cond))) (fun y4 R4 => let v0 := List.getD x0.2 (Int.toNat y4.1) ([] : List (Cond));cond (decide (y4.1 < ((List.length x0.2 : Nat) : Int))) (((0 : Int) ≤ y4.1 ∧ y4.1 < ((List.length x0.2 : Nat) : Int)) ∧ Lp (σ := Int × List (Cond)) (fun y6 R6 => let v1 := List.getD v0 (Int.toNat y6.1) dCond;let v3 := [(v1.1,(v1.2.1,(ref02_Room.fn (v1.2.2,(x1,(x2,())))).1))];cond (decide (y6.1 < ((List.length v0 : Nat) : Int))) (((0 : Int) ≤ y6.1 ∧ y6.1 < ((List.length v0 : Nat) : Int)) ∧ ((((List.length y6.2 + List.length v3) * 48) ≤ 140737488355328 ∧ (List.length y6.2 + List.length v3) ≤ 9223372036854775807) ∧ (fits IntKind.i64 (y6.1 + (1 : Int)) ∧ R6 ((y6.1 + (1 : Int)),(y6.2 ++ v3))))) ((((List.length y4.2.2 + List.length [y6.2]) * 24) ≤ 140737488355328 ∧ (List.length y4.2.2 + List.length [y6.2]) ≤ 9223372036854775807) ∧ (fits IntKind.i64 (y4.1 + (1 : Int)) ∧ R4 ((y4.1 + (1 : Int)),(y4.2.1,(y4.2.2 ++ [y6.2])))))) ((0 : Int),([] : List (Cond)))) (Q (y4.2,(0 : Int)))) ((0 : Int),((x0.1 + x2),([] : List (List (Cond))))))))))))
def ref04_Turn.wp (x0 : Int × (List (List Cond))) (x1 : List Int) (Q : (Int × (List (List Cond))) × Int → Prop) : Prop := cond (!(ref04_Valid.fn (x0,()))) (Q (((0 : Int),([] : List (List (Cond)))),(1 : Int))) (cond (((List.length x1 : Nat) : Int) != x0.1) (Q (((0 : Int),([] : List (List (Cond)))),(2 : Int))) (Lp (σ := Int) (fun y3 R3 => let v0 := List.getD x1 (Int.toNat y3) (0 : Int);let v1 := List.take (Int.toNat y3) x1;cond (decide (y3 < ((List.length x1 : Nat) : Int))) (((0 : Int) ≤ y3 ∧ y3 < ((List.length x1 : Nat) : Int)) ∧ (((!(decide (v0 < (0 : Int)))) = true → ((!(decide (v0 < (0 : Int)))) = true ∧ True)) ∧ (((!(decide (v0 < (0 : Int)))) = true → ((!(decide (v0 < (0 : Int)))) = true ∧ ((!(decide (v0 < (0 : Int)))) = true ∧ True))) ∧ ((decide (v0 < (0 : Int)) = false → (!(decide (v0 < (0 : Int)))) = true) ∧ cond (decide (v0 < (0 : Int)) || decide (x0.1 ≤ v0)) (Q (((0 : Int),([] : List (List (Cond)))),(6 : Int))) (((0 : Int) ≤ y3 ∧ y3 ≤ ((List.length x1 : Nat) : Int)) ∧ Lp (σ := Int) (fun y5 R5 => cond (decide (y5 < ((List.length v1 : Nat) : Int))) (((0 : Int) ≤ y5 ∧ y5 < ((List.length v1 : Nat) : Int)) ∧ cond (v0 == (List.getD v1 (Int.toNat y5) (0 : Int))) (Q (((0 : Int),([] : List (List (Cond)))),(6 : Int))) (fits IntKind.i64 (y5 + (1 : Int)) ∧ R5 (y5 + (1 : Int)))) (fits IntKind.i64 (y3 + (1 : Int)) ∧ R3 (y3 + (1 : Int)))) (0 : Int)))))) (Lp (σ := Int × Int × List (List (Cond))) (fun y5 R5 => let v3 := List.getD x0.2 (Int.toNat y5.1) ([] : List (Cond));cond (decide (y5.1 < ((List.length x0.2 : Nat) : Int))) (((0 : Int) ≤ y5.1 ∧ y5.1 < ((List.length x0.2 : Nat) : Int)) ∧ Lp (σ := Int × List (Cond)) (fun y7 R7 => let v7 := List.getD v3 (Int.toNat y7.1) dCond;cond (decide (y7.1 < ((List.length v3 : Nat) : Int))) (((0 : Int) ≤ y7.1 ∧ y7.1 < ((List.length v3 : Nat) : Int)) ∧ (((0 : Int) ≤ ((List.length x1 : Nat) : Int) ∧ (((List.length x1 : Nat) : Int) ≤ ((List.length x1 : Nat) : Int) ∧ ((((List.length x1 : Nat) : Int) * ((8 : Nat) : Int)) ≤ (140737488355328 : Int) ∧ ((List.length x1 : Nat) : Int) ≤ (9223372036854775807 : Int)))) ∧ Lp (σ := Int × List Int) (fun y9 R9 => let v6 := List.getD x1 (Int.toNat y9.1) (0 : Int);let v10 := [(v7.1,(v7.2.1,(y9.2,v7.2.2.2)))];cond (decide (y9.1 < ((List.length x1 : Nat) : Int))) (((0 : Int) ≤ y9.1 ∧ y9.1 < ((List.length x1 : Nat) : Int)) ∧ (((0 : Int) ≤ v6 ∧ v6 < ((List.length v7.2.2.1 : Nat) : Int)) ∧ (((0 : Int) ≤ y9.1 ∧ y9.1 < ((List.length y9.2 : Nat) : Int)) ∧ (Int.toNat y9.1 < List.length y9.2 ∧ (fits IntKind.i64 (y9.1 + (1 : Int)) ∧ R9 ((y9.1 + (1 : Int)),(List.set y9.2 (Int.toNat y9.1) (List.getD v7.2.2.1 (Int.toNat v6) (0 : Int))))))))) ((((List.length y7.2 + List.length v10) * 48) ≤ 140737488355328 ∧ (List.length y7.2 + List.length v10) ≤ 9223372036854775807) ∧ (fits IntKind.i64 (y7.1 + (1 : Int)) ∧ R7 ((y7.1 + (1 : Int)),(y7.2 ++ v10))))) ((0 : Int),(List.replicate (Int.toNat ((List.length x1 : Nat) : Int)) (0 : Int))))) ((((List.length y5.2.2 + List.length [y7.2]) * 24) ≤ 140737488355328 ∧ (List.length y5.2.2 + List.length [y7.2]) ≤ 9223372036854775807) ∧ (fits IntKind.i64 (y5.1 + (1 : Int)) ∧ R5 ((y5.1 + (1 : Int)),(y5.2.1,(y5.2.2 ++ [y7.2])))))) ((0 : Int),([] : List (Cond)))) (Q (y5.2,(0 : Int)))) ((0 : Int),(x0.1,([] : List (List (Cond))))))) (0 : Int)))
def law04_SetTurns.wp (x0 : Int × (List (List Cond))) (x1 : Int) (x2 : Int) (x3 : List Int) (Q : Bool → Prop) : Prop := let v0 := law04_Few.fn ((402 : Int),((98 : Int),([x0],())));let v1 := set_Room.fn (x0,(x1,(x2,())));let v2 := ref04_Room.fn (x0,(x1,(x2,())));let v3 := law04_is.fn (v1.1,(v1.2,(v2.1,(v2.2,()))));let v4 := set_Turn.fn (x0,(x3,()));let v5 := ref04_Turn.fn (x0,(x3,()));let v6 := law04_is.fn (v4.1,(v4.2,(v5.1,(v5.2,()))));(((!(!v0)) = true → ((!(!v0)) = true ∧ True)) ∧ (((!(!v0)) = true → ((!(!v0)) = true ∧ True)) ∧ (((!v0) = false → (!(!v0)) = true) ∧ cond ((!v0) || decide ((1000 : Int) < ((List.length x3 : Nat) : Int))) (Q (law04_awake.fn ())) ((v3 = true → (v3 = true ∧ (v3 = true ∧ (v3 = true ∧ (v3 = true ∧ True))))) ∧ ((v3 = true → v3 = true) ∧ (((v3 && v6) = true → (v3 && v6) = true) ∧ Q ((v3 && v6) && law04_awake.fn ())))))))
theorem lin_Room.spec (l : Lin) (i k : Int) (hl : l.1.length ≤ 9223372036854775807) : lin_Room.wp l i k (fun r => r = lin_Room.fn (l,i,k,())) := by
  have hfn : lin_Room.fn (l,i,k,()) = roomF l i k := rfl
  simp only [lin_Room.wp,hfn,lin_Valid.fn]
  unfold roomF
  cases hv : linValid l with
  | false => simp
  | true =>
    have h12 : l.1.length ≤ 12 := by
      have := hv
      simp only [linValid,Bool.and_eq_true,decide_eq_true_iff] at this
      omega
    simp only [Bool.not_true,cond_false]
    by_cases h : i < 0 ∨ (l.1.length : Int) < i ∨ k < 0
    · have e : ((decide (i < (0 : Int)) || decide (((List.length l.1 : Nat) : Int) < i)) || decide (k < (0 : Int))) = true := by simp;omega
      rw [e]
      simp [h]
    · have e : ((decide (i < (0 : Int)) || decide (((List.length l.1 : Nat) : Int) < i)) || decide (k < (0 : Int))) = false := by simp;omega
      have e1 : decide (i < (0 : Int)) = false := by simp;omega
      have e2 : decide (((List.length l.1 : Nat) : Int) < i) = false := by simp;omega
      rw [e,e1,e2]
      simp only [Bool.not_false,Bool.or_self,forall_const,true_and,and_true,Bool.true_eq_false,cond_false,if_neg h]
      refine ⟨⟨by omega,by omega⟩,?_⟩
      by_cases h2 : 12 - (l.1.length : Int) < k
      · simp [h2]
      · simp only [decide_eq_false h2,cond_false,if_neg h2,List.length_replicate]
        refine ⟨by omega,⟨by omega,Int.le_refl _,by omega,by omega⟩,⟨by omega,by omega,by omega⟩,?_⟩
        simp [roomL]
theorem ref02_Room.spec (l : Lin) (i k : Int) (hl : l.1.length ≤ 9223372036854775807) : ref02_Room.wp l i k (fun r => r = ref02_Room.fn (l,i,k,())) := by
  have hfn : ref02_Room.fn (l,i,k,()) = roomF l i k := rfl
  simp only [ref02_Room.wp,hfn,ref02_Valid.fn]
  unfold roomF
  cases hv : linValid l with
  | false => simp
  | true =>
    have h12 : l.1.length ≤ 12 := by
      have := hv
      simp only [linValid,Bool.and_eq_true,decide_eq_true_iff] at this
      omega
    simp only [Bool.not_true,cond_false]
    by_cases h : i < 0 ∨ (l.1.length : Int) < i ∨ k < 0
    · have e : ((decide (i < (0 : Int)) || decide (((List.length l.1 : Nat) : Int) < i)) || decide (k < (0 : Int))) = true := by simp;omega
      rw [e]
      simp [h]
    · have e : ((decide (i < (0 : Int)) || decide (((List.length l.1 : Nat) : Int) < i)) || decide (k < (0 : Int))) = false := by simp;omega
      have e1 : decide (i < (0 : Int)) = false := by simp;omega
      have e2 : decide (((List.length l.1 : Nat) : Int) < i) = false := by simp;omega
      rw [e,e1,e2]
      simp only [Bool.not_false,Bool.or_self,forall_const,true_and,and_true,Bool.true_eq_false,cond_false,if_neg h]
      refine ⟨⟨by omega,by omega⟩,?_⟩
      by_cases h2 : 12 - (l.1.length : Int) < k
      · simp [h2]
      · have l1 : (List.take i.toNat l.1).length ≤ l.1.length := by rw [List.length_take];omega
        have l2 : (List.drop i.toNat l.1).length ≤ l.1.length := by rw [List.length_drop];omega
        simp only [decide_eq_false h2,cond_false,if_neg h2,List.length_append,List.length_replicate]
        refine ⟨⟨by omega,by omega⟩,⟨by omega,by omega⟩,⟨by omega,by omega,by omega⟩,⟨by omega,by omega⟩,⟨by omega,by omega⟩,?_⟩
        simp [roomL]
theorem set_Room_1.spec (l : Lin) (i k : Int) (hp : set_Room_1.pre (l,i,k,())) : set_Room_1.wp l i k (fun r => r = set_Room_1.fn (l,i,k,())) := rfl
theorem set_each.spec (s : PSet) (n : Int) (f : (Lin → Prop) × (Lin → Lin)) (hp : set_each.pre (s,n,f,())) : set_each.wp s n f (fun r => r = set_each.fn (s,n,f,())) := by
  obtain ⟨h1,h2⟩ := hp
  simp only at h1 h2
  simp only [set_each.wp,set_each.fn]
  refine ⟨⟨by omega,Int.le_refl _,by omega,by omega⟩,?_⟩
  simp only [Int.toNat_natCast]
  let F : List Cond → List Cond := fun p => p.map fun c => (c.1,c.2.1,f.2 c.2.2)
  refine Lp.iter s.2.length (fun i z => z = ((i : Int),(s.2.take i).map F,s.2.length - i)) (by simp) ?_
  rintro i z hle rfl R hR
  by_cases e : i < s.2.length
  · simp only [decide_eq_true (show (i : Int) < (s.2.length : Int) by omega),Int.toNat_natCast,cond_true]
    obtain ⟨hpl,hpc⟩ := h2 _ (getD_memL (d := []) e)
    refine ⟨⟨by omega,by omega⟩,by omega,?_⟩
    refine Lp.iter (s.2.getD i []).length (fun j z => z = ((j : Int),((s.2.take i).map F,s.2.length - i - 1),F ((s.2.getD i []).take j))) (by simp [F]) ?_
    rintro j z hj rfl R2 hR2
    have hli : ((s.2.take i).map F).length = i := by simp;omega
    by_cases e2 : j < (s.2.getD i []).length
    · simp only [decide_eq_true (show (j : Int) < ((s.2.getD i []).length : Int) by omega),Int.toNat_natCast,cond_true,hli]
      have hF : (F ((s.2.getD i []).take j)).length = j := by show (List.map _ _).length = j;rw [List.length_map,List.length_take];omega
      refine ⟨⟨by omega,by omega⟩,⟨by omega,by omega⟩,trivial,hpc _ (getD_memL e2),⟨by rw [hF];simp;omega,by rw [hF];simp;omega⟩,⟨by omega,by omega⟩,trivial,⟨by omega,by omega⟩,hR2 e2 _ ?_⟩
      rw [take_succ_getD dCond e2]
      simp [F]
    · have : j = (s.2.getD i []).length := by omega
      subst this
      simp only [Int.lt_irrefl,decide_false,cond_false,List.take_length]
      refine ⟨⟨by omega,by omega⟩,hR e _ ?_⟩
      rw [take_succ_getD [] e,List.map_append]
      simp
      omega
  · have : i = s.2.length := by omega
    subst this
    simp only [Int.lt_irrefl,decide_false,cond_false,List.take_length,Nat.sub_self,List.replicate_zero,List.append_nil]
    rfl
theorem set_Room.spec (s : PSet) (i k : Int) : set_Room.wp s i k (fun r => r = set_Room.fn (s,i,k,())) := by
  have hfn : set_Room.fn (s,i,k,()) = roomS s i k := rfl
  simp only [set_Room.wp,hfn,set_Valid.fn]
  unfold roomS
  cases hv : setValid s with
  | false => simp
  | true =>
    obtain ⟨b1,b2,b3,_⟩ := setValid.b hv
    simp only [Bool.not_true,cond_false]
    by_cases h : i < 0 ∨ s.1 < i ∨ k < 0
    · have e : ((decide (i < (0 : Int)) || decide (s.1 < i)) || decide (k < (0 : Int))) = true := by simp;omega
      rw [e]
      simp [h]
    · have e : ((decide (i < (0 : Int)) || decide (s.1 < i)) || decide (k < (0 : Int))) = false := by simp;omega
      have e1 : decide (i < (0 : Int)) = false := by simp;omega
      have e2 : decide (s.1 < i) = false := by simp;omega
      rw [e,e1,e2]
      simp only [Bool.not_false,Bool.or_self,forall_const,true_and,and_true,Bool.true_eq_false,cond_false,if_neg h]
      refine ⟨⟨by omega,by omega⟩,?_⟩
      by_cases h2 : 12 - s.1 < k
      · simp [h2]
      · simp only [decide_eq_false h2,cond_false,if_neg h2]
        exact ⟨⟨by omega,by omega⟩,⟨b3,fun p hp => ⟨(setValid.piece hv hp).1,fun c _ => trivial⟩⟩,rfl⟩
theorem ref04_Room.spec (s : PSet) (i k : Int) : ref04_Room.wp s i k (fun r => r = ref04_Room.fn (s,i,k,())) := by
  have hfn : ref04_Room.fn (s,i,k,()) = roomS s i k := rfl
  simp only [ref04_Room.wp,hfn,ref04_Valid.fn]
  unfold roomS
  cases hv : setValid s with
  | false => simp
  | true =>
    obtain ⟨b1,b2,b3,_⟩ := setValid.b hv
    simp only [Bool.not_true,cond_false]
    by_cases h : i < 0 ∨ s.1 < i ∨ k < 0
    · have e : ((decide (i < (0 : Int)) || decide (s.1 < i)) || decide (k < (0 : Int))) = true := by simp;omega
      rw [e]
      simp [h]
    · have e : ((decide (i < (0 : Int)) || decide (s.1 < i)) || decide (k < (0 : Int))) = false := by simp;omega
      have e1 : decide (i < (0 : Int)) = false := by simp;omega
      have e2 : decide (s.1 < i) = false := by simp;omega
      rw [e,e1,e2]
      simp only [Bool.not_false,Bool.or_self,forall_const,true_and,and_true,Bool.true_eq_false,cond_false,if_neg h]
      refine ⟨⟨by omega,by omega⟩,?_⟩
      by_cases h2 : 12 - s.1 < k
      · simp [h2]
      · simp only [decide_eq_false h2,cond_false,if_neg h2]
        refine ⟨⟨by omega,by omega⟩,?_⟩
        let F : List Cond → List Cond := fun p => p.map fun c => (c.1,c.2.1,(roomF c.2.2 i k).1)
        refine Lp.iter s.2.length (fun a z => z = ((a : Int),s.1 + k,(s.2.take a).map F)) (by simp) ?_
        rintro a z hle rfl R hR
        by_cases e : a < s.2.length
        · simp only [decide_eq_true (show (a : Int) < (s.2.length : Int) by omega),Int.toNat_natCast,cond_true]
          have hpl := (setValid.piece hv (getD_memL (d := []) e)).1
          refine ⟨⟨by omega,by omega⟩,?_⟩
          refine Lp.iter (s.2.getD a []).length (fun j z => z = ((j : Int),F ((s.2.getD a []).take j))) (by simp [F]) ?_
          rintro j z hj rfl R2 hR2
          by_cases e2 : j < (s.2.getD a []).length
          · simp only [decide_eq_true (show (j : Int) < ((s.2.getD a []).length : Int) by omega),Int.toNat_natCast,cond_true]
            have hF : (F ((s.2.getD a []).take j)).length = j := by show (List.map _ _).length = j;rw [List.length_map,List.length_take];omega
            refine ⟨⟨by omega,by omega⟩,⟨by rw [hF];simp;omega,by rw [hF];simp;omega⟩,⟨by omega,by omega⟩,hR2 e2 _ ?_⟩
            rw [take_succ_getD dCond e2]
            simp [F]
          · have : j = (s.2.getD a []).length := by omega
            subst this
            simp only [Int.lt_irrefl,decide_false,cond_false,List.take_length]
            refine ⟨⟨by simp;omega,by simp;omega⟩,⟨by omega,by omega⟩,hR e _ ?_⟩
            rw [take_succ_getD [] e,List.map_append]
            rfl
        · have : a = s.2.length := by omega
          subst this
          simp only [Int.lt_irrefl,decide_false,cond_false,List.take_length]
          rfl
end Go.Proofs.YtldikbpclaeajaaGreatDoor
