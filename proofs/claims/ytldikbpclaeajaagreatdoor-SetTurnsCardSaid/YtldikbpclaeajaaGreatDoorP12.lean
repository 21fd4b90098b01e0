/- Part of a proof that a law of the program holds for every input: what the functions answer, in plain Lean. No conditions. -/
import Derived.Test.YtldikbpclaeajaaGreatDoorP11
namespace Go.Proofs.YtldikbpclaeajaaGreatDoor
open Go
set_option linter.unusedVariables false
theorem opt_cases {α : Type} (o : Option α) : o = none ∨ ∃ x,o = some x := by cases o <;> simp
theorem tidyF_eq (p : List Cond) : tidyF p = if rawVoid p then ([],true,(0 : Int)) else match (pairF (leastF (rawL p))).bind settleF with
  | none => ([],true,(0 : Int))
  | some out => if (rawL p).any (fun c => !condValid c) || decide (96 < (sortU out).length) then ([],false,3) else (sortU out,false,0) := rfl
theorem set_paired.fn_eq (l : List Cond) : set_paired.fn (l,()) = (match pairF l with | none => ([],true) | some out => (out,false)) := rfl
theorem compF_take {b : List Cond} {i : Nat} (h : i < b.length) : compF (b.take (i + 1)) = compStep (compF (b.take i)) (b.getD i dCond) := by
  rw [take_succ_getD dCond h,compF,List.foldl_append];rfl
theorem compF_last {b : List Cond} {i : Nat} (h : i < b.length) : (compF (b.take (i + 1))).getLast? = some (b.getD i dCond) := by
  rw [compF_take h];exact compStep_last _ _
theorem compF_step {b : List Cond} {i : Nat} (h : i + 1 < b.length) : compF (b.take (i + 2)) = if b.getD (i + 1) dCond = b.getD i dCond then compF (b.take (i + 1)) else compF (b.take (i + 1)) ++ [b.getD (i + 1) dCond] := by
  rw [compF_take h,compStep,compF_last (by omega)]
  by_cases e : b.getD (i + 1) dCond = b.getD i dCond
  · rw [if_pos e,if_pos (by rw [e])]
  · rw [if_neg e,if_neg (fun h => e (Option.some.inj h).symm)]
theorem set_Tidy.spec (p : List Cond) (hp : set_Tidy.pre (p,())) : set_Tidy.wp p (fun r => r = set_Tidy.fn (p,())) := by
  have hp' : pieceB p := hp
  have hl := hp'.1
  have hQ : set_Tidy.fn (p,()) = tidyF p := rfl
  simp only [set_Tidy.wp,hQ]
  refine Lp.foldO p dCond rawStep [] (by omega) ?_ ?_
  · intro i out R e e2 hf ht hR1 hR2
    have hb := hp'.2 _ (getD_memL (d := dCond) e)
    have hlen := foldlM_len (f := rawStep) (fun t x t' h => by
      unfold rawStep at h
      split at h
      · cases h
      · split at h <;> (cases h;simp)) _ _ _ ht
    simp only [List.length_nil,List.length_take] at hlen
    simp only [decide_eq_true e2,Int.toNat_natCast,cond_true]
    refine ⟨⟨by omega,by omega⟩,hb,?_⟩
    simp only [rawStep] at hR1 hR2
    by_cases h1 : (rawF (p.getD i dCond)).2 < 0
    · simp only [cond_Raw.fn,decide_eq_true h1,cond_true]
      have := hR2 (by rw [if_pos h1])
      rw [rawStep_fold] at this
      rw [tidyF_eq]
      cases hv : rawVoid p with
      | true => rfl
      | false => rw [hv] at this;cases this
    · simp only [cond_Raw.fn,decide_eq_false h1,cond_false]
      rw [if_neg h1] at hR1
      by_cases h2 : (rawF (p.getD i dCond)).2 = 0
      · rw [if_pos h2] at hR1
        simp only [h2,beq_self_eq_true,cond_true]
        exact ⟨⟨by simp;omega,by simp;omega⟩,hf,hR1 _ rfl⟩
      · rw [if_neg h2] at hR1
        simp only [beq_eq_false_iff_ne.2 h2,cond_false]
        exact ⟨hf,hR1 _ rfl⟩
  intro raws R hraws
  rw [rawStep_fold] at hraws
  have hv : rawVoid p = false := by
    cases h : rawVoid p with
    | true => rw [h] at hraws;cases hraws
    | false => rfl
  rw [hv] at hraws
  simp only [Bool.false_eq_true,if_false,List.nil_append,Option.some.injEq] at hraws
  subst hraws
  simp only [Int.lt_irrefl,decide_false,cond_false]
  have hrB := rawL_B hp'
  have htd : tidyF p = match (pairF (leastF (rawL p))).bind settleF with
    | none => ([],true,(0 : Int))
    | some out => if (rawL p).any (fun c => !condValid c) || decide (96 < (sortU out).length) then ([],false,3) else (sortU out,false,0) := by
    rw [tidyF_eq,hv];rfl
  generalize rawL p = l at *
  generalize hT : tidyF p = T at *
  have hlB := leastF_B hrB
  refine ⟨fun _ _ => trivial,pieceB_listOk hrB,hlB,?_⟩
  simp only [set_paired.fn_eq,set_least.fn]
  rcases opt_cases (pairF (leastF l)) with hpr | ⟨out,hpr⟩
  · simp only [hpr,cond_true]
    rw [htd,hpr];rfl
  · simp only [hpr,cond_false]
    rw [hpr] at htd
    simp only [Option.bind_some] at htd
    have hoB := pairF_B hlB hpr
    have hol := hoB.1
    have hin : ∀ i,i < out.length → condB (out.getD i dCond) := fun i hi => hoB.2 _ (getD_memL hi)
    clear hpr hlB hrB hp' hp
    refine Lp.iter out.length (fun i y => y.1 = (i : Int) ∧ (out.take i).foldlM eqStep [] = some (out.take i) ∧ ∀ C,y.2 (strOf (keyB C 1)) = eqK C (out.take i)) ⟨rfl,rfl,fun C => rfl⟩ ?_
    rintro i ⟨y,m⟩ hle ⟨hy,hf,hm⟩ R hR
    simp only at hy hm
    subst hy
    by_cases e : i < out.length
    · have hb := hin i e
      have hts := take_succ_getD dCond e
      have hfs : (out.take (i + 1)).foldlM eqStep [] = eqStep (out.take i) (out.getD i dCond) := by
        rw [hts,List.foldlM_append,hf]
        show (eqStep _ _).bind _ = _
        cases eqStep (out.take i) (out.getD i dCond) <;> rfl
      have hvoid : eqStep (out.take i) (out.getD i dCond) = none → T = ([],true,0) := fun h => by
        have h1 : out.foldlM eqStep [] = none := by
          rw [← List.take_append_drop (i + 1) out,List.foldlM_append,hfs,h];rfl
        rw [htd,settleF,h1]
      simp only [decide_eq_true (show (i : Int) < (out.length : Int) by omega),Int.toNat_natCast,cond_true]
      refine ⟨⟨by omega,by omega⟩,?_⟩
      by_cases hk : (out.getD i dCond).1 = 1
      · simp only [hk,bne_self_eq_false,cond_false,set_key.fn]
        have hg : ∀ b : Bool,(b = true → b = true ∧ True) := fun b h => ⟨h,trivial⟩
        refine ⟨⟨hb.2.1,linB_ints hb.2,.inl rfl⟩,hg _,hg _,fun h => ⟨h,h,trivial⟩,fun h => h,?_⟩
        simp only [hm]
        have hstep : eqStep (out.take i) (out.getD i dCond) = match eqK (out.getD i dCond).2.2.1 (out.take i) with
          | some n => if n ≠ (out.getD i dCond).2.2.2 then none else some (out.take i ++ [out.getD i dCond])
          | none => some (out.take i ++ [out.getD i dCond]) := by
          unfold eqStep;exact if_neg fun h => h hk
        have hnew : ∀ C,mput m (strOf (keyB (out.getD i dCond).2.2.1 1)) (out.getD i dCond).2.2.2 (strOf (keyB C 1)) = eqK C (out.take (i + 1)) := fun C => by
          rw [hts,eqK_snoc]
          simp only [mput,key_inj1]
          by_cases hC : C = (out.getD i dCond).2.2.1
          · rw [if_pos hC,if_pos ⟨hk,hC.symm⟩]
          · rw [if_neg hC,if_neg (fun h => hC h.2.symm)];exact hm C
        cases hq : eqK (out.getD i dCond).2.2.1 (out.take i) with
        | none =>
          rw [hq] at hstep
          simp only [Option.isSome_none,Bool.false_and,cond_false]
          refine ⟨⟨by omega,by omega⟩,hR e _ ⟨rfl,?_,hnew⟩⟩
          rw [hfs,hstep,hts]
        | some n =>
          rw [hq] at hstep
          simp only [Option.isSome_some,Option.getD_some,Bool.true_and]
          by_cases hn : n = (out.getD i dCond).2.2.2
          · simp only [hn,bne_self_eq_false,cond_false]
            refine ⟨⟨by omega,by omega⟩,hR e _ ⟨rfl,?_,hnew⟩⟩
            rw [hfs,hts]
            exact hstep.trans (if_neg fun h => h hn)
          · simp only [bne_iff_ne.2 hn,cond_true]
            exact (hvoid (hstep.trans (if_pos hn))).symm
      · simp only [bne_iff_ne.2 hk,cond_true]
        refine ⟨⟨by omega,by omega⟩,hR e _ ⟨rfl,?_,fun C => ?_⟩⟩
        · rw [hfs,hts];exact if_pos hk
        · rw [hts,eqK_snoc,if_neg (fun h => hk h.1)];exact hm C
    have hil : i = out.length := by omega
    subst hil
    clear hR hle
    simp only [Int.lt_irrefl,decide_false,cond_false]
    rw [List.take_length] at hf hm
    have hst : settleF out = out.foldlM (setStep out) [] := by rw [settleF,hf]
    rw [hst] at htd
    refine Lp.foldO out dCond (setStep out) [] (by omega) ?_ ?_
    · intro i o2 R e e2 hf2 ht hR1 hR2
      have hb := hin i e
      obtain ⟨hlen,_⟩ := setM_sub ht
      simp only [List.length_nil,List.length_take] at hlen
      simp only [decide_eq_true e2,Int.toNat_natCast,cond_true]
      refine ⟨⟨by omega,by omega⟩,?_⟩
      have hvoid : setStep out o2 (out.getD i dCond) = none → T = ([],true,0) := fun h => by
        rw [htd,hR2 h]
      clear hR2
      by_cases hk : (out.getD i dCond).1 = 0
      · simp only [hk,beq_self_eq_true,cond_true,set_key.fn]
        refine ⟨⟨hb.2.1,linB_ints hb.2,.inl rfl⟩,?_⟩
        simp only [key_injN.2 (rfl : negC (out.getD i dCond).2.2.1 = _),hm]
        have hstep : setStep out o2 (out.getD i dCond) = match eqK (out.getD i dCond).2.2.1 out with
          | some n => if (out.getD i dCond).2.2.2 < n then none else some o2
          | none => match eqK (negC (out.getD i dCond).2.2.1) out with
            | some n => if (out.getD i dCond).2.2.2 + n < 0 then none else some o2
            | none => some (o2 ++ [out.getD i dCond]) := by
          unfold setStep;exact if_neg fun h => h hk
        cases hq : eqK (out.getD i dCond).2.2.1 out with
        | some n =>
          rw [hq] at hstep
          simp only [Option.isSome_some,Option.getD_some,cond_true] at hstep ⊢
          by_cases hn : (out.getD i dCond).2.2.2 < n
          · simp only [decide_eq_true hn,cond_true]
            exact (hvoid (by rw [hstep,if_pos hn])).symm
          · simp only [decide_eq_false hn,cond_false]
            exact ⟨hf2,hR1 _ (by rw [hstep,if_neg hn])⟩
        | none =>
          rw [hq] at hstep
          simp only [Option.isSome_none,cond_false] at hstep ⊢
          refine ⟨⟨hb.2.1,linB_ints hb.2,.inr rfl⟩,?_⟩
          cases hq2 : eqK (negC (out.getD i dCond).2.2.1) out with
          | some n =>
            rw [hq2] at hstep
            obtain ⟨d,hd,_,_,hd3⟩ := eqK_B hq2
            have q1 := (hoB.2 d hd).2.2.2
            have q2 := hb.2.2.2
            rw [hd3] at q1
            unfold intB at q1 q2
            simp only [Option.isSome_some,Option.getD_some,cond_true] at hstep ⊢
            refine ⟨⟨by omega,by omega⟩,?_⟩
            by_cases hn : (out.getD i dCond).2.2.2 + n < 0
            · simp only [decide_eq_true hn,cond_true]
              exact (hvoid (by rw [hstep,if_pos hn])).symm
            · simp only [decide_eq_false hn,cond_false]
              exact ⟨hf2,hR1 _ (by rw [hstep,if_neg hn])⟩
          | none =>
            rw [hq2] at hstep
            simp only [Option.isSome_none,cond_false] at hstep ⊢
            exact ⟨⟨by simp;omega,by simp;omega⟩,hf2,hR1 _ hstep⟩
      · simp only [beq_eq_false_iff_ne.2 hk,cond_false]
        exact ⟨⟨by simp;omega,by simp;omega⟩,hf2,hR1 _ (if_pos hk)⟩
    intro res R hres
    simp only [Int.lt_irrefl,decide_false,cond_false]
    rw [hres] at htd
    simp only at htd
    obtain ⟨hrl,hrm⟩ := setM_sub hres
    simp only [List.length_nil,Nat.zero_add] at hrl
    have hk3 : K3 res := fun d hd => ((hrm d hd).elim (by simp) fun h => (hoB.2 d h).k3)
    clear hres hst hm hf hin hrm
    refine ⟨⟨by omega,fun a ha b hb => ⟨hk3 a ha,hk3 b hb⟩⟩,fun b8 hb8 => ?_⟩
    obtain ⟨hperm,hsort⟩ := hb8
    have hcf := compF_eq hk3 hperm hsort
    have hbl : b8.length ≤ 1048576 := by have := hperm.length_eq;omega
    have hb3 : ∀ i,i < b8.length → kind3 (b8.getD i dCond).1 := fun i hi => hk3 _ (hperm.mem_iff.2 (getD_memL hi))
    rw [← hcf] at htd
    clear hcf hperm hsort hrl hk3
    have hfin : ∀ (b : Bool) (r : List Cond),b = (l.any fun c => !condValid c) → r = compF b8 → (cond (b || decide ((96 : Int) < (r.length : Int))) ((([] : List Cond),false,(3 : Int)) = T) ((r,false,(0 : Int)) = T)) := by
      rintro b r rfl rfl
      rw [htd]
      have e : decide ((96 : Int) < ((compF b8).length : Int)) = decide (96 < (compF b8).length) := decide_eq_decide.2 (by omega)
      rw [e]
      cases h : ((l.any fun c => !condValid c) || decide (96 < (compF b8).length)) <;> rfl
    have hg : ∀ b : Bool,(b = true → b = true ∧ True) := fun b h => ⟨h,trivial⟩
    have hg2 : ∀ b : Bool,(b = false → (!b) = true) := fun b h => by rw [h];rfl
    by_cases hs : b8.length < 2
    · simp only [decide_eq_true (show ((b8.length : Nat) : Int) < 2 by omega),cond_true]
      refine ⟨hg _,hg _,hg2 _,hfin _ _ rfl ?_⟩
      match b8,hs with
      | [],_ => rfl
      | [x],_ => rfl
    simp only [decide_eq_false (show ¬ ((b8.length : Nat) : Int) < 2 by omega),cond_false]
    refine Lp.iter (b8.length - 1) (fun i y => y = (i : Int) + 1 ∧ compF (b8.take (i + 1)) = b8.take (i + 1)) ⟨rfl,?_⟩ ?_
    · match b8,hs with
      | x :: b,_ => rfl
      | [],h => exact absurd (by simp) h
    rintro i y hle ⟨rfl,hc⟩ R hR
    by_cases e : i + 1 < b8.length
    · have t1 : ((i : Int) + 1).toNat = i + 1 := by omega
      have t2 : ((i : Int) + 1 - 1).toNat = i := by omega
      simp only [decide_eq_true (show (i : Int) + 1 < (b8.length : Int) by omega),cond_true,t1,t2]
      have k1 := hb3 (i + 1) e
      have k2 := hb3 i (by omega)
      have hcs := compF_step e
      refine ⟨⟨by omega,by omega⟩,by omega,⟨by omega,by omega⟩,⟨by omega,by omega⟩,by omega,⟨k1,k2⟩,?_⟩
      by_cases heq : b8.getD (i + 1) dCond = b8.getD i dCond
      · have : (ordF (b8.getD (i + 1) dCond) (b8.getD i dCond) == 0) = true := by rw [heq,ordF_self];rfl
        simp only [set_Tidy_2.fn,this,cond_true]
        rw [if_pos heq] at hcs
        refine ⟨⟨by omega,by omega⟩,?_⟩
        clear hR
        refine Lp.iter (b8.length - (i + 1) - 1) (fun k y => y.1 = (k : Int) + 1 ∧ ∃ n : Nat,y.2.1 = (n : Int) ∧ n ≤ i + 1 + k ∧ y.2.2.length = b8.length ∧ compF (b8.take (i + 1 + k + 1)) = y.2.2.take n ∧ ∀ j,i + 1 + k ≤ j → y.2.2.getD j dCond = b8.getD j dCond) ⟨rfl,i + 1,rfl,by omega,rfl,by rw [← hc,← hcs],fun j _ => rfl⟩ ?_
        rintro k ⟨y1,y2,a⟩ hle2 ⟨hy1,n,hy2,hn,hal,hca,hget⟩ R2 hR2
        simp only at hy1 hy2 hal hca hget
        subst hy1 hy2
        by_cases e2 : i + 1 + k + 1 < b8.length
        · have t3 : ((k : Int) + 1).toNat = k + 1 := by omega
          have t4 : ((k : Int) + 1 - 1).toNat = k := by omega
          simp only [decide_eq_true (show (k : Int) + 1 < ((b8.length - (i + 1) : Nat) : Int) by omega),cond_true,t3,t4,Int.toNat_natCast,Nat.zero_add]
          have g1 : a.getD (i + 1 + (k + 1)) dCond = b8.getD (i + 1 + k + 1) dCond := hget _ (by omega)
          have g2 : a.getD (i + 1 + k) dCond = b8.getD (i + 1 + k) dCond := hget _ (by omega)
          simp only [g1,g2]
          have k3 := hb3 (i + 1 + k + 1) e2
          have k4 := hb3 (i + 1 + k) (by omega)
          have hcs2 := compF_step e2
          refine ⟨⟨by omega,by omega,by omega⟩,by omega,⟨by omega,by omega⟩,⟨by omega,by omega,by omega⟩,by omega,⟨k3,k4⟩,?_⟩
          by_cases heq2 : b8.getD (i + 1 + k + 1) dCond = b8.getD (i + 1 + k) dCond
          · have : (ordF (b8.getD (i + 1 + k + 1) dCond) (b8.getD (i + 1 + k) dCond) == 0) = true := by rw [heq2,ordF_self];rfl
            simp only [set_Tidy_2.fn,this,Bool.not_true,cond_false]
            rw [if_pos heq2] at hcs2
            refine ⟨⟨by omega,by omega⟩,hR2 (by omega) _ ⟨by simp,n,rfl,by omega,hal,?_,fun j hj => hget j (by omega)⟩⟩
            rw [show i + 1 + (k + 1) + 1 = i + 1 + k + 2 by omega,hcs2,hca]
          · have : (ordF (b8.getD (i + 1 + k + 1) dCond) (b8.getD (i + 1 + k) dCond) == 0) = false := beq_eq_false_iff_ne.2 fun h => heq2 (ordF_eq k3 k4 h)
            simp only [set_Tidy_2.fn,this,Bool.not_false,cond_true]
            rw [if_neg heq2] at hcs2
            refine ⟨⟨by omega,by omega,by omega⟩,by omega,⟨by omega,by omega⟩,by omega,⟨by omega,by omega⟩,⟨by omega,by omega⟩,hR2 (by omega) _ ⟨by simp,n + 1,by simp,by omega,by simp [hal],?_,fun j hj => ?_⟩⟩
            · rw [show i + 1 + (k + 1) + 1 = i + 1 + k + 2 by omega,hcs2,hca]
              simp only
              rw [List.take_set,List.take_add_one,List.set_append_right _ _ (by simp;omega)]
              have hnn : n - (a.take n).length = 0 := by simp;omega
              rw [hnn,List.getElem?_eq_getElem (show n < a.length by omega)]
              rfl
            · simp only
              rw [List.getD_eq_getElem?_getD,List.getElem?_set_ne (by omega),← List.getD_eq_getElem?_getD]
              exact hget j (by omega)
        · have hk : i + 1 + k + 1 = b8.length := by omega
          simp only [decide_eq_false (show ¬ (k : Int) + 1 < ((b8.length - (i + 1) : Nat) : Int) by omega),cond_false,Int.toNat_natCast,Nat.zero_add]
          rw [hk,List.take_length] at hca
          have hdr : List.drop (n + (a.length - n)) a = [] := List.drop_eq_nil_of_le (by omega)
          simp only [hdr,List.append_nil,List.drop_zero]
          have htk : List.take n (a.take n ++ List.replicate (a.length - n) dCond) = a.take n := by
            rw [List.take_append_of_le_length (by simp;omega),List.take_take,Nat.min_self]
          have hln : (a.take n ++ List.replicate (a.length - n) dCond).length = a.length := by simp;omega
          simp only [htk,hln]
          exact ⟨⟨by omega,by omega⟩,by omega,⟨by omega,by omega⟩,by omega,hg _,hg _,hg2 _,hfin _ _ rfl hca.symm⟩
      · have : (ordF (b8.getD (i + 1) dCond) (b8.getD i dCond) == 0) = false := beq_eq_false_iff_ne.2 fun h => heq (ordF_eq k1 k2 h)
        simp only [set_Tidy_2.fn,this,cond_false]
        rw [if_neg heq] at hcs
        refine ⟨⟨by omega,by omega⟩,hR (by omega) _ ⟨by omega,?_⟩⟩
        rw [hcs,hc,take_succ_getD dCond e]
    · have hi : i + 1 = b8.length := by omega
      simp only [decide_eq_false (show ¬ (i : Int) + 1 < (b8.length : Int) by omega),cond_false]
      rw [hi,List.take_length] at hc
      exact ⟨hg _,hg _,hg2 _,hfin _ _ rfl hc.symm⟩
abbrev slices_Concat_Sapi_Cond_api_Cond.fn (x : List (List Cond) × Unit) : List Cond := x.1.flatten
abbrev slices_Concat_Sapi_Cond_api_Cond.pre (x : List (List Cond) × Unit) : Prop := x.1.length ≤ 1048576 ∧ x.1.flatten.length ≤ 1048576
abbrev slices_Concat_SSapi_Cond_Sapi_Cond.fn (x : List (List (List Cond)) × Unit) : List (List Cond) := x.1.flatten
abbrev slices_Concat_SSapi_Cond_Sapi_Cond.pre (x : List (List (List Cond)) × Unit) : Prop := x.1.length ≤ 1048576 ∧ x.1.flatten.length ≤ 1048576
def tidStep (out : List (List Cond)) (p : List Cond) : Option (List (List Cond)) :=
  if (tidyF p).2.2 ≠ 0 then none else if (tidyF p).2.1 = true ∨ (tidyF p).1 ∈ out then some out else if 400 < out.length + 1 then none else some (out ++ [(tidyF p).1])
def tidL (l : List (List Cond)) : Option (List (List Cond)) := l.foldlM tidStep []
def ofTid (n : Int) (o : Option (List (List Cond))) : PSet × Int := match o with
  | none => ((0,[]),3)
  | some out => ((n,out),0)
def normF (x : PSet) : PSet × Int := if setValid x = false then ((0,[]),1) else ofTid x.1 (tidL x.2)
abbrev set_Normal.fn (x : PSet × Unit) : PSet × Int := normF x.1
def unionF (x y : PSet) : PSet × Int := if bothErr x y ≠ 0 then ((0,[]),bothErr x y) else ofTid x.1 (tidL (x.2 ++ y.2))
abbrev set_Union.fn (x : PSet × PSet × Unit) : PSet × Int := unionF x.1 x.2.1
def meets (a b : List (List Cond)) : List (List Cond) := a.flatMap fun p => b.map fun q => p ++ q
def meetF (x y : PSet) : PSet × Int := if bothErr x y ≠ 0 then ((0,[]),bothErr x y) else ofTid x.1 (tidL (meets x.2 y.2))
abbrev set_Meet.fn (x : PSet × PSet × Unit) : PSet × Int := meetF x.1 x.2.1
def simpleF (p : List Cond) (n : Int) : List Cond × Bool × Int :=
  if n < 0 ∨ 12 < n then ([],false,6) else if 384 < p.length then ([],false,3) else if p.any (fun c => !condValid c) then ([],false,1) else if overF p n = false then ([],false,2) else tidyF p
abbrev set_Simple_1.fn (x : Cond × Unit) : Bool := !condValid x.1
abbrev set_Simple.fn (x : List Cond × Int × Unit) : List Cond × Bool × Int := simpleF x.1 x.2.1
def cutStep (a b : List Cond) (out : List (List Cond)) (i : Nat) : Option (List (List Cond)) :=
  if (negF (b.getD i dCond)).2 ≠ 0 then none else some (out ++ (negF (b.getD i dCond)).1.map fun o => a ++ (b.take i ++ [o]))
def cutF (a b : List Cond) : List (List Cond) × Int := if (tidyF (a ++ b)).2.2 ≠ 0 then ([],3) else if (tidyF (a ++ b)).2.1 = true then ([a],0) else match (List.range b.length).foldlM (cutStep a b) [] with
  | none => ([],3)
  | some out => (out,0)
def validP (p : List Cond) : Prop := p.length ≤ 4096 ∧ ∀ c ∈ p,condValid c = true
abbrev set_cut.fn (x : List Cond × List Cond × Unit) : List (List Cond) × Int := cutF x.1 x.2.1
abbrev set_cut.pre (x : List Cond × List Cond × Unit) : Prop := validP x.1 ∧ validP x.2.1
def minStep (cur : List (List Cond)) (b : List Cond) : Option (List (List Cond)) :=
  cur.foldlM (fun out a => if (cutF a b).2 ≠ 0 then none else (cutF a b).1.foldlM tidStep out) []
def minusF (x y : PSet) : PSet × Int := if bothErr x y ≠ 0 then ((0,[]),bothErr x y) else if (normF x).2 ≠ 0 ∨ (normF y).2 ≠ 0 then ((0,[]),3) else ofTid x.1 ((normF y).1.2.foldlM minStep (normF x).1.2)
abbrev set_Minus.fn (x : PSet × PSet × Unit) : PSet × Int := minusF x.1 x.2.1
abbrev slices_IndexFunc_SSapi_Cond_Sapi_Cond.fn (x : List (List Cond) × ((List Cond → Prop) × (List Cond → Bool)) × Unit) : Int := idxF x.2.1.2 x.1 0
abbrev slices_IndexFunc_SSapi_Cond_Sapi_Cond.pre (x : List (List Cond) × ((List Cond → Prop) × (List Cond → Bool)) × Unit) : Prop := ∀ c ∈ x.1,x.2.1.1 c
abbrev slices_ContainsFunc_SSapi_Cond_Sapi_Cond.fn (x : List (List Cond) × ((List Cond → Prop) × (List Cond → Bool)) × Unit) : Bool := x.1.any x.2.1.2
abbrev slices_ContainsFunc_SSapi_Cond_Sapi_Cond.pre (x : List (List Cond) × ((List Cond → Prop) × (List Cond → Bool)) × Unit) : Prop := ∀ c ∈ x.1,x.2.1.1 c
def Coord (n : Int) : Bool := decide (-4294967296 ≤ n) && decide (n ≤ 4294967296)
def dotL : List Int → List Int → Int
  | x :: a,y :: b => x * y + dotL a b
  | _,_ => 0
def dotF (a b : List Int) : Int × Int := if a.length ≠ b.length then (0,2) else if 12 < a.length then (0,3) else if (a.zip b).all fun p => Fit p.1 && Coord p.2 then (dotL a b,0) else (0,6)
abbrev num_Dot.fn (x : List Int × List Int × Unit) : Int × Int := dotF x.1 x.2.1
def atF (l : Lin) (p : List Int) : Int × Int := if linValid l = false then (0,1) else if (dotF l.1 p).2 ≠ 0 then (0,(dotF l.1 p).2) else (l.2 + (dotF l.1 p).1,0)
abbrev lin_At.fn (x : Lin × List Int × Unit) : Int × Int := atF x.1 x.2.1
def trueAt (c : Cond) (v : Int) : Bool := if c.1 = 0 then decide (0 ≤ v) else if c.1 = 1 then v == 0 else v.tmod c.2.1 == 0
def holdsF (c : Cond) (p : List Int) : Bool × Int := if condValid c = false then (false,1) else if (atF c.2.2 p).2 ≠ 0 then (false,(atF c.2.2 p).2) else (trueAt c (atF c.2.2 p).1,0)
abbrev cond_Holds.fn (x : Cond × List Int × Unit) : Bool × Int := holdsF x.1 x.2.1
abbrev set_Has_1_1.fn (x : Cond × List Int × Unit) : Bool := !(holdsF x.1 x.2.1).1
abbrev set_Has_1.fn (x : List Cond × List Int × Unit) : Bool := !x.1.any fun c => !(holdsF c x.2.1).1
def hasF (s : PSet) (p : List Int) : Bool × Int := if setValid s = false then (false,1) else if ((p.length : Nat) : Int) ≠ s.1 then (false,2) else if p.all Coord = false then (false,6) else (s.2.any fun q => !q.any fun c => !(holdsF c p).1,0)
abbrev set_Has.fn (x : PSet × List Int × Unit) : Bool × Int := hasF x.1 x.2.1
set_option maxRecDepth 4000
def set_Normal.wp (x0 : Int × (List (List Cond))) (Q : (Int × (List (List Cond))) × Int → Prop) : Prop := cond (!(set_Valid.fn (x0,()))) (Q (((0 : Int),([] : List (List (Cond)))),(1 : Int))) (Lp (σ := Int × (List (List (Cond))) × (ByteArray → Option Bool)) (fun y2 R2 => let v0 := List.getD x0.2 (Int.toNat y2.1) ([] : List (Cond));let v1 := set_Name.fn ((set_Tidy.fn (v0,())).1,());let v3 := [(set_Tidy.fn (v0,())).1];cond (decide (y2.1 < ((List.length x0.2 : Nat) : Int))) (((0 : Int) ≤ y2.1 ∧ y2.1 < ((List.length x0.2 : Nat) : Int)) ∧ (set_Tidy.pre (v0,()) ∧ cond (((set_Tidy.fn (v0,())).2).2 != (0 : Int)) (cond (((set_Tidy.fn (v0,())).2).2 != (0 : Int)) (Q (((0 : Int),([] : List (List (Cond)))),((set_Tidy.fn (v0,())).2).2)) (Q ((x0.1,([] : List (List (Cond)))),(0 : Int)))) (((!(((set_Tidy.fn (v0,())).2).1)) = true → ((!(((set_Tidy.fn (v0,())).2).1)) = true ∧ set_Name.pre ((set_Tidy.fn (v0,())).1,()))) ∧ (((!(((set_Tidy.fn (v0,())).2).1)) = true → ((!(((set_Tidy.fn (v0,())).2).1)) = true ∧ ((!(((set_Tidy.fn (v0,())).2).1)) = true ∧ True))) ∧ ((((set_Tidy.fn (v0,())).2).1 = false → (!(((set_Tidy.fn (v0,())).2).1)) = true) ∧ cond (((set_Tidy.fn (v0,())).2).1 || (Option.getD (y2.2.2 v1) false)) (fits IntKind.i64 (y2.1 + (1 : Int)) ∧ R2 ((y2.1 + (1 : Int)),y2.2)) (set_Name.pre ((set_Tidy.fn (v0,())).1,()) ∧ ((((List.length y2.2.1 + List.length v3) * 24) ≤ 140737488355328 ∧ (List.length y2.2.1 + List.length v3) ≤ 9223372036854775807) ∧ cond (decide ((400 : Int) < (((List.length (y2.2.1 ++ v3)) : Nat) : Int))) (Q (((0 : Int),([] : List (List (Cond)))),(3 : Int))) (fits IntKind.i64 (y2.1 + (1 : Int)) ∧ R2 ((y2.1 + (1 : Int)),((y2.2.1 ++ v3),mput y2.2.2 v1 true)))))))))) (Q ((x0.1,y2.2.1),(0 : Int)))) ((0 : Int),(([] : List (List (Cond))),fun (a2 : ByteArray) => (none : Option Bool))))
def slices_Concat_Sapi_Cond_api_Cond.wp (x0 : List (List Cond)) (Q : (List Cond) → Prop) : Prop := Lp (σ := Int × Int) (fun y2 R2 => let v0 := List.getD x0 (Int.toNat y2.1) ([] : List (Cond));cond (decide (y2.1 < ((List.length x0 : Nat) : Int))) (((0 : Int) ≤ y2.1 ∧ y2.1 < ((List.length x0 : Nat) : Int)) ∧ (fits IntKind.i64 (y2.2 + ((List.length v0 : Nat) : Int)) ∧ cond (decide ((y2.2 + ((List.length v0 : Nat) : Int)) < (0 : Int))) False (fits IntKind.i64 (y2.1 + (1 : Int)) ∧ R2 ((y2.1 + (1 : Int)),(y2.2 + ((List.length v0 : Nat) : Int)))))) (cond (decide (y2.2 < (0 : Int))) False (fits IntKind.i64 ((0 : Int) - (0 : Int)) ∧ (fits IntKind.i64 (y2.2 - ((0 : Int) - (0 : Int))) ∧ cond (decide ((0 : Int) < (y2.2 - ((0 : Int) - (0 : Int))))) (((0 : Int) ≤ (0 : Int) ∧ (0 : Int) ≤ ((0 : Nat) : Int)) ∧ (((0 : Int) ≤ (y2.2 - ((0 : Int) - (0 : Int))) ∧ (((y2.2 - ((0 : Int) - (0 : Int))) * ((48 : Nat) : Int)) ≤ (140737488355328 : Int) ∧ (y2.2 - ((0 : Int) - (0 : Int))) ≤ (9223372036854775807 : Int))) ∧ (((0 : Int) ≤ (0 : Int) ∧ (0 : Int) ≤ ((List.length (List.replicate (Int.toNat (y2.2 - ((0 : Int) - (0 : Int)))) dCond) : Nat) : Int)) ∧ Lp (σ := Int × List (Cond)) (fun y4 R4 => let v3 := List.getD x0 (Int.toNat y4.1) ([] : List (Cond));cond (decide (y4.1 < ((List.length x0 : Nat) : Int))) (((0 : Int) ≤ y4.1 ∧ y4.1 < ((List.length x0 : Nat) : Int)) ∧ ((((List.length y4.2 + List.length v3) * 48) ≤ 140737488355328 ∧ (List.length y4.2 + List.length v3) ≤ 9223372036854775807) ∧ (fits IntKind.i64 (y4.1 + (1 : Int)) ∧ R4 ((y4.1 + (1 : Int)),(y4.2 ++ v3))))) (Q y4.2)) ((0 : Int),([] : List (Cond)))))) (Lp (σ := Int × List (Cond)) (fun y4 R4 => let v3 := List.getD x0 (Int.toNat y4.1) ([] : List (Cond));cond (decide (y4.1 < ((List.length x0 : Nat) : Int))) (((0 : Int) ≤ y4.1 ∧ y4.1 < ((List.length x0 : Nat) : Int)) ∧ ((((List.length y4.2 + List.length v3) * 48) ≤ 140737488355328 ∧ (List.length y4.2 + List.length v3) ≤ 9223372036854775807) ∧ (fits IntKind.i64 (y4.1 + (1 : Int)) ∧ R4 ((y4.1 + (1 : Int)),(y4.2 ++ v3))))) (Q y4.2)) ((0 : Int),([] : List (Cond)))))))) ((0 : Int),(0 : Int))
def slices_Concat_SSapi_Cond_Sapi_Cond.wp (x0 : List (List (List Cond))) (Q : (List (List Cond)) → Prop) : Prop := Lp (σ := Int × Int) (fun y2 R2 => let v0 := List.getD x0 (Int.toNat y2.1) ([] : List (List (Cond)));cond (decide (y2.1 < ((List.length x0 : Nat) : Int))) (((0 : Int) ≤ y2.1 ∧ y2.1 < ((List.length x0 : Nat) : Int)) ∧ (fits IntKind.i64 (y2.2 + ((List.length v0 : Nat) : Int)) ∧ cond (decide ((y2.2 + ((List.length v0 : Nat) : Int)) < (0 : Int))) False (fits IntKind.i64 (y2.1 + (1 : Int)) ∧ R2 ((y2.1 + (1 : Int)),(y2.2 + ((List.length v0 : Nat) : Int)))))) (cond (decide (y2.2 < (0 : Int))) False (fits IntKind.i64 ((0 : Int) - (0 : Int)) ∧ (fits IntKind.i64 (y2.2 - ((0 : Int) - (0 : Int))) ∧ cond (decide ((0 : Int) < (y2.2 - ((0 : Int) - (0 : Int))))) (((0 : Int) ≤ (0 : Int) ∧ (0 : Int) ≤ ((0 : Nat) : Int)) ∧ (((0 : Int) ≤ (y2.2 - ((0 : Int) - (0 : Int))) ∧ (((y2.2 - ((0 : Int) - (0 : Int))) * ((24 : Nat) : Int)) ≤ (140737488355328 : Int) ∧ (y2.2 - ((0 : Int) - (0 : Int))) ≤ (9223372036854775807 : Int))) ∧ (((0 : Int) ≤ (0 : Int) ∧ (0 : Int) ≤ ((List.length (List.replicate (Int.toNat (y2.2 - ((0 : Int) - (0 : Int)))) ([] : List (Cond))) : Nat) : Int)) ∧ Lp (σ := Int × List (List (Cond))) (fun y4 R4 => let v3 := List.getD x0 (Int.toNat y4.1) ([] : List (List (Cond)));cond (decide (y4.1 < ((List.length x0 : Nat) : Int))) (((0 : Int) ≤ y4.1 ∧ y4.1 < ((List.length x0 : Nat) : Int)) ∧ ((((List.length y4.2 + List.length v3) * 24) ≤ 140737488355328 ∧ (List.length y4.2 + List.length v3) ≤ 9223372036854775807) ∧ (fits IntKind.i64 (y4.1 + (1 : Int)) ∧ R4 ((y4.1 + (1 : Int)),(y4.2 ++ v3))))) (Q y4.2)) ((0 : Int),([] : List (List (Cond))))))) (Lp (σ := Int × List (List (Cond))) (fun y4 R4 => let v3 := List.getD x0 (Int.toNat y4.1) ([] : List (List (Cond)));cond (decide (y4.1 < ((List.length x0 : Nat) : Int))) (((0 : Int) ≤ y4.1 ∧ y4.1 < ((List.length x0 : Nat) : Int)) ∧ ((((List.length y4.2 + List.length v3) * 24) ≤ 140737488355328 ∧ (List.length y4.2 + List.length v3) ≤ 9223372036854775807) ∧ (fits IntKind.i64 (y4.1 + (1 : Int)) ∧ R4 ((y4.1 + (1 : Int)),(y4.2 ++ v3))))) (Q y4.2)) ((0 : Int),([] : List (List (Cond))))))))) ((0 : Int),(0 : Int))
def set_cut.wp (x0 : List Cond) (x1 : List Cond) (Q : (List (List Cond)) × Int → Prop) : Prop := let v0 := slices_Concat_Sapi_Cond_api_Cond.fn ([x0,x1],());(slices_Concat_Sapi_Cond_api_Cond.pre ([x0,x1],()) ∧ (set_Tidy.pre (v0,()) ∧ cond (((set_Tidy.fn (v0,())).2).2 != (0 : Int)) (Q (([] : List (List (Cond))),((set_Tidy.fn (v0,())).2).2)) (cond (((set_Tidy.fn (v0,())).2).1) (Q ([x0],(0 : Int))) (Lp (σ := Int × List (List (Cond))) (fun y3 R3 => let v2 := cond_Negate.fn ((List.getD x1 (Int.toNat y3.1) dCond),());let v3 := List.take (Int.toNat y3.1) x1;cond (decide (y3.1 < ((List.length x1 : Nat) : Int))) (((0 : Int) ≤ y3.1 ∧ y3.1 < ((List.length x1 : Nat) : Int)) ∧ cond (v2.2 != (0 : Int)) (Q (([] : List (List (Cond))),v2.2)) (Lp (σ := Int × List (List (Cond))) (fun y5 R5 => let v4 := List.getD v2.1 (Int.toNat y5.1) dCond;let v5 := slices_Concat_Sapi_Cond_api_Cond.fn ([x0,v3,[v4]],());cond (decide (y5.1 < ((List.length v2.1 : Nat) : Int))) (((0 : Int) ≤ y5.1 ∧ y5.1 < ((List.length v2.1 : Nat) : Int)) ∧ (((0 : Int) ≤ y3.1 ∧ y3.1 ≤ ((List.length x1 : Nat) : Int)) ∧ (slices_Concat_Sapi_Cond_api_Cond.pre ([x0,v3,[v4]],()) ∧ ((((List.length y5.2 + List.length [v5]) * 24) ≤ 140737488355328 ∧ (List.length y5.2 + List.length [v5]) ≤ 9223372036854775807) ∧ (fits IntKind.i64 (y5.1 + (1 : Int)) ∧ R5 ((y5.1 + (1 : Int)),(y5.2 ++ [v5]))))))) (fits IntKind.i64 (y3.1 + (1 : Int)) ∧ R3 ((y3.1 + (1 : Int)),y5.2))) ((0 : Int),y3.2))) (Q (y3.2,(0 : Int)))) ((0 : Int),([] : List (List (Cond))))))))
def set_Minus.wp (x0 : Int × (List (List Cond))) (x1 : Int × (List (List Cond))) (Q : (Int × (List (List Cond))) × Int → Prop) : Prop := let v0 := set_right.fn (x0,(x1,()));let v1 := List.length (((set_Normal.fn (x1,())).1).2);cond (v0 != (0 : Int)) (Q (((0 : Int),([] : List (List (Cond)))),v0)) (((!((set_Normal.fn (x0,())).2 != (0 : Int))) = true → ((!((set_Normal.fn (x0,())).2 != (0 : Int))) = true ∧ True)) ∧ ((((set_Normal.fn (x0,())).2 != (0 : Int)) = false → (!((set_Normal.fn (x0,())).2 != (0 : Int))) = true) ∧ cond (((set_Normal.fn (x0,())).2 != (0 : Int)) || ((set_Normal.fn (x1,())).2 != (0 : Int))) (Q (((0 : Int),([] : List (List (Cond)))),(3 : Int))) (Lp (σ := Int × Int × Int × (List (List (Cond))) × Int) (fun y3 R3 => let v3 := List.getD (((set_Normal.fn (x1,())).1).2) (Int.toNat y3.1) ([] : List (Cond));cond (decide (y3.1 < ((v1 : Nat) : Int))) (((0 : Int) ≤ y3.1 ∧ y3.1 < ((v1 : Nat) : Int)) ∧ Lp (σ := Int × (List (List (Cond))) × (ByteArray → Option Bool)) (fun y5 R5 => let v2 := List.getD y3.2.2.2.1 (Int.toNat y5.1) ([] : List (Cond));let v4 := set_cut.fn (v2,(v3,()));cond (decide (y5.1 < ((List.length y3.2.2.2.1 : Nat) : Int))) (((0 : Int) ≤ y5.1 ∧ y5.1 < ((List.length y3.2.2.2.1 : Nat) : Int)) ∧ (set_cut.pre (v2,(v3,())) ∧ cond (v4.2 != (0 : Int)) (((!((0 : Int) != (0 : Int))) = true → ((!((0 : Int) != (0 : Int))) = true ∧ True)) ∧ ((((0 : Int) != (0 : Int)) = false → (!((0 : Int) != (0 : Int))) = true) ∧ cond (((0 : Int) != (0 : Int)) || (v4.2 != (0 : Int))) (Q (((0 : Int),([] : List (List (Cond)))),(3 : Int))) (fits IntKind.i64 (y3.1 + (1 : Int)) ∧ R3 ((y3.1 + (1 : Int)),((0 : Int),(x0.1,(y5.2.1,v4.2))))))) (Lp (σ := Int × (List (List (Cond))) × (ByteArray → Option Bool)) (fun y7 R7 => let v5 := List.getD v4.1 (Int.toNat y7.1) ([] : List (Cond));let v6 := set_Name.fn ((set_Tidy.fn (v5,())).1,());let v8 := [(set_Tidy.fn (v5,())).1];cond (decide (y7.1 < ((List.length v4.1 : Nat) : Int))) (((0 : Int) ≤ y7.1 ∧ y7.1 < ((List.length v4.1 : Nat) : Int)) ∧ (set_Tidy.pre (v5,()) ∧ cond (((set_Tidy.fn (v5,())).2).2 != (0 : Int)) (cond (((set_Tidy.fn (v5,())).2).2 != (0 : Int)) (((!(((set_Tidy.fn (v5,())).2).2 != (0 : Int))) = true → ((!(((set_Tidy.fn (v5,())).2).2 != (0 : Int))) = true ∧ True)) ∧ (((((set_Tidy.fn (v5,())).2).2 != (0 : Int)) = false → (!(((set_Tidy.fn (v5,())).2).2 != (0 : Int))) = true) ∧ cond ((((set_Tidy.fn (v5,())).2).2 != (0 : Int)) || (y3.2.2.2.2 != (0 : Int))) (Q (((0 : Int),([] : List (List (Cond)))),(3 : Int))) (fits IntKind.i64 (y3.1 + (1 : Int)) ∧ R3 ((y3.1 + (1 : Int)),(((set_Tidy.fn (v5,())).2).2,((0 : Int),(([] : List (List (Cond))),y3.2.2.2.2))))))) (((!((0 : Int) != (0 : Int))) = true → ((!((0 : Int) != (0 : Int))) = true ∧ True)) ∧ ((((0 : Int) != (0 : Int)) = false → (!((0 : Int) != (0 : Int))) = true) ∧ cond (((0 : Int) != (0 : Int)) || (y3.2.2.2.2 != (0 : Int))) (Q (((0 : Int),([] : List (List (Cond)))),(3 : Int))) (fits IntKind.i64 (y3.1 + (1 : Int)) ∧ R3 ((y3.1 + (1 : Int)),((0 : Int),(x0.1,(([] : List (List (Cond))),y3.2.2.2.2)))))))) (((!(((set_Tidy.fn (v5,())).2).1)) = true → ((!(((set_Tidy.fn (v5,())).2).1)) = true ∧ set_Name.pre ((set_Tidy.fn (v5,())).1,()))) ∧ (((!(((set_Tidy.fn (v5,())).2).1)) = true → ((!(((set_Tidy.fn (v5,())).2).1)) = true ∧ ((!(((set_Tidy.fn (v5,())).2).1)) = true ∧ True))) ∧ ((((set_Tidy.fn (v5,())).2).1 = false → (!(((set_Tidy.fn (v5,())).2).1)) = true) ∧ cond (((set_Tidy.fn (v5,())).2).1 || (Option.getD (y7.2.2 v6) false)) (fits IntKind.i64 (y7.1 + (1 : Int)) ∧ R7 ((y7.1 + (1 : Int)),y7.2)) (set_Name.pre ((set_Tidy.fn (v5,())).1,()) ∧ ((((List.length y7.2.1 + List.length v8) * 24) ≤ 140737488355328 ∧ (List.length y7.2.1 + List.length v8) ≤ 9223372036854775807) ∧ cond (decide ((400 : Int) < (((List.length (y7.2.1 ++ v8)) : Nat) : Int))) (((!((3 : Int) != (0 : Int))) = true → ((!((3 : Int) != (0 : Int))) = true ∧ True)) ∧ ((((3 : Int) != (0 : Int)) = false → (!((3 : Int) != (0 : Int))) = true) ∧ Q (((0 : Int),([] : List (List (Cond)))),(3 : Int)))) (fits IntKind.i64 (y7.1 + (1 : Int)) ∧ R7 ((y7.1 + (1 : Int)),((y7.2.1 ++ v8),mput y7.2.2 v6 true)))))))))) (fits IntKind.i64 (y5.1 + (1 : Int)) ∧ R5 ((y5.1 + (1 : Int)),y7.2))) ((0 : Int),y5.2)))) (((!((0 : Int) != (0 : Int))) = true → ((!((0 : Int) != (0 : Int))) = true ∧ True)) ∧ ((((0 : Int) != (0 : Int)) = false → (!((0 : Int) != (0 : Int))) = true) ∧ cond (((0 : Int) != (0 : Int)) || (y3.2.2.2.2 != (0 : Int))) (Q (((0 : Int),([] : List (List (Cond)))),(3 : Int))) (fits IntKind.i64 (y3.1 + (1 : Int)) ∧ R3 ((y3.1 + (1 : Int)),((0 : Int),(x0.1,(y5.2.1,y3.2.2.2.2)))))))) ((0 : Int),(([] : List (List (Cond))),fun (a5 : ByteArray) => (none : Option Bool)))) (Q ((y3.2.2.1,y3.2.2.2.1),(0 : Int)))) ((0 : Int),((set_Normal.fn (x0,())).2,(((set_Normal.fn (x0,())).1).1,(((set_Normal.fn (x0,())).1).2,(0 : Int))))))))
def set_Meet.wp (x0 : Int × (List (List Cond))) (x1 : Int × (List (List Cond))) (Q : (Int × (List (List Cond))) × Int → Prop) : Prop := let v0 := set_right.fn (x0,(x1,()));cond (v0 != (0 : Int)) (Q (((0 : Int),([] : List (List (Cond)))),v0)) (Lp (σ := Int × (List (List (Cond))) × (ByteArray → Option Bool)) (fun y3 R3 => let v1 := List.getD x0.2 (Int.toNat y3.1) ([] : List (Cond));cond (decide (y3.1 < ((List.length x0.2 : Nat) : Int))) (((0 : Int) ≤ y3.1 ∧ y3.1 < ((List.length x0.2 : Nat) : Int)) ∧ Lp (σ := Int × (List (List (Cond))) × (ByteArray → Option Bool)) (fun y5 R5 => let v2 := List.getD x1.2 (Int.toNat y5.1) ([] : List (Cond));let v3 := slices_Concat_Sapi_Cond_api_Cond.fn ([v1,v2],());let v4 := set_Name.fn ((set_Tidy.fn (v3,())).1,());let v6 := [(set_Tidy.fn (v3,())).1];cond (decide (y5.1 < ((List.length x1.2 : Nat) : Int))) (((0 : Int) ≤ y5.1 ∧ y5.1 < ((List.length x1.2 : Nat) : Int)) ∧ (slices_Concat_Sapi_Cond_api_Cond.pre ([v1,v2],()) ∧ (set_Tidy.pre (v3,()) ∧ cond (((set_Tidy.fn (v3,())).2).2 != (0 : Int)) (cond (((set_Tidy.fn (v3,())).2).2 != (0 : Int)) (Q (((0 : Int),([] : List (List (Cond)))),((set_Tidy.fn (v3,())).2).2)) (Q ((x0.1,([] : List (List (Cond)))),(0 : Int)))) (((!(((set_Tidy.fn (v3,())).2).1)) = true → ((!(((set_Tidy.fn (v3,())).2).1)) = true ∧ set_Name.pre ((set_Tidy.fn (v3,())).1,()))) ∧ (((!(((set_Tidy.fn (v3,())).2).1)) = true → ((!(((set_Tidy.fn (v3,())).2).1)) = true ∧ ((!(((set_Tidy.fn (v3,())).2).1)) = true ∧ True))) ∧ ((((set_Tidy.fn (v3,())).2).1 = false → (!(((set_Tidy.fn (v3,())).2).1)) = true) ∧ cond (((set_Tidy.fn (v3,())).2).1 || (Option.getD (y5.2.2 v4) false)) (fits IntKind.i64 (y5.1 + (1 : Int)) ∧ R5 ((y5.1 + (1 : Int)),y5.2)) (set_Name.pre ((set_Tidy.fn (v3,())).1,()) ∧ ((((List.length y5.2.1 + List.length v6) * 24) ≤ 140737488355328 ∧ (List.length y5.2.1 + List.length v6) ≤ 9223372036854775807) ∧ cond (decide ((400 : Int) < (((List.length (y5.2.1 ++ v6)) : Nat) : Int))) (Q (((0 : Int),([] : List (List (Cond)))),(3 : Int))) (fits IntKind.i64 (y5.1 + (1 : Int)) ∧ R5 ((y5.1 + (1 : Int)),((y5.2.1 ++ v6),mput y5.2.2 v4 true))))))))))) (fits IntKind.i64 (y3.1 + (1 : Int)) ∧ R3 ((y3.1 + (1 : Int)),y5.2))) ((0 : Int),y3.2)) (Q ((x0.1,y3.2.1),(0 : Int)))) ((0 : Int),(([] : List (List (Cond))),fun (a3 : ByteArray) => (none : Option Bool))))
def set_Union.wp (x0 : Int × (List (List Cond))) (x1 : Int × (List (List Cond))) (Q : (Int × (List (List Cond))) × Int → Prop) : Prop := let v0 := set_right.fn (x0,(x1,()));let v1 := slices_Concat_SSapi_Cond_Sapi_Cond.fn ([x0.2,x1.2],());cond (v0 != (0 : Int)) (Q (((0 : Int),([] : List (List (Cond)))),v0)) (slices_Concat_SSapi_Cond_Sapi_Cond.pre ([x0.2,x1.2],()) ∧ Lp (σ := Int × (List (List (Cond))) × (ByteArray → Option Bool)) (fun y3 R3 => let v2 := List.getD v1 (Int.toNat y3.1) ([] : List (Cond));let v3 := set_Name.fn ((set_Tidy.fn (v2,())).1,());let v5 := [(set_Tidy.fn (v2,())).1];cond (decide (y3.1 < ((List.length v1 : Nat) : Int))) (((0 : Int) ≤ y3.1 ∧ y3.1 < ((List.length v1 : Nat) : Int)) ∧ (set_Tidy.pre (v2,()) ∧ cond (((set_Tidy.fn (v2,())).2).2 != (0 : Int)) (cond (((set_Tidy.fn (v2,())).2).2 != (0 : Int)) (Q (((0 : Int),([] : List (List (Cond)))),((set_Tidy.fn (v2,())).2).2)) (Q ((x0.1,([] : List (List (Cond)))),(0 : Int)))) (((!(((set_Tidy.fn (v2,())).2).1)) = true → ((!(((set_Tidy.fn (v2,())).2).1)) = true ∧ set_Name.pre ((set_Tidy.fn (v2,())).1,()))) ∧ (((!(((set_Tidy.fn (v2,())).2).1)) = true → ((!(((set_Tidy.fn (v2,())).2).1)) = true ∧ ((!(((set_Tidy.fn (v2,())).2).1)) = true ∧ True))) ∧ ((((set_Tidy.fn (v2,())).2).1 = false → (!(((set_Tidy.fn (v2,())).2).1)) = true) ∧ cond (((set_Tidy.fn (v2,())).2).1 || (Option.getD (y3.2.2 v3) false)) (fits IntKind.i64 (y3.1 + (1 : Int)) ∧ R3 ((y3.1 + (1 : Int)),y3.2)) (set_Name.pre ((set_Tidy.fn (v2,())).1,()) ∧ ((((List.length y3.2.1 + List.length v5) * 24) ≤ 140737488355328 ∧ (List.length y3.2.1 + List.length v5) ≤ 9223372036854775807) ∧ cond (decide ((400 : Int) < (((List.length (y3.2.1 ++ v5)) : Nat) : Int))) (Q (((0 : Int),([] : List (List (Cond)))),(3 : Int))) (fits IntKind.i64 (y3.1 + (1 : Int)) ∧ R3 ((y3.1 + (1 : Int)),((y3.2.1 ++ v5),mput y3.2.2 v3 true)))))))))) (Q ((x0.1,y3.2.1),(0 : Int)))) ((0 : Int),(([] : List (List (Cond))),fun (a3 : ByteArray) => (none : Option Bool))))
def set_Simple_1.wp (x0 : Cond) (Q : Bool → Prop) : Prop := Q (!(cond_Valid.fn (x0,())))
def set_Simple.wp (x0 : List Cond) (x1 : Int) (Q : (List Cond) × Bool × Int → Prop) : Prop := (((!(decide (x1 < (0 : Int)))) = true → ((!(decide (x1 < (0 : Int)))) = true ∧ True)) ∧ ((decide (x1 < (0 : Int)) = false → (!(decide (x1 < (0 : Int)))) = true) ∧ cond (decide (x1 < (0 : Int)) || decide ((12 : Int) < x1)) (Q (([] : List (Cond)),(false,(6 : Int)))) (cond (decide ((384 : Int) < ((List.length x0 : Nat) : Int))) (Q (([] : List (Cond)),(false,(3 : Int)))) (slices_ContainsFunc_Sapi_Cond_api_Cond.pre (x0,((fun (a3 : Cond) => True,fun (a3 : Cond) => set_Simple_1.fn (a3,())),())) ∧ cond (slices_ContainsFunc_Sapi_Cond_api_Cond.fn (x0,((fun (a3 : Cond) => True,fun (a3 : Cond) => set_Simple_1.fn (a3,())),()))) (Q (([] : List (Cond)),(false,(1 : Int)))) (cond (!(set_over.fn (x0,(x1,())))) (Q (([] : List (Cond)),(false,(2 : Int)))) (set_Tidy.pre (x0,()) ∧ Q ((set_Tidy.fn (x0,())).1,((set_Tidy.fn (x0,())).2))))))))
def slices_IndexFunc_SSapi_Cond_Sapi_Cond.wp (x0 : List (List Cond)) (x1 : ((List Cond) → Prop) × ((List Cond) → Bool)) (Q : Int → Prop) : Prop := Lp (σ := Int) (fun y3 R3 => let v0 := List.getD x0 (Int.toNat y3) ([] : List (Cond));cond (decide (y3 < ((List.length x0 : Nat) : Int))) (((0 : Int) ≤ y3 ∧ y3 < ((List.length x0 : Nat) : Int)) ∧ (x1.1 v0 ∧ cond (x1.2 v0) (Q y3) (fits IntKind.i64 (y3 + (1 : Int)) ∧ R3 (y3 + (1 : Int))))) (Q (-(1 : Int)))) (0 : Int)
def slices_ContainsFunc_SSapi_Cond_Sapi_Cond.wp (x0 : List (List Cond)) (x1 : ((List Cond) → Prop) × ((List Cond) → Bool)) (Q : Bool → Prop) : Prop := (slices_IndexFunc_SSapi_Cond_Sapi_Cond.pre (x0,((fun (a3 : List (Cond)) => x1.1 a3,fun (a3 : List (Cond)) => x1.2 a3),())) ∧ Q (decide ((0 : Int) ≤ (slices_IndexFunc_SSapi_Cond_Sapi_Cond.fn (x0,((fun (a3 : List (Cond)) => x1.1 a3,fun (a3 : List (Cond)) => x1.2 a3),()))))))
def num_Dot.wp (x0 : List Int) (x1 : List Int) (Q : Int × Int → Prop) : Prop := cond (((List.length x0 : Nat) : Int) != ((List.length x1 : Nat) : Int)) (Q ((0 : Int),(2 : Int))) (cond (decide ((12 : Int) < ((List.length x0 : Nat) : Int))) (Q ((0 : Int),(3 : Int))) (Lp (σ := Int × Int) (fun y3 R3 => let v0 := List.getD x0 (Int.toNat y3.1) (0 : Int);let v1 := List.getD x1 (Int.toNat y3.1) (0 : Int);cond (decide (y3.1 < ((List.length x0 : Nat) : Int))) (((0 : Int) ≤ y3.1 ∧ y3.1 < ((List.length x0 : Nat) : Int)) ∧ (((!(!(num_Fits.fn (v0,())))) = true → ((!(!(num_Fits.fn (v0,())))) = true ∧ ((!(!(num_Fits.fn (v0,())))) = true ∧ ((0 : Int) ≤ y3.1 ∧ y3.1 < ((List.length x1 : Nat) : Int))))) ∧ (((!(!(num_Fits.fn (v0,())))) = true → ((!(!(num_Fits.fn (v0,())))) = true ∧ True)) ∧ (((!(!(num_Fits.fn (v0,())))) = true → ((!(!(num_Fits.fn (v0,())))) = true ∧ True)) ∧ (((!(num_Fits.fn (v0,()))) = false → (!(!(num_Fits.fn (v0,())))) = true) ∧ (((!((!(num_Fits.fn (v0,()))) || decide (v1 < (-(4294967296 : Int))))) = true → ((!((!(num_Fits.fn (v0,()))) || decide (v1 < (-(4294967296 : Int))))) = true ∧ ((!((!(num_Fits.fn (v0,()))) || decide (v1 < (-(4294967296 : Int))))) = true ∧ ((0 : Int) ≤ y3.1 ∧ y3.1 < ((List.length x1 : Nat) : Int))))) ∧ (((!((!(num_Fits.fn (v0,()))) || decide (v1 < (-(4294967296 : Int))))) = true → ((!((!(num_Fits.fn (v0,()))) || decide (v1 < (-(4294967296 : Int))))) = true ∧ True)) ∧ (((!((!(num_Fits.fn (v0,()))) || decide (v1 < (-(4294967296 : Int))))) = true → ((!((!(num_Fits.fn (v0,()))) || decide (v1 < (-(4294967296 : Int))))) = true ∧ True)) ∧ ((((!(num_Fits.fn (v0,()))) || decide (v1 < (-(4294967296 : Int)))) = false → (!((!(num_Fits.fn (v0,()))) || decide (v1 < (-(4294967296 : Int))))) = true) ∧ cond (((!(num_Fits.fn (v0,()))) || decide (v1 < (-(4294967296 : Int)))) || decide ((4294967296 : Int) < v1)) (Q ((0 : Int),(6 : Int))) (((0 : Int) ≤ y3.1 ∧ y3.1 < ((List.length x0 : Nat) : Int)) ∧ (((0 : Int) ≤ y3.1 ∧ y3.1 < ((List.length x1 : Nat) : Int)) ∧ (fits IntKind.i64 (v0 * v1) ∧ (fits IntKind.i64 (y3.2 + (v0 * v1)) ∧ (fits IntKind.i64 (y3.1 + (1 : Int)) ∧ R3 ((y3.1 + (1 : Int)),(y3.2 + (v0 * v1))))))))))))))))) (Q (y3.2,(0 : Int)))) ((0 : Int),(0 : Int))))
def lin_At.wp (x0 : Lin) (x1 : List Int) (Q : Int × Int → Prop) : Prop := let v0 := num_Dot.fn (x0.1,(x1,()));cond (!(lin_Valid.fn (x0,()))) (Q ((0 : Int),(1 : Int))) (cond (v0.2 != (0 : Int)) (Q ((0 : Int),v0.2)) (fits IntKind.i64 (x0.2 + v0.1) ∧ Q ((x0.2 + v0.1),(0 : Int))))
def cond_Holds.wp (x0 : Cond) (x1 : List Int) (Q : Bool × Int → Prop) : Prop := let v0 := lin_At.fn (x0.2.2,(x1,()));cond (!(cond_Valid.fn (x0,()))) (Q (false,(1 : Int))) (cond (v0.2 != (0 : Int)) (Q (false,v0.2)) (cond (x0.1 == (0 : Int)) (Q (decide ((0 : Int) ≤ v0.1),(0 : Int))) (cond (x0.1 == (1 : Int)) (Q ((v0.1 == (0 : Int)),(0 : Int))) (x0.2.1 ≠ (0 : Int) ∧ Q ((Int.tmod v0.1 x0.2.1 == (0 : Int)),(0 : Int))))))
def set_Has_1_1.wp (x0 : Cond) (x1 : List Int) (Q : Bool → Prop) : Prop := Q (!(cond_Holds.fn (x0,(x1,()))).1)
def set_Has_1.wp (x0 : List Cond) (x1 : List Int) (Q : Bool → Prop) : Prop := (slices_ContainsFunc_Sapi_Cond_api_Cond.pre (x0,((fun (a3 : Cond) => True,fun (a3 : Cond) => set_Has_1_1.fn (a3,(x1,()))),())) ∧ Q (!(slices_ContainsFunc_Sapi_Cond_api_Cond.fn (x0,((fun (a3 : Cond) => True,fun (a3 : Cond) => set_Has_1_1.fn (a3,(x1,()))),())))))
def set_Has.wp (x0 : Int × (List (List Cond))) (x1 : List Int) (Q : Bool × Int → Prop) : Prop := cond (!(set_Valid.fn (x0,()))) (Q (false,(1 : Int))) (cond (((List.length x1 : Nat) : Int) != x0.1) (Q (false,(2 : Int))) (Lp (σ := Int) (fun y3 R3 => let v0 := List.getD x1 (Int.toNat y3) (0 : Int);cond (decide (y3 < ((List.length x1 : Nat) : Int))) (((0 : Int) ≤ y3 ∧ y3 < ((List.length x1 : Nat) : Int)) ∧ (((!(decide (v0 < (-(4294967296 : Int))))) = true → ((!(decide (v0 < (-(4294967296 : Int))))) = true ∧ True)) ∧ ((decide (v0 < (-(4294967296 : Int))) = false → (!(decide (v0 < (-(4294967296 : Int))))) = true) ∧ cond (decide (v0 < (-(4294967296 : Int))) || decide ((4294967296 : Int) < v0)) (Q (false,(6 : Int))) (fits IntKind.i64 (y3 + (1 : Int)) ∧ R3 (y3 + (1 : Int)))))) (slices_ContainsFunc_SSapi_Cond_Sapi_Cond.pre (x0.2,((fun (a5 : List (Cond)) => True,fun (a5 : List (Cond)) => set_Has_1.fn (a5,(x1,()))),())) ∧ Q ((slices_ContainsFunc_SSapi_Cond_Sapi_Cond.fn (x0.2,((fun (a5 : List (Cond)) => True,fun (a5 : List (Cond)) => set_Has_1.fn (a5,(x1,()))),()))),(0 : Int)))) (0 : Int)))
theorem tidyF_P {P : Cond → Prop} (hmin : ∀ d c,P d → P c → P (minK d c.2.2.2)) (heq : ∀ c,c.1 = 0 → P c → P (rawF (1,0,c.2.2)).1) {p : List Cond} (hb : pieceB p) (h : ∀ d ∈ rawL p,P d) : ∀ d ∈ (tidyF p).1,P d := by
  rw [tidyF_eq]
  split
  · simp
  · rcases opt_cases ((pairF (leastF (rawL p))).bind settleF) with ho | ⟨out,ho⟩
    · rw [ho];simp
    · rw [ho]
      simp only
      split
      · simp
      · obtain ⟨o1,h1,h2⟩ := Option.bind_eq_some_iff.1 ho
        have k3 : K3 out := by
          have := settleF_B (pairF_B (leastF_B (rawL_B hb)) h1) h2
          exact fun c hc => (this.2 c hc).k3
        intro d hd
        rw [sortU_mem k3] at hd
        exact settleF_P (pairF_P heq (leastF_P hmin h) h1) h2 d hd
theorem tidyF_err (p : List Cond) : (tidyF p).2.2 = 0 ∨ ((tidyF p).2.2 = 3 ∧ (tidyF p).2.1 = false) := by
  rw [tidyF_eq]
  split
  · exact .inl rfl
  · split
    · exact .inl rfl
    · split
      · exact .inr ⟨rfl,rfl⟩
      · exact .inl rfl
theorem tidyF_len (p : List Cond) : (tidyF p).1.length ≤ 96 := by
  rw [tidyF_eq]
  split
  · simp
  · split
    · simp
    · split
      · simp
      · rename_i h
        simp only [Bool.or_eq_true,decide_eq_true_eq,not_or] at h
        simp only;omega
theorem fit_iff {n : Int} : Fit n = true ↔ -1048576 ≤ n ∧ n ≤ 1048576 := by simp [Fit]
theorem valid_const {k m K K' : Int} {C : List Int} (h : condValid (k,m,C,K) = true) (hK : Fit K' = true) : condValid (k,m,C,K') = true := by
  have key : linValid (C,K) = true → linValid (C,K') = true := by
    intro h
    simp only [linValid,Bool.and_eq_true] at h ⊢
    exact ⟨h.1,h.2.1,hK⟩
  simp only [condValid] at *
  split at h
  · rename_i h0;rw [if_pos h0];simp only [Bool.and_eq_true] at h ⊢;exact ⟨h.1,key h.2⟩
  · rename_i h0
    rw [if_neg h0]
    split at h
    · rename_i h1;rw [if_pos h1];simp only [Bool.and_eq_true] at h ⊢;exact ⟨h.1,key h.2⟩
    · cases h
theorem minK_valid {d c : Cond} (hd : condValid d = true) (hc : condValid c = true) : condValid (minK d c.2.2.2) = true := by
  have h1 := (linValid.b (condValid.lin hc)).2.2
  have h2 := (linValid.b (condValid.lin hd)).2.2
  exact valid_const hd (fit_iff.2 (by omega))
theorem dCond_valid : condValid dCond = true := by decide
theorem linValid_mk {C : List Int} {K : Int} (h1 : C.length ≤ 12) (h2 : ∀ n ∈ C,Fit n = true) (h3 : Fit K = true) : linValid (C,K) = true := by
  simp only [linValid,Bool.and_eq_true,List.all_eq_true,decide_eq_true_eq]
  exact ⟨h2,by omega,h3⟩
theorem valid_eq {C : List Int} {K : Int} (h : linValid (C,K) = true) : condValid (1,0,C,K) = true := by simp [condValid,h]
theorem eqF_valid {c : Cond} (h : linValid c.2.2 = true) : condValid (rawF (1,0,c.2.2)).1 = true := by
  simp only [rawF,show (1 : Int) ≠ 0 by decide,if_true,if_false]
  unfold eqF
  split
  · unfold sureF;exact dCond_valid
  · obtain ⟨h1,h2,h3⟩ := linValid.b h
    have key : ∀ n g : Int,(-1048576 ≤ n ∧ n ≤ 1048576) → Fit (n.tdiv g) = true := fun n g hn => by
      have := natAbs_tdiv_le n g
      rw [fit_iff];omega
    refine valid_eq (linValid_mk (by simpa using h1) (fun n hn => ?_) (key _ _ h3))
    obtain ⟨m,hm,rfl⟩ := List.mem_map.1 hn
    exact key _ _ (h2 m hm)
theorem tidyF_bad {p : List Cond} (h : (rawL p).any (fun c => !condValid c) = true) : (tidyF p).1 = [] := by
  rw [tidyF_eq]
  split
  · rfl
  · rcases opt_cases ((pairF (leastF (rawL p))).bind settleF) with ho | ⟨out,ho⟩
    · rw [ho]
    · rw [ho]
      simp only [h,Bool.true_or,if_true]
theorem tidyF_valid {p : List Cond} (hb : pieceB p) : ∀ d ∈ (tidyF p).1,condValid d = true := by
  by_cases h : (rawL p).any (fun c => !condValid c) = true
  · rw [tidyF_bad h];simp
  · refine tidyF_P (P := fun d => condValid d = true) (fun d c => minK_valid) (fun c _ hc => eqF_valid (condValid.lin hc)) hb fun d hd => ?_
    cases hc : condValid d with
    | true => rfl
    | false => exact absurd (List.any_eq_true.2 ⟨d,hd,by rw [hc];rfl⟩) h
theorem tidyF_ok {p : List Cond} (hb : pieceB p) : validP (tidyF p).1 := ⟨by have := tidyF_len p;omega,tidyF_valid hb⟩
theorem validP.B {p : List Cond} (h : validP p) : pieceB p := ⟨by have := h.1;omega,fun c hc => condValid.condB (h.2 c hc)⟩
theorem validP.name {p : List Cond} (h : validP p) : nameOk p := by
  refine ⟨by have := h.1;omega,fun c hc => ?_⟩
  have hv := h.2 c hc
  obtain ⟨h1,h2,h3⟩ := linValid.b (condValid.lin hv)
  refine ⟨by omega,fun n hn => by have := h2 n hn;omega,fun n hn => ?_⟩
  have hk := condValid.kind hv
  simp only [List.mem_cons,List.not_mem_nil,or_false] at hn
  rcases hn with rfl | rfl | rfl
  · omega
  · omega
  · omega
theorem validP.append {p q : List Cond} (h : validP p) (h2 : validP q) (hl : p.length + q.length ≤ 4096) : validP (p ++ q) := ⟨by simp;omega,fun c hc => (List.mem_append.1 hc).elim (h.2 c) (h2.2 c)⟩
theorem flatten_take_len {α : Type} : ∀ (l : List (List α)) (i : Nat),(l.take i).flatten.length ≤ l.flatten.length
  | [],i => by simp
  | x :: l,0 => by simp
  | x :: l,i + 1 => by
    have := flatten_take_len l i
    simp only [List.take_succ_cons,List.flatten_cons,List.length_append];omega
theorem flatten_take_succ {α : Type} {l : List (List α)} {i : Nat} (h : i < l.length) : (l.take (i + 1)).flatten = (l.take i).flatten ++ l.getD i [] := by
  rw [take_succ_getD [] h];simp
theorem slices_Concat_Sapi_Cond_api_Cond.spec (l : List (List Cond)) (hp : slices_Concat_Sapi_Cond_api_Cond.pre (l,())) : slices_Concat_Sapi_Cond_api_Cond.wp l (fun r => r = slices_Concat_Sapi_Cond_api_Cond.fn (l,())) := by
  obtain ⟨hl,ht⟩ := hp
  simp only at hl ht
  have hfn : slices_Concat_Sapi_Cond_api_Cond.fn (l,()) = l.flatten := rfl
  simp only [slices_Concat_Sapi_Cond_api_Cond.wp,hfn]
  refine Lp.iter l.length (fun i y => y = ((i : Int),(((l.take i).flatten.length : Nat) : Int))) rfl ?_
  rintro i y hle rfl R hR
  by_cases e : i < l.length
  · have h1 := flatten_take_len l (i + 1)
    rw [flatten_take_succ e,List.length_append] at h1
    simp only [decide_eq_true (show (i : Int) < (l.length : Int) by omega),Int.toNat_natCast,cond_true,decide_eq_false (show ¬ (((l.take i).flatten.length : Nat) : Int) + ((l.getD i []).length : Int) < 0 by omega),cond_false]
    refine ⟨⟨by omega,by omega⟩,⟨by omega,by omega⟩,⟨by omega,by omega⟩,hR e _ ?_⟩
    rw [flatten_take_succ e,List.length_append]
    rfl
  · have : i = l.length := by omega
    subst this
    clear hR hle
    have hbuild : ∀ {body : Int × List Cond → (Int × List Cond → Prop) → Prop},(∀ i R,i < l.length → (fits .i64 ((i : Int) + 1)) → R ((i : Int) + 1,(l.take i).flatten ++ l.getD i []) → body ((i : Int),(l.take i).flatten) R) → (∀ R,body ((l.length : Int),l.flatten) R) → Lp body (0,[]) := by
      intro body hb1 hb2
      refine Lp.iter l.length (fun i y => y = ((i : Int),(l.take i).flatten)) (by simp) ?_
      rintro i y hle rfl R hR
      by_cases e : i < l.length
      · refine hb1 i R e ⟨by omega,by omega⟩ ?_
        rw [← flatten_take_succ e]
        exact hR e _ rfl
      · have : i = l.length := by omega
        subst this
        rw [List.take_length]
        exact hb2 R
    simp only [List.take_length,Int.lt_irrefl,decide_false,cond_false,decide_eq_false (show ¬ ((l.flatten.length : Nat) : Int) < 0 by omega),Int.sub_zero,Int.sub_self]
    refine ⟨⟨by omega,by omega⟩,⟨by omega,by omega⟩,?_⟩
    have hb1 : ∀ i,i < l.length → (((l.take i).flatten.length + (l.getD i []).length) * 48 ≤ 140737488355328 ∧ (l.take i).flatten.length + (l.getD i []).length ≤ 9223372036854775807) ∧ (0 ≤ (i : Int) ∧ (i : Int) < (l.length : Int)) := fun i hi => by
      have h1 := flatten_take_len l (i + 1)
      rw [flatten_take_succ hi,List.length_append] at h1
      omega
    by_cases h0 : 0 < l.flatten.length
    · simp only [decide_eq_true (show (0 : Int) < (l.flatten.length : Int) by omega),cond_true]
      refine ⟨⟨by omega,by omega⟩,⟨by omega,by omega,by omega⟩,⟨by omega,by omega⟩,hbuild (fun i R hi hf hR => ?_) (fun R => ?_)⟩
      · simp only [decide_eq_true (show (i : Int) < (l.length : Int) by omega),Int.toNat_natCast,cond_true]
        exact ⟨(hb1 i hi).2,(hb1 i hi).1,hf,hR⟩
      · simp only [Int.lt_irrefl,decide_false,cond_false]
    · simp only [decide_eq_false (show ¬ (0 : Int) < (l.flatten.length : Int) by omega),cond_false]
      refine hbuild (fun i R hi hf hR => ?_) (fun R => ?_)
      · simp only [decide_eq_true (show (i : Int) < (l.length : Int) by omega),Int.toNat_natCast,cond_true]
        exact ⟨(hb1 i hi).2,(hb1 i hi).1,hf,hR⟩
      · simp only [Int.lt_irrefl,decide_false,cond_false]
theorem slices_Concat_SSapi_Cond_Sapi_Cond.spec (l : List (List (List Cond))) (hp : slices_Concat_SSapi_Cond_Sapi_Cond.pre (l,())) : slices_Concat_SSapi_Cond_Sapi_Cond.wp l (fun r => r = slices_Concat_SSapi_Cond_Sapi_Cond.fn (l,())) := by
  obtain ⟨hl,ht⟩ := hp
  simp only at hl ht
  have hfn : slices_Concat_SSapi_Cond_Sapi_Cond.fn (l,()) = l.flatten := rfl
  simp only [slices_Concat_SSapi_Cond_Sapi_Cond.wp,hfn]
  refine Lp.iter l.length (fun i y => y = ((i : Int),(((l.take i).flatten.length : Nat) : Int))) rfl ?_
  rintro i y hle rfl R hR
  by_cases e : i < l.length
  · have h1 := flatten_take_len l (i + 1)
    rw [flatten_take_succ e,List.length_append] at h1
    simp only [decide_eq_true (show (i : Int) < (l.length : Int) by omega),Int.toNat_natCast,cond_true,decide_eq_false (show ¬ (((l.take i).flatten.length : Nat) : Int) + ((l.getD i []).length : Int) < 0 by omega),cond_false]
    refine ⟨⟨by omega,by omega⟩,⟨by omega,by omega⟩,⟨by omega,by omega⟩,hR e _ ?_⟩
    rw [flatten_take_succ e,List.length_append]
    rfl
  · have : i = l.length := by omega
    subst this
    clear hR hle
    have hbuild : ∀ {body : Int × List (List Cond) → (Int × List (List Cond) → Prop) → Prop},(∀ i R,i < l.length → (fits .i64 ((i : Int) + 1)) → R ((i : Int) + 1,(l.take i).flatten ++ l.getD i []) → body ((i : Int),(l.take i).flatten) R) → (∀ R,body ((l.length : Int),l.flatten) R) → Lp body (0,[]) := by
      intro body hb1 hb2
      refine Lp.iter l.length (fun i y => y = ((i : Int),(l.take i).flatten)) (by simp) ?_
      rintro i y hle rfl R hR
      by_cases e : i < l.length
      · refine hb1 i R e ⟨by omega,by omega⟩ ?_
        rw [← flatten_take_succ e]
        exact hR e _ rfl
      · have : i = l.length := by omega
        subst this
        rw [List.take_length]
        exact hb2 R
    simp only [List.take_length,Int.lt_irrefl,decide_false,cond_false,decide_eq_false (show ¬ ((l.flatten.length : Nat) : Int) < 0 by omega),Int.sub_zero,Int.sub_self]
    refine ⟨⟨by omega,by omega⟩,⟨by omega,by omega⟩,?_⟩
    have hb1 : ∀ i,i < l.length → (((l.take i).flatten.length + (l.getD i []).length) * 24 ≤ 140737488355328 ∧ (l.take i).flatten.length + (l.getD i []).length ≤ 9223372036854775807) ∧ (0 ≤ (i : Int) ∧ (i : Int) < (l.length : Int)) := fun i hi => by
      have h1 := flatten_take_len l (i + 1)
      rw [flatten_take_succ hi,List.length_append] at h1
      omega
    by_cases h0 : 0 < l.flatten.length
    · simp only [decide_eq_true (show (0 : Int) < (l.flatten.length : Int) by omega),cond_true]
      refine ⟨⟨by omega,by omega⟩,⟨by omega,by omega,by omega⟩,⟨by omega,by omega⟩,hbuild (fun i R hi hf hR => ?_) (fun R => ?_)⟩
      · simp only [decide_eq_true (show (i : Int) < (l.length : Int) by omega),Int.toNat_natCast,cond_true]
        exact ⟨(hb1 i hi).2,(hb1 i hi).1,hf,hR⟩
      · simp only [Int.lt_irrefl,decide_false,cond_false]
    · simp only [decide_eq_false (show ¬ (0 : Int) < (l.flatten.length : Int) by omega),cond_false]
      refine hbuild (fun i R hi hf hR => ?_) (fun R => ?_)
      · simp only [decide_eq_true (show (i : Int) < (l.length : Int) by omega),Int.toNat_natCast,cond_true]
        exact ⟨(hb1 i hi).2,(hb1 i hi).1,hf,hR⟩
      · simp only [Int.lt_irrefl,decide_false,cond_false]
theorem foldlM_snoc {α τ : Type} {f : τ → α → Option τ} {l : List α} {d : α} {i : Nat} {a t : τ} (h : (l.take i).foldlM f a = some t) (hi : i < l.length) : (l.take (i + 1)).foldlM f a = f t (l.getD i d) := by
  rw [take_succ_getD d hi,List.foldlM_append,h]
  show (f _ _).bind _ = _
  cases f t (l.getD i d) <;> rfl
theorem foldlM_none {α τ : Type} {f : τ → α → Option τ} {l : List α} {d : α} {i : Nat} {a t : τ} (h : (l.take i).foldlM f a = some t) (hi : i < l.length) (hn : f t (l.getD i d) = none) : l.foldlM f a = none := by
  rw [← List.take_append_drop (i + 1) l,List.foldlM_append,foldlM_snoc (d := d) h hi,hn]
  rfl
def Known (out : List (List Cond)) (m : ByteArray → Option Bool) : Prop := ∀ q,m (strOf (nameB q)) = if q ∈ out then some true else none
theorem Known.nil : Known [] fun _ => none := fun q => by simp
theorem Known.put {out : List (List Cond)} {m : ByteArray → Option Bool} (h : Known out m) (p : List Cond) : Known (out ++ [p]) (mput m (strOf (nameB p)) true) := by
  intro q
  simp only [mput,name_inj,List.mem_append,List.mem_singleton]
  by_cases e : q = p
  · rw [if_pos e,if_pos (.inr e)]
  · rw [if_neg e,h q]
    by_cases e2 : q ∈ out
    · rw [if_pos e2,if_pos (.inl e2)]
    · rw [if_neg e2,if_neg (fun h => h.elim e2 e)]
theorem tid_body {p : List Cond} {out : List (List Cond)} {m : ByteArray → Option Bool} {EA K1 EB K2 : Prop} (hp : pieceB p) (hk : Known out m) (hl : out.length ≤ 400)
    (hA : (tidyF p).2.2 = 3 → tidStep out p = none → EA) (h1 : tidStep out p = some out → K1) (hB : tidStep out p = none → EB) (h2 : tidStep out p = some (out ++ [(tidyF p).1]) → K2) :
    (set_Tidy.pre (p,()) ∧ cond (((set_Tidy.fn (p,())).2).2 != (0 : Int)) EA (((!(((set_Tidy.fn (p,())).2).1)) = true → ((!(((set_Tidy.fn (p,())).2).1)) = true ∧ set_Name.pre ((set_Tidy.fn (p,())).1,()))) ∧ (((!(((set_Tidy.fn (p,())).2).1)) = true → ((!(((set_Tidy.fn (p,())).2).1)) = true ∧ ((!(((set_Tidy.fn (p,())).2).1)) = true ∧ True))) ∧ ((((set_Tidy.fn (p,())).2).1 = false → (!(((set_Tidy.fn (p,())).2).1)) = true) ∧ cond (((set_Tidy.fn (p,())).2).1 || (Option.getD (m (set_Name.fn ((set_Tidy.fn (p,())).1,()))) false)) K1 (set_Name.pre ((set_Tidy.fn (p,())).1,()) ∧ ((((List.length out + List.length [(set_Tidy.fn (p,())).1]) * 24) ≤ 140737488355328 ∧ (List.length out + List.length [(set_Tidy.fn (p,())).1]) ≤ 9223372036854775807) ∧ cond (decide ((400 : Int) < (((List.length (out ++ [(set_Tidy.fn (p,())).1])) : Nat) : Int))) EB K2)))))) := by
  have hn : set_Name.pre ((tidyF p).1,()) := (tidyF_ok hp).name
  refine ⟨hp,?_⟩
  simp only [set_Tidy.fn,set_Name.fn]
  by_cases he : (tidyF p).2.2 = 0
  · simp only [he,bne_self_eq_false,cond_false]
    have hs : tidStep out p = if (tidyF p).2.1 = true ∨ (tidyF p).1 ∈ out then some out else if 400 < out.length + 1 then none else some (out ++ [(tidyF p).1]) := by
      unfold tidStep;exact if_neg (fun h => h he)
    refine ⟨fun h => ⟨h,hn⟩,fun h => ⟨h,h,trivial⟩,fun h => by rw [h];rfl,?_⟩
    have hb : ((tidyF p).2.1 || (m (strOf (nameB (tidyF p).1))).getD false) = decide ((tidyF p).2.1 = true ∨ (tidyF p).1 ∈ out) := by
      rw [hk]
      by_cases e : (tidyF p).1 ∈ out
      · rw [if_pos e];simp [e]
      · rw [if_neg e];simp [e]
    rw [hb]
    by_cases e : (tidyF p).2.1 = true ∨ (tidyF p).1 ∈ out
    · rw [decide_eq_true e]
      exact h1 (hs.trans (if_pos e))
    · rw [decide_eq_false e]
      rw [if_neg e] at hs
      refine ⟨hn,⟨by simp;omega,by simp;omega⟩,?_⟩
      by_cases e2 : 400 < out.length + 1
      · rw [decide_eq_true (show (400 : Int) < ((out ++ [(tidyF p).1]).length : Int) by simp;omega)]
        exact hB (hs.trans (if_pos e2))
      · rw [decide_eq_false (show ¬ (400 : Int) < ((out ++ [(tidyF p).1]).length : Int) by simp;omega)]
        exact h2 (hs.trans (if_neg e2))
  · rw [bne_iff_ne.2 he]
    exact hA (((tidyF_err p).resolve_left he).1) (if_pos he)
theorem tidStep_len {out out' : List (List Cond)} {p : List Cond} (h : tidStep out p = some out') (hl : out.length ≤ 400) : out'.length ≤ 400 := by
  unfold tidStep at h
  split at h
  · cases h
  · split at h
    · cases h;exact hl
    · split at h
      · cases h
      · cases h;simp;omega
theorem tidM_len : ∀ {l : List (List Cond)} {out out' : List (List Cond)},l.foldlM tidStep out = some out' → out.length ≤ 400 → out'.length ≤ 400
  | [],out,out',h,hl => by cases h;exact hl
  | p :: l,out,out',h,hl => by
    simp only [List.foldlM_cons,Option.bind_eq_bind,Option.bind_eq_some_iff] at h
    obtain ⟨s,h1,h2⟩ := h
    exact tidM_len h2 (tidStep_len h1 hl)
theorem Lp.tid {body : Int × List (List Cond) × (ByteArray → Option Bool) → (Int × List (List Cond) × (ByteArray → Option Bool) → Prop) → Prop} (l a : List (List Cond)) (m0 : ByteArray → Option Bool) (ha : Known a m0) (hal : a.length ≤ 400) (hl : l.length ≤ 1048576 * 4)
    (h : ∀ (i : Nat) out m R,i < l.length → (i : Int) < (l.length : Int) → fits .i64 ((i : Int) + 1) → Known out m → out.length ≤ 400 → (tidStep out (l.getD i []) = some out → R ((i : Int) + 1,out,m)) →
      (tidStep out (l.getD i []) = some (out ++ [(tidyF (l.getD i [])).1]) → R ((i : Int) + 1,out ++ [(tidyF (l.getD i [])).1],mput m (strOf (nameB (tidyF (l.getD i [])).1)) true)) →
      (tidStep out (l.getD i []) = none → l.foldlM tidStep a = none) → body ((i : Int),out,m) R)
    (h2 : ∀ out m R,l.foldlM tidStep a = some out → Known out m → out.length ≤ 400 → body ((l.length : Int),out,m) R) : Lp body (0,a,m0) := by
  refine Lp.iter l.length (fun i y => y.1 = (i : Int) ∧ (l.take i).foldlM tidStep a = some y.2.1 ∧ Known y.2.1 y.2.2) ⟨rfl,rfl,ha⟩ ?_
  rintro i ⟨y,out,m⟩ hle ⟨hy,ht,hm⟩ R hR
  simp only at hy ht hm
  subst hy
  have hlen := tidM_len ht hal
  by_cases e : i < l.length
  · refine h i out m R e (by omega) ⟨by omega,by omega⟩ hm hlen (fun hs => hR e _ ⟨rfl,?_,hm⟩) (fun hs => hR e _ ⟨rfl,?_,hm.put _⟩) (fun hn => foldlM_none ht e hn)
    · rw [foldlM_snoc (d := []) ht e,hs]
    · rw [foldlM_snoc (d := []) ht e,hs]
  · have : i = l.length := by omega
    subst this
    rw [List.take_length] at ht
    exact h2 out m R ht hm hlen
theorem setValid.b {s : PSet} (h : setValid s = true) : 0 ≤ s.1 ∧ s.1 ≤ 12 ∧ s.2.length ≤ 400 ∧ ∀ p ∈ s.2,p.length ≤ 96 ∧ (∀ c ∈ p,condValid c = true ∧ (c.2.2.1.length : Int) = s.1) := by
  simp only [setValid,Bool.and_eq_true,decide_eq_true_eq,List.all_eq_true,overF,beq_iff_eq] at h
  obtain ⟨⟨⟨h1,h2⟩,h3⟩,h4⟩ := h
  refine ⟨h1,h2,by omega,fun p hp => ?_⟩
  obtain ⟨h5,h6⟩ := h4 p hp
  exact ⟨by omega,h6⟩
theorem setValid.piece {s : PSet} (h : setValid s = true) {p : List Cond} (hp : p ∈ s.2) : p.length ≤ 96 ∧ ∀ c ∈ p,condValid c = true := by
  obtain ⟨h1,h2⟩ := (setValid.b h).2.2.2 p hp
  exact ⟨h1,fun c hc => (h2 c hc).1⟩
theorem setValid.B {s : PSet} (h : setValid s = true) {p : List Cond} (hp : p ∈ s.2) : pieceB p := by
  obtain ⟨h1,h2⟩ := setValid.piece h hp
  exact ⟨by omega,fun c hc => condValid.condB (h2 c hc)⟩
theorem set_Normal.spec (x : PSet) : set_Normal.wp x (fun r => r = set_Normal.fn (x,())) := by
  have hfn : set_Normal.fn (x,()) = normF x := rfl
  simp only [set_Normal.wp,set_Valid.fn,hfn]
  cases hv : setValid x with
  | false => simp [normF,hv]
  | true =>
    have hn : normF x = ofTid x.1 (x.2.foldlM tidStep []) := by simp [normF,hv,tidL]
    simp only [Bool.not_true,cond_false,hn]
    refine Lp.tid x.2 [] _ Known.nil (by simp) (by have := (setValid.b hv).2.2.1;omega) ?_ ?_
    · intro i out m R e e2 hf hk hl h1 h2 h3
      simp only [decide_eq_true e2,Int.toNat_natCast,cond_true]
      refine ⟨⟨by omega,by omega⟩,tid_body (setValid.B hv (getD_memL e)) hk hl (fun h4 hn => ?_) (fun hs => ⟨hf,h1 hs⟩) (fun hn => ?_) (fun hs => ⟨hf,h2 hs⟩)⟩
      · simp only [set_Tidy.fn,h4,show ((3 : Int) != 0) = true from rfl,cond_true]
        rw [h3 hn];rfl
      · rw [h3 hn];rfl
    · intro out m R ht hk hl
      simp only [Int.lt_irrefl,decide_false,cond_false]
      rw [ht];rfl
theorem bothErr_zero {x y : PSet} (h : bothErr x y = 0) : setValid x = true ∧ setValid y = true ∧ x.1 = y.1 := by
  unfold bothErr at h
  split at h
  · rename_i hv
    split at h
    · rename_i he
      simp only [Bool.and_eq_true] at hv
      exact ⟨hv.1,hv.2,he⟩
    · cases h
  · cases h
theorem set_Union.spec (x y : PSet) : set_Union.wp x y (fun r => r = set_Union.fn (x,y,())) := by
  have hfn : set_Union.fn (x,y,()) = unionF x y := rfl
  simp only [set_Union.wp,set_right.fn,hfn,slices_Concat_SSapi_Cond_Sapi_Cond.fn]
  by_cases he : bothErr x y = 0
  · obtain ⟨hx,hy,_⟩ := bothErr_zero he
    have h1 := (setValid.b hx).2.2.1
    have h2 := (setValid.b hy).2.2.1
    have hn : unionF x y = ofTid x.1 ((x.2 ++ y.2).foldlM tidStep []) := by simp [unionF,he,tidL]
    simp only [he,bne_self_eq_false,cond_false,hn,List.flatten_cons,List.flatten_nil,List.append_nil]
    have hmem : ∀ p ∈ x.2 ++ y.2,pieceB p := fun p hp => (List.mem_append.1 hp).elim (setValid.B hx) (setValid.B hy)
    have hlen : (x.2 ++ y.2).length ≤ 800 := by simp;omega
    have hpre : slices_Concat_SSapi_Cond_Sapi_Cond.pre ([x.2,y.2],()) := by
      refine ⟨by simp,?_⟩
      simp only [List.flatten_cons,List.flatten_nil,List.append_nil];omega
    refine ⟨hpre,?_⟩
    generalize x.2 ++ y.2 = l at *
    refine Lp.tid l [] _ Known.nil (by simp) (by omega) ?_ ?_
    · intro i out m R e e2 hf hk hl h1 h2 h3
      simp only [decide_eq_true e2,Int.toNat_natCast,cond_true]
      refine ⟨⟨by omega,by omega⟩,tid_body (hmem _ (getD_memL e)) hk hl (fun h4 hn => ?_) (fun hs => ⟨hf,h1 hs⟩) (fun hn => ?_) (fun hs => ⟨hf,h2 hs⟩)⟩
      · simp only [set_Tidy.fn,h4,show ((3 : Int) != 0) = true from rfl,cond_true]
        rw [h3 hn];rfl
      · rw [h3 hn];rfl
    · intro out m R ht hk hl
      simp only [Int.lt_irrefl,decide_false,cond_false]
      rw [ht];rfl
  · rw [bne_iff_ne.2 he]
    simp [unionF,he]
theorem tidL_flatMap {l : List (List Cond)} {f : List Cond → List (List Cond)} : ∀ {a : List (List Cond)},(l.flatMap f).foldlM tidStep a = l.foldlM (fun out p => (f p).foldlM tidStep out) a := by
  induction l with
  | nil => intro a;rfl
  | cons p l ih =>
    intro a
    rw [List.flatMap_cons,List.foldlM_append,List.foldlM_cons]
    congr 1
    funext s
    exact ih
theorem set_Meet.spec (x y : PSet) : set_Meet.wp x y (fun r => r = set_Meet.fn (x,y,())) := by
  have hfn : set_Meet.fn (x,y,()) = meetF x y := rfl
  simp only [set_Meet.wp,set_right.fn,hfn,slices_Concat_Sapi_Cond_api_Cond.fn]
  by_cases he : bothErr x y = 0
  · obtain ⟨hx,hy,_⟩ := bothErr_zero he
    have hlx := (setValid.b hx).2.2.1
    have hly := (setValid.b hy).2.2.1
    have hn : meetF x y = ofTid x.1 (x.2.foldlM (fun out p => (y.2.map fun q => p ++ q).foldlM tidStep out) []) := by
      simp only [meetF,he,tidL,meets]
      rw [← tidL_flatMap];simp
    simp only [he,bne_self_eq_false,cond_false,hn,List.flatten_cons,List.flatten_nil,List.append_nil]
    refine Lp.iter x.2.length (fun i z => z.1 = (i : Int) ∧ (x.2.take i).foldlM (fun out p => (y.2.map fun q => p ++ q).foldlM tidStep out) [] = some z.2.1 ∧ Known z.2.1 z.2.2 ∧ z.2.1.length ≤ 400) ⟨rfl,rfl,Known.nil,by simp⟩ ?_
    rintro i ⟨z,o,mo⟩ hle ⟨hz,ht,hm,hol⟩ R hR
    simp only at hz ht hm hol
    subst hz
    by_cases e : i < x.2.length
    · simp only [decide_eq_true (show (i : Int) < (x.2.length : Int) by omega),Int.toNat_natCast,cond_true]
      refine ⟨⟨by omega,by omega⟩,?_⟩
      have hpx := setValid.piece hx (getD_memL (d := []) e)
      have hsn := foldlM_snoc (d := []) ht e
      have hnone := foldlM_none (d := []) ht e
      have hml : (y.2.map fun q => x.2.getD i [] ++ q).length = y.2.length := by simp
      have hget : ∀ j,j < y.2.length → (y.2.map fun q => x.2.getD i [] ++ q).getD j [] = x.2.getD i [] ++ y.2.getD j [] := fun j hj => by
        rw [getD_eq (by simpa using hj),getD_eq hj];simp
      have hB : ∀ j,j < y.2.length → pieceB (x.2.getD i [] ++ y.2.getD j []) := fun j hj => by
        have hpy := setValid.piece hy (getD_memL (d := []) hj)
        refine ⟨by simp only [List.length_append];omega,fun c hc => ?_⟩
        exact (List.mem_append.1 hc).elim (fun h => condValid.condB (hpx.2 c h)) (fun h => condValid.condB (hpy.2 c h))
      generalize hL : (y.2.map fun q => x.2.getD i [] ++ q) = l at *
      refine Lp.tid l o mo hm hol (by omega) ?_ ?_
      · intro j out m R' e3 e4 hf hk hl h1 h2 h3
        rw [hml] at e3 e4
        rw [hget j e3] at h1 h2 h3
        simp only [decide_eq_true e4,Int.toNat_natCast,cond_true]
        have hb := hB j e3
        refine ⟨⟨by omega,by omega⟩,⟨by simp,by simp only [List.flatten_cons,List.flatten_nil,List.append_nil];exact hb.1⟩,tid_body hb hk hl (fun h4 hn => ?_) (fun hs => ⟨hf,h1 hs⟩) (fun hn => ?_) (fun hs => ⟨hf,h2 hs⟩)⟩
        · simp only [set_Tidy.fn,h4,show ((3 : Int) != 0) = true from rfl,cond_true]
          rw [hnone (h3 hn)];rfl
        · rw [hnone (h3 hn)];rfl
      · intro out m R' ht2 hk hl
        rw [hml]
        simp only [Int.lt_irrefl,decide_false,cond_false]
        exact ⟨⟨by omega,by omega⟩,hR e _ ⟨rfl,hsn.trans ht2,hk,hl⟩⟩
    · have : i = x.2.length := by omega
      subst this
      simp only [Int.lt_irrefl,decide_false,cond_false]
      rw [List.take_length] at ht
      rw [ht];rfl
  · rw [bne_iff_ne.2 he]
    simp [meetF,he]
theorem makeF_valid {c : Cond} (h1 : (makeF c).2.2 = 0) (h2 : (makeF c).2.1 = 0) : condValid (makeF c).1 = true := by
  unfold makeF at *
  split at h1
  · cases h1
  · rename_i h
    rw [if_neg h] at h2 ⊢
    simp only at h2
    cases hv : condValid (rawF c).1 with
    | true => rfl
    | false => exact absurd ⟨h2,hv⟩ h
theorem zero_valid {n : Nat} (h : n ≤ 12) : condValid (0,0,List.replicate n 0,0) = true := by
  have : linValid (List.replicate n 0,0) = true := linValid_mk (by simpa using h) (fun m hm => by rw [(List.mem_replicate.1 hm).2];decide) (by decide)
  simp [condValid,this]
theorem negM_valid {n : Nat} (hn : n ≤ 12) : ∀ {l out out' : List Cond},l.foldlM (negStep n) out = some out' → (∀ d ∈ out,condValid d = true) → ∀ d ∈ out',condValid d = true
  | [],out,out',h,h1 => by cases h;exact h1
  | c :: l,out,out',h,h1 => by
    simp only [List.foldlM_cons,Option.bind_eq_bind,Option.bind_eq_some_iff] at h
    obtain ⟨s,h2,h3⟩ := h
    refine negM_valid hn h3 ?_
    have key : ∀ x,condValid x = true → ∀ d ∈ out ++ [x],condValid d = true := fun x hx d hd => by
      rcases List.mem_append.1 hd with hd | hd
      · exact h1 d hd
      · simp only [List.mem_singleton] at hd;subst hd;exact hx
    unfold negStep at h2
    split at h2
    · cases h2
    · rename_i he
      split at h2
      · cases h2;exact key _ (zero_valid hn)
      · split at h2
        · cases h2;exact h1
        · cases h2
          exact key _ (makeF_valid (by omega) (by omega))
theorem negF_ok {c : Cond} (hv : condValid c = true) : ((negF c).2 = 0 ∨ (negF c).2 = 3) ∧ (negF c).1.length ≤ 400 ∧ ∀ d ∈ (negF c).1,condValid d = true := by
  unfold negF
  rw [if_neg (by rw [hv];simp)]
  rcases opt_cases ((othersF c).foldlM (negStep c.2.2.1.length) []) with h | ⟨out,h⟩
  · rw [h];simp
  · rw [h]
    simp only
    split
    · simp
    · rename_i h2
      exact ⟨.inl rfl,by simp only;omega,negM_valid (linValid.b (condValid.lin hv)).1 h (by simp)⟩
theorem cutStep_len {a b : List Cond} (hb : validP b) {out out' : List (List Cond)} {i : Nat} (hi : i < b.length) (h : cutStep a b out i = some out') : out'.length ≤ out.length + 400 := by
  have := (negF_ok (hb.2 _ (getD_memL (d := dCond) hi))).2.1
  unfold cutStep at h
  split at h
  · cases h
  · cases h
    simp only [List.length_append,List.length_map];omega
theorem cutM_len {a b : List Cond} (hb : validP b) : ∀ {l : List Nat} {out out' : List (List Cond)},(∀ i ∈ l,i < b.length) → l.foldlM (cutStep a b) out = some out' → out'.length ≤ out.length + 400 * l.length
  | [],out,out',_,h => by cases h;simp
  | i :: l,out,out',hl,h => by
    simp only [List.foldlM_cons,Option.bind_eq_bind,Option.bind_eq_some_iff] at h
    obtain ⟨s,h1,h2⟩ := h
    have := cutStep_len hb (hl i (by simp)) h1
    have := cutM_len hb (fun j hj => hl j (by simp [hj])) h2
    simp only [List.length_cons];omega
theorem cutM_B {a b : List Cond} (ha : validP a) (hb : validP b) : ∀ {l : List Nat} {out out' : List (List Cond)},(∀ i ∈ l,i < b.length) → l.foldlM (cutStep a b) out = some out' → (∀ p ∈ out,pieceB p) → ∀ p ∈ out',pieceB p
  | [],out,out',_,h,h3 => by cases h;exact h3
  | i :: l,out,out',hl,h,h3 => by
    simp only [List.foldlM_cons,Option.bind_eq_bind,Option.bind_eq_some_iff] at h
    obtain ⟨s,h1,h2⟩ := h
    refine cutM_B ha hb (fun j hj => hl j (by simp [hj])) h2 ?_
    have hn := (negF_ok (hb.2 _ (getD_memL (d := dCond) (hl i (by simp))))).2.2
    unfold cutStep at h1
    split at h1
    · cases h1
    · cases h1
      intro p hp
      rcases List.mem_append.1 hp with hp | hp
      · exact h3 p hp
      · obtain ⟨o,ho,rfl⟩ := List.mem_map.1 hp
        have h4 := ha.1
        have h5 := hb.1
        refine ⟨by simp only [List.length_append,List.length_take,List.length_cons,List.length_nil];omega,fun c hc => condValid.condB ?_⟩
        rcases List.mem_append.1 hc with hc | hc
        · exact ha.2 c hc
        · rcases List.mem_append.1 hc with hc | hc
          · exact hb.2 c (List.mem_of_mem_take hc)
          · simp only [List.mem_singleton] at hc;subst hc;exact hn _ ho
theorem cutF_err (a b : List Cond) : (cutF a b).2 = 0 ∨ (cutF a b).2 = 3 := by
  unfold cutF
  split
  · exact .inr rfl
  · split
    · exact .inl rfl
    · split
      · exact .inr rfl
      · exact .inl rfl
theorem cutF_B {a b : List Cond} (ha : validP a) (hb : validP b) : (cutF a b).1.length ≤ 1048576 * 4 ∧ ∀ p ∈ (cutF a b).1,pieceB p := by
  unfold cutF
  split
  · simp
  · split
    · exact ⟨by simp,fun p hp => by simp only [List.mem_singleton] at hp;subst hp;exact ha.B⟩
    · rcases opt_cases ((List.range b.length).foldlM (cutStep a b) []) with h | ⟨out,h⟩
      · rw [h];simp
      · rw [h]
        have h1 := cutM_len hb (fun i hi => List.mem_range.1 hi) h
        have h2 := hb.1
        simp only [List.length_nil,List.length_range] at h1
        exact ⟨by simp only;omega,cutM_B ha hb (fun i hi => List.mem_range.1 hi) h (by simp)⟩
theorem range_getD {n i : Nat} (h : i < n) : (List.range n).getD i 0 = i := by
  rw [getD_eq (by simpa using h)];simp
theorem set_cut.spec (a b : List Cond) (hp : set_cut.pre (a,b,())) : set_cut.wp a b (fun r => r = set_cut.fn (a,b,())) := by
  obtain ⟨ha,hb⟩ : validP a ∧ validP b := hp
  have hal := ha.1
  have hbl := hb.1
  have hfn : set_cut.fn (a,b,()) = cutF a b := rfl
  have hab : pieceB (a ++ b) := ⟨by simp only [List.length_append];omega,fun c hc => (List.mem_append.1 hc).elim (fun h => condValid.condB (ha.2 c h)) (fun h => condValid.condB (hb.2 c h))⟩
  simp only [set_cut.wp,hfn,slices_Concat_Sapi_Cond_api_Cond.fn,set_Tidy.fn,List.flatten_cons,List.flatten_nil,List.append_nil]
  refine ⟨⟨by simp,by simp only [List.flatten_cons,List.flatten_nil,List.append_nil];exact hab.1⟩,hab,?_⟩
  by_cases h0 : (tidyF (a ++ b)).2.2 = 0
  · simp only [h0,bne_self_eq_false,cond_false]
    by_cases h1 : (tidyF (a ++ b)).2.1 = true
    · simp only [h1,cond_true]
      simp [cutF,h0,h1]
    · rw [Bool.not_eq_true] at h1
      simp only [h1,cond_false]
      have hcf : cutF a b = match (List.range b.length).foldlM (cutStep a b) [] with
        | none => ([],3)
        | some out => (out,0) := by
        unfold cutF
        exact (if_neg (fun h => h h0)).trans (if_neg (by rw [h1];simp))
      have hrl : (List.range b.length).length = b.length := by simp
      refine Lp.foldO (List.range b.length) 0 (cutStep a b) [] (by omega) ?_ ?_
      · intro i out R e e2 hf ht hR1 hR2
        rw [hrl] at e e2
        have hol := cutM_len hb (fun j hj => by have := List.mem_of_mem_take hj;simpa using this) ht
        simp only [List.length_nil,List.length_take,hrl] at hol
        simp only [range_getD e,cutStep] at hR1 hR2
        simp only [decide_eq_true e2,Int.toNat_natCast,cond_true,cond_Negate.fn]
        have hng := negF_ok (hb.2 _ (getD_memL (d := dCond) e))
        refine ⟨⟨by omega,by omega⟩,?_⟩
        by_cases hn : (negF (b.getD i dCond)).2 = 0
        · simp only [hn,bne_self_eq_false,cond_false]
          rw [if_neg (fun h => h hn)] at hR1
          have h4 := hng.2.1
          refine Lp.iter (negF (b.getD i dCond)).1.length (fun j y => y = ((j : Int),out ++ ((negF (b.getD i dCond)).1.take j).map fun o => a ++ (b.take i ++ [o]))) (by simp) ?_
          rintro j y hjl rfl R' hR'
          by_cases e3 : j < (negF (b.getD i dCond)).1.length
          · simp only [decide_eq_true (show (j : Int) < ((negF (b.getD i dCond)).1.length : Int) by omega),Int.toNat_natCast,cond_true]
            refine ⟨⟨by omega,by omega⟩,⟨by omega,by omega⟩,⟨by simp,?_⟩,⟨?_,?_⟩,⟨by omega,by omega⟩,hR' e3 _ ?_⟩
            · simp only [List.flatten_cons,List.flatten_nil,List.append_nil,List.length_append,List.length_take,List.length_cons,List.length_nil];omega
            · simp only [List.length_append,List.length_map,List.length_take,List.length_cons,List.length_nil];omega
            · simp only [List.length_append,List.length_map,List.length_take,List.length_cons,List.length_nil];omega
            · rw [take_succ_getD dCond e3,List.map_append]
              exact congrArg (Prod.mk ((j : Int) + 1)) (List.append_assoc _ _ _)
          · have : j = (negF (b.getD i dCond)).1.length := by omega
            subst this
            simp only [Int.lt_irrefl,decide_false,cond_false,List.take_length]
            exact ⟨hf,hR1 _ rfl⟩
        · simp only [bne_iff_ne.2 hn,cond_true]
          rw [hcf,hR2 (if_pos hn),(hng.1.resolve_left hn)]
      · intro out R ht
        rw [hrl]
        simp only [Int.lt_irrefl,decide_false,cond_false]
        rw [hcf,ht]
  · simp only [bne_iff_ne.2 h0,cond_true]
    rw [((tidyF_err _).resolve_left h0).1]
    simp [cutF,h0]
def PP (l : List (List Cond)) : Prop := l.length ≤ 400 ∧ ∀ p ∈ l,p.length ≤ 96 ∧ ∀ c ∈ p,condValid c = true
theorem PP.v {l : List (List Cond)} (h : PP l) {p : List Cond} (hp : p ∈ l) : validP p := ⟨by have := (h.2 p hp).1;omega,(h.2 p hp).2⟩
theorem PP.nil : PP [] := ⟨by simp,by simp⟩
theorem tidStep_PP {out out' : List (List Cond)} {p : List Cond} (h : tidStep out p = some out') (hl : PP out) (hp : pieceB p) : PP out' := by
  refine ⟨tidStep_len h hl.1,?_⟩
  unfold tidStep at h
  split at h
  · cases h
  · split at h
    · cases h;exact hl.2
    · split at h
      · cases h
      · cases h
        intro q hq
        rcases List.mem_append.1 hq with hq | hq
        · exact hl.2 q hq
        · simp only [List.mem_singleton] at hq;subst hq
          exact ⟨tidyF_len p,tidyF_valid hp⟩
theorem tidM_PP : ∀ {l : List (List Cond)} {out out' : List (List Cond)},l.foldlM tidStep out = some out' → PP out → (∀ p ∈ l,pieceB p) → PP out'
  | [],out,out',h,hl,_ => by cases h;exact hl
  | p :: l,out,out',h,hl,hb => by
    simp only [List.foldlM_cons,Option.bind_eq_bind,Option.bind_eq_some_iff] at h
    obtain ⟨s,h1,h2⟩ := h
    exact tidM_PP h2 (tidStep_PP h1 hl (hb p (by simp))) fun q hq => hb q (by simp [hq])
abbrev cutTid (b : List Cond) (out : List (List Cond)) (a : List Cond) : Option (List (List Cond)) := if (cutF a b).2 ≠ 0 then none else (cutF a b).1.foldlM tidStep out
theorem cutTid_PP {b : List Cond} (hb : validP b) : ∀ {l out out' : List (List Cond)},l.foldlM (cutTid b) out = some out' → PP out → (∀ p ∈ l,validP p) → PP out'
  | [],out,out',h,hl,_ => by cases h;exact hl
  | p :: l,out,out',h,hl,hv => by
    simp only [List.foldlM_cons,Option.bind_eq_bind,Option.bind_eq_some_iff] at h
    obtain ⟨s,h1,h2⟩ := h
    refine cutTid_PP hb h2 ?_ fun q hq => hv q (by simp [hq])
    unfold cutTid at h1
    split at h1
    · cases h1
    · exact tidM_PP h1 hl (cutF_B (hv p (by simp)) hb).2
theorem minStep_PP {cur cur' : List (List Cond)} {b : List Cond} (h : minStep cur b = some cur') (hb : validP b) (hc : PP cur) : PP cur' := cutTid_PP hb h PP.nil fun p hp => hc.v hp
theorem minM_PP : ∀ {l : List (List Cond)} {cur cur' : List (List Cond)},l.foldlM minStep cur = some cur' → PP cur → (∀ p ∈ l,validP p) → PP cur'
  | [],out,out',h,hl,_ => by cases h;exact hl
  | p :: l,out,out',h,hl,hv => by
    simp only [List.foldlM_cons,Option.bind_eq_bind,Option.bind_eq_some_iff] at h
    obtain ⟨s,h1,h2⟩ := h
    exact minM_PP h2 (minStep_PP h1 (hv p (by simp)) hl) fun q hq => hv q (by simp [hq])
theorem normF_PP {x : PSet} (h : (normF x).2 = 0) : PP (normF x).1.2 ∧ (normF x).1.1 = x.1 := by
  unfold normF at h ⊢
  split at h
  · cases h
  · rename_i hv
    rw [if_neg hv]
    rw [Bool.not_eq_false] at hv
    unfold ofTid at h ⊢
    rcases opt_cases (tidL x.2) with ho | ⟨out,ho⟩
    · rw [ho] at h;cases h
    · rw [ho]
      exact ⟨tidM_PP ho PP.nil fun p hp => setValid.B hv hp,rfl⟩
theorem set_Minus.spec (x y : PSet) : set_Minus.wp x y (fun r => r = set_Minus.fn (x,y,())) := by
  have hfn : set_Minus.fn (x,y,()) = minusF x y := rfl
  simp only [set_Minus.wp,set_right.fn,hfn,set_Normal.fn,set_cut.fn]
  by_cases he : bothErr x y = 0
  · have hM : minusF x y = if (normF x).2 ≠ 0 ∨ (normF y).2 ≠ 0 then ((0,[]),3) else ofTid x.1 ((normF y).1.2.foldlM minStep (normF x).1.2) := by
      unfold minusF;exact if_neg (fun h => h he)
    simp only [he,bne_self_eq_false,cond_false]
    refine ⟨fun h => ⟨h,trivial⟩,fun h => by rw [h];rfl,?_⟩
    by_cases hx : (normF x).2 = 0
    · by_cases hy : (normF y).2 = 0
      · simp only [hx,hy,bne_self_eq_false,Bool.or_false,cond_false,ne_eq,not_true_eq_false,or_self,if_false] at hM ⊢
        obtain ⟨pX,eX⟩ := normF_PP hx
        obtain ⟨pY,eY⟩ := normF_PP hy
        simp only [eX]
        generalize (normF x).1.2 = X at *
        generalize (normF y).1.2 = Y at *
        have hYl := pY.1
        refine Lp.iter Y.length (fun i z => ∃ cur,z = ((i : Int),(0 : Int),x.1,cur,(0 : Int)) ∧ (Y.take i).foldlM minStep X = some cur) ⟨X,rfl,rfl⟩ ?_
        rintro i z hle ⟨cur,rfl,ht⟩ R hR
        have pC := minM_PP ht pX fun p hp => pY.v (List.mem_of_mem_take hp)
        by_cases e : i < Y.length
        · simp only [decide_eq_true (show (i : Int) < (Y.length : Int) by omega),Int.toNat_natCast,cond_true]
          refine ⟨⟨by omega,by omega⟩,?_⟩
          have hvb := pY.v (getD_memL (d := []) e)
          have hsn := foldlM_snoc (d := []) ht e
          have hnone := foldlM_none (d := []) ht e
          have hT : (Y.foldlM minStep X = none) → minusF x y = ((0,[]),3) := fun h => by rw [hM,h];rfl
          have hCl := pC.1
          refine Lp.iter cur.length (fun j z => z.1 = (j : Int) ∧ (cur.take j).foldlM (cutTid (Y.getD i [])) [] = some z.2.1 ∧ Known z.2.1 z.2.2) ⟨rfl,rfl,Known.nil⟩ ?_
          rintro j ⟨z,o,mo⟩ hjle ⟨hz,ht2,hm⟩ R2 hR2
          simp only at hz ht2 hm
          subst hz
          have pO := cutTid_PP hvb ht2 PP.nil fun p hp => pC.v (List.mem_of_mem_take hp)
          by_cases e2 : j < cur.length
          · simp only [decide_eq_true (show (j : Int) < (cur.length : Int) by omega),Int.toNat_natCast,cond_true]
            have hva := pC.v (getD_memL (d := []) e2)
            have hsn2 := foldlM_snoc (d := []) ht2 e2
            have hnone2 : cutTid (Y.getD i []) o (cur.getD j []) = none → minusF x y = ((0,[]),3) := fun h => hT (hnone (foldlM_none (d := []) ht2 e2 h))
            refine ⟨⟨by omega,by omega⟩,⟨hva,hvb⟩,?_⟩
            by_cases hc : (cutF (cur.getD j []) (Y.getD i [])).2 = 0
            · have hct : cutTid (Y.getD i []) o (cur.getD j []) = (cutF (cur.getD j []) (Y.getD i [])).1.foldlM tidStep o := if_neg fun h => h hc
              rw [hct] at hsn2 hnone2
              simp only [hc,bne_self_eq_false,cond_false]
              obtain ⟨hcl,hcB⟩ := cutF_B hva hvb
              refine Lp.tid (cutF (cur.getD j []) (Y.getD i [])).1 o mo hm pO.1 hcl ?_ ?_
              · intro k out m R' e3 e4 hf hk hl h1 h2 h3
                simp only [decide_eq_true e4,Int.toNat_natCast,cond_true]
                refine ⟨⟨by omega,by omega⟩,tid_body (hcB _ (getD_memL e3)) hk hl (fun h4 hn => ?_) (fun hs => ⟨hf,h1 hs⟩) (fun hn => ?_) (fun hs => ⟨hf,h2 hs⟩)⟩
                · simp only [set_Tidy.fn,h4,show ((3 : Int) != 0) = true from rfl,Bool.true_or,cond_true]
                  exact ⟨fun h => by simp at h,fun h => by simp at h,(hnone2 (h3 hn)).symm⟩
                · exact ⟨fun h => by simp at h,fun h => by simp at h,(hnone2 (h3 hn)).symm⟩
              · intro out m R' ht3 hk hl
                simp only [Int.lt_irrefl,decide_false,cond_false]
                exact ⟨⟨by omega,by omega⟩,hR2 e2 _ ⟨rfl,hsn2.trans ht3,hk⟩⟩
            · simp only [bne_iff_ne.2 hc,cond_true,bne_self_eq_false,Bool.or_true]
              exact ⟨fun h => ⟨rfl,trivial⟩,fun _ => rfl,(hnone2 (if_pos hc)).symm⟩
          · have : j = cur.length := by omega
            subst this
            simp only [Int.lt_irrefl,decide_false,cond_false,bne_self_eq_false,Bool.or_self]
            rw [List.take_length] at ht2
            exact ⟨fun h => ⟨rfl,trivial⟩,fun _ => rfl,⟨by omega,by omega⟩,hR e _ ⟨o,rfl,hsn.trans ht2⟩⟩
        · have : i = Y.length := by omega
          subst this
          simp only [Int.lt_irrefl,decide_false,cond_false]
          rw [List.take_length] at ht
          rw [hM,ht];rfl
      · simp only [bne_iff_ne.2 hy,Bool.or_true,cond_true]
        rw [hM,if_pos (.inr hy)]
    · simp only [bne_iff_ne.2 hx,Bool.true_or,cond_true]
      rw [hM,if_pos (.inl hx)]
  · rw [bne_iff_ne.2 he]
    simp [minusF,he]
theorem set_Simple_1.spec (c : Cond) : set_Simple_1.wp c (fun r => r = set_Simple_1.fn (c,())) := rfl
theorem set_Simple.spec (p : List Cond) (n : Int) : set_Simple.wp p n (fun r => r = set_Simple.fn (p,n,())) := by
  have hfn : set_Simple.fn (p,n,()) = simpleF p n := rfl
  simp only [set_Simple.wp,hfn,set_over.fn,set_Tidy.fn,slices_ContainsFunc_Sapi_Cond_api_Cond.fn]
  refine ⟨fun h => ⟨h,trivial⟩,fun h => by rw [h];rfl,?_⟩
  by_cases h1 : n < 0 ∨ 12 < n
  · have : (decide (n < 0) || decide (12 < n)) = true := by simpa using h1
    rw [this]
    simp [simpleF,h1]
  · have : (decide (n < 0) || decide (12 < n)) = false := by
      rw [not_or] at h1;simp [h1]
    rw [this]
    have hs : simpleF p n = if 384 < p.length then ([],false,3) else if p.any (fun c => !condValid c) then ([],false,1) else if overF p n = false then ([],false,2) else tidyF p := by
      unfold simpleF;exact if_neg h1
    simp only [cond_false]
    by_cases h2 : 384 < p.length
    · rw [decide_eq_true (show (384 : Int) < (p.length : Int) by omega)]
      rw [hs,if_pos h2];rfl
    · rw [decide_eq_false (show ¬ (384 : Int) < (p.length : Int) by omega)]
      rw [if_neg h2] at hs
      refine ⟨fun _ _ => trivial,?_⟩
      cases h3 : p.any (fun c => !condValid c) with
      | true =>
        rw [h3] at hs
        exact hs.symm
      | false =>
        rw [h3] at hs
        simp only [cond_false,Bool.false_eq_true,if_false] at hs ⊢
        cases h4 : overF p n with
        | false => rw [h4] at hs;exact hs.symm
        | true =>
          rw [h4] at hs
          simp only [Bool.not_true,cond_false,Bool.true_eq_false,if_false] at hs ⊢
          refine ⟨⟨(by omega : p.length ≤ 1048576),fun c hc => condValid.condB ?_⟩,hs.symm⟩
          have := List.any_eq_false.1 h3 c hc
          simpa using this
theorem slices_IndexFunc_SSapi_Cond_Sapi_Cond.spec (l : List (List Cond)) (f : (List Cond → Prop) × (List Cond → Bool)) (hl : l.length ≤ 9223372036854775807) (hp : slices_IndexFunc_SSapi_Cond_Sapi_Cond.pre (l,f,())) : slices_IndexFunc_SSapi_Cond_Sapi_Cond.wp l f (fun r => r = slices_IndexFunc_SSapi_Cond_Sapi_Cond.fn (l,f,())) := by
  refine Lp.iter l.length (fun i y => y = (i : Int) ∧ ∀ j,j < i → f.2 (l.getD j []) = false) ⟨rfl,fun j hj => absurd hj (by omega)⟩ ?_
  rintro i y hle ⟨rfl,hi⟩ R hR
  have hd := idxF_drop hi hle 0
  have hfn : slices_IndexFunc_SSapi_Cond_Sapi_Cond.fn (l,f,()) = idxF f.2 l 0 := rfl
  rw [hfn]
  by_cases e : i < l.length
  · simp only [decide_eq_true (show (i : Int) < (l.length : Int) by omega),Int.toNat_natCast,cond_true]
    refine ⟨⟨by omega,by omega⟩,hp _ (getD_memL e),?_⟩
    rw [List.drop_eq_getElem_cons e] at hd
    cases h0 : f.2 (l.getD i []) with
    | true =>
      rw [getD_eq e] at h0
      simp only [idxF,h0,if_true] at hd
      show (i : Int) = _
      omega
    | false =>
      refine ⟨⟨by omega,by omega⟩,hR e _ ⟨by omega,fun j hj => ?_⟩⟩
      by_cases ej : j = i
      · subst ej;exact h0
      · exact hi j (by omega)
  · have : i = l.length := by omega
    subst this
    simp only [Int.lt_irrefl,decide_false,cond_false]
    rw [List.drop_length] at hd
    exact hd.symm
theorem slices_ContainsFunc_SSapi_Cond_Sapi_Cond.spec (l : List (List Cond)) (f : (List Cond → Prop) × (List Cond → Bool)) (hp : slices_ContainsFunc_SSapi_Cond_Sapi_Cond.pre (l,f,())) : slices_ContainsFunc_SSapi_Cond_Sapi_Cond.wp l f (fun r => r = slices_ContainsFunc_SSapi_Cond_Sapi_Cond.fn (l,f,())) :=
  ⟨hp,idxF_any (Int.le_refl 0)⟩
theorem coord_iff {n : Int} : Coord n = true ↔ -4294967296 ≤ n ∧ n ≤ 4294967296 := by simp [Coord]
theorem mul_bound {n m x y : Int} (hn : 0 ≤ n) (hm : 0 ≤ m) (h1 : -n ≤ x) (h2 : x ≤ n) (h3 : -m ≤ y) (h4 : y ≤ m) : -(n * m) ≤ x * y ∧ x * y ≤ n * m := by
  have h : (x * y).natAbs ≤ n.natAbs * m.natAbs := by rw [Int.natAbs_mul];exact Nat.mul_le_mul (by omega) (by omega)
  have e : n * m = ((n.natAbs * m.natAbs : Nat) : Int) := by rw [Int.natCast_mul,Int.natAbs_of_nonneg hn,Int.natAbs_of_nonneg hm]
  rw [e];omega
def dotStep (s : Int) (p : Int × Int) : Option Int := if (Fit p.1 && Coord p.2) = true then some (s + p.1 * p.2) else none
theorem dotM : ∀ (a b : List Int) (s : Int),(a.zip b).foldlM dotStep s = if ((a.zip b).all fun p => Fit p.1 && Coord p.2) = true then some (s + dotL a b) else none
  | [],b,s => by simp [dotL]
  | x :: a,[],s => by simp [dotL]
  | x :: a,y :: b,s => by
    simp only [List.zip_cons_cons,List.foldlM_cons,List.all_cons,dotL]
    by_cases h : (Fit x && Coord y) = true
    · have h2 : dotStep s (x,y) = some (s + x * y) := if_pos h
      rw [h2]
      show (a.zip b).foldlM dotStep (s + x * y) = _
      simp only [dotM a b,h,Bool.true_and,Int.add_assoc]
    · have h2 : dotStep s (x,y) = none := if_neg h
      rw [h2]
      simp only [Bool.not_eq_true] at h
      simp only [h,Bool.false_and,Bool.false_eq_true,if_false]
      rfl
theorem dotM_bound : ∀ {l : List (Int × Int)} {s t : Int},l.foldlM dotStep s = some t → s - 4503599627370496 * l.length ≤ t ∧ t ≤ s + 4503599627370496 * l.length
  | [],s,t,h => by cases h;simp
  | p :: l,s,t,h => by
    simp only [List.foldlM_cons,Option.bind_eq_bind,Option.bind_eq_some_iff] at h
    obtain ⟨u,h1,h2⟩ := h
    have ih := dotM_bound h2
    unfold dotStep at h1
    split at h1
    · rename_i hp
      cases h1
      simp only [Bool.and_eq_true,fit_iff,coord_iff] at hp
      have := mul_bound (n := 1048576) (m := 4294967296) (by omega) (by omega) hp.1.1 hp.1.2 hp.2.1 hp.2.2
      simp only [List.length_cons]
      omega
    · cases h1
theorem coord_b (n : Int) : (decide (n < -4294967296) || decide (4294967296 < n)) = !Coord n := by
  unfold Coord
  by_cases h3 : n < -4294967296
  · rw [decide_eq_true h3,decide_eq_false (show ¬ -4294967296 ≤ n by omega)];rfl
  · by_cases h4 : 4294967296 < n
    · rw [decide_eq_true h4,decide_eq_false (show ¬ n ≤ 4294967296 by omega),Bool.and_false,Bool.or_true];rfl
    · rw [decide_eq_false h3,decide_eq_false h4,decide_eq_true (show -4294967296 ≤ n by omega),decide_eq_true (show n ≤ 4294967296 by omega)];rfl
theorem zip_getD {a b : List Int} {i : Nat} (h : i < a.length) (h2 : i < b.length) : (a.zip b).getD i (0,0) = (a.getD i 0,b.getD i 0) := by
  rw [getD_eq (by simp;omega),getD_eq h,getD_eq h2];simp
theorem num_Dot.spec (a b : List Int) : num_Dot.wp a b (fun r => r = num_Dot.fn (a,b,())) := by
  have hfn : num_Dot.fn (a,b,()) = dotF a b := rfl
  simp only [num_Dot.wp,num_Fits.fn,hfn]
  by_cases h1 : a.length = b.length
  · have e1 : (((a.length : Nat) : Int) != ((b.length : Nat) : Int)) = false := by simp [h1]
    rw [e1]
    by_cases h2 : 12 < a.length
    · rw [decide_eq_true (show (12 : Int) < (a.length : Int) by omega)]
      show _ = dotF a b
      unfold dotF
      rw [if_neg (fun h => h h1),if_pos h2]
    · rw [decide_eq_false (show ¬ (12 : Int) < (a.length : Int) by omega)]
      have hd : dotF a b = if ((a.zip b).all fun p => Fit p.1 && Coord p.2) = true then (dotL a b,0) else (0,6) := by
        unfold dotF
        rw [if_neg (fun h => h h1),if_neg h2]
      have hm := dotM a b 0
      have hzl : (a.zip b).length = a.length := by simp;omega
      refine Lp.foldO (a.zip b) (0,0) dotStep 0 (by omega) ?_ ?_
      · intro i t R e e2 hf ht hR1 hR2
        have hb := dotM_bound ht
        rw [hzl] at e e2
        rw [zip_getD e (by omega)] at hR1 hR2
        simp only [List.length_take,hzl] at hb
        simp only [decide_eq_true e2,Int.toNat_natCast,cond_true]
        refine ⟨⟨by omega,by omega⟩,fun h => ⟨h,h,by omega,by omega⟩,fun h => ⟨h,trivial⟩,fun h => ⟨h,trivial⟩,fun h => by rw [h];rfl,fun h => ⟨h,h,by omega,by omega⟩,fun h => ⟨h,trivial⟩,fun h => ⟨h,trivial⟩,fun h => by rw [h];rfl,?_⟩
        have hcd : ((!Fit (a.getD i 0) || decide (b.getD i 0 < -4294967296)) || decide (4294967296 < b.getD i 0)) = !(Fit (a.getD i 0) && Coord (b.getD i 0)) := by
          rw [Bool.or_assoc,coord_b,Bool.not_and]
        rw [hcd]
        cases hok : (Fit (a.getD i 0) && Coord (b.getD i 0)) with
        | false =>
          have h3 := hR2 (if_neg (by simp only;rw [hok];simp))
          rw [hm] at h3
          simp only [Bool.not_false,cond_true]
          rw [hd]
          split at h3
          · cases h3
          · rename_i h4;rw [if_neg h4]
        | true =>
          simp only [Bool.not_true,cond_false]
          have h3 := hR1 _ (if_pos hok)
          simp only [Bool.and_eq_true,fit_iff,coord_iff] at hok
          have h5 := mul_bound (n := 1048576) (m := 4294967296) (by omega) (by omega) hok.1.1 hok.1.2 hok.2.1 hok.2.2
          generalize a.getD i 0 * b.getD i 0 = v at *
          exact ⟨⟨by omega,by omega⟩,⟨by omega,by omega⟩,⟨by omega,by omega⟩,⟨by omega,by omega⟩,hf,h3⟩
      · intro t R ht
        rw [hzl]
        simp only [Int.lt_irrefl,decide_false,cond_false]
        rw [hm] at ht
        rw [hd]
        split at ht
        · rename_i h4;rw [if_pos h4];cases ht;simp
        · cases ht
  · rw [bne_iff_ne.2 (show ((a.length : Nat) : Int) ≠ ((b.length : Nat) : Int) by omega)]
    simp [dotF,h1]
theorem dotF_bound {a b : List Int} (h : (dotF a b).2 = 0) : -(54043195528445952) ≤ (dotF a b).1 ∧ (dotF a b).1 ≤ 54043195528445952 := by
  unfold dotF at h ⊢
  split at h
  · cases h
  · split at h
    · cases h
    · split at h
      · rename_i h1 h2 h3
        rw [if_neg h1,if_neg h2,if_pos h3]
        have hm := dotM a b 0
        rw [if_pos h3] at hm
        have := dotM_bound hm
        simp only [List.length_zip] at this
        simp only;omega
      · cases h
theorem lin_At.spec (l : Lin) (p : List Int) : lin_At.wp l p (fun r => r = lin_At.fn (l,p,())) := by
  have hfn : lin_At.fn (l,p,()) = atF l p := rfl
  simp only [lin_At.wp,hfn,lin_Valid.fn,num_Dot.fn]
  cases hv : linValid l with
  | false => simp [atF,hv]
  | true =>
    by_cases h : (dotF l.1 p).2 = 0
    · have := dotF_bound h
      have h2 := (linValid.b hv).2.2
      simp only [h,bne_self_eq_false,cond_false,Bool.not_true]
      refine ⟨⟨by omega,by omega⟩,?_⟩
      simp [atF,hv,h]
    · simp only [bne_iff_ne.2 h,cond_true,Bool.not_true,cond_false]
      simp [atF,hv,h]
theorem cond_Holds.spec (c : Cond) (p : List Int) : cond_Holds.wp c p (fun r => r = cond_Holds.fn (c,p,())) := by
  have hfn : cond_Holds.fn (c,p,()) = holdsF c p := rfl
  simp only [cond_Holds.wp,hfn,cond_Valid.fn,lin_At.fn]
  cases hv : condValid c with
  | false => simp [holdsF,hv]
  | true =>
    by_cases h : (atF c.2.2 p).2 = 0
    · simp only [h,bne_self_eq_false,cond_false,Bool.not_true]
      have hk := condValid.kind hv
      by_cases k0 : c.1 = 0
      · simp [holdsF,hv,h,trueAt,k0]
      · by_cases k1 : c.1 = 1
        · simp [holdsF,hv,h,trueAt,k1]
        · simp only [beq_eq_false_iff_ne.2 k0,beq_eq_false_iff_ne.2 k1,cond_false]
          refine ⟨by omega,?_⟩
          simp [holdsF,hv,h,trueAt,k0,k1]
    · simp only [bne_iff_ne.2 h,cond_true,Bool.not_true,cond_false]
      simp [holdsF,hv,h]
theorem set_Has_1_1.spec (c : Cond) (p : List Int) : set_Has_1_1.wp c p (fun r => r = set_Has_1_1.fn (c,p,())) := rfl
theorem set_Has_1.spec (q : List Cond) (p : List Int) : set_Has_1.wp q p (fun r => r = set_Has_1.fn (q,p,())) := ⟨fun _ _ => trivial,rfl⟩
theorem set_Has.spec (s : PSet) (p : List Int) (hl : p.length ≤ 9223372036854775807) : set_Has.wp s p (fun r => r = set_Has.fn (s,p,())) := by
  have hfn : set_Has.fn (s,p,()) = hasF s p := rfl
  simp only [set_Has.wp,hfn,set_Valid.fn]
  cases hv : setValid s with
  | false => simp [hasF,hv]
  | true =>
    simp only [Bool.not_true,cond_false]
    by_cases h1 : ((p.length : Nat) : Int) = s.1
    · simp only [h1,bne_self_eq_false,cond_false]
      rw [← h1]
      refine Lp.all p 0 Coord hl ?_ ?_
      · intro i R e e2 hf h2 h3
        simp only [decide_eq_true e2,Int.toNat_natCast,cond_true]
        refine ⟨⟨by omega,by omega⟩,fun h => ⟨h,trivial⟩,fun h => by rw [h];rfl,?_⟩
        have hc : (decide (p.getD i 0 < -4294967296) || decide (4294967296 < p.getD i 0)) = !Coord (p.getD i 0) := coord_b _
        rw [hc]
        cases hok : Coord (p.getD i 0) with
        | true => exact ⟨hf,h2 hok⟩
        | false =>
          have := h3 hok
          simp [hasF,hv,h1,this]
      · intro R h2
        simp only [Int.lt_irrefl,decide_false,cond_false]
        refine ⟨fun _ _ => trivial,?_⟩
        simp [hasF,hv,h1,h2]
    · simp only [bne_iff_ne.2 h1,cond_true]
      simp [hasF,hv,h1]
def dims (p : List Cond) (n : Nat) : Prop := ∀ c ∈ p,c.2.2.1.length = n
def overL (l : Lin) (n k : Int) : Lin := (l.1.map (·.tdiv n),k)
abbrev ref03_over.fn (x : Lin × Int × Int × Unit) : Lin := overL x.1 x.2.1 x.2.2.1
abbrev ref03_over.pre (x : Lin × Int × Int × Unit) : Prop := x.2.1 ≠ 0 ∧ x.1.1.length ≤ 1048576 ∧ intsB x.1.1
abbrev ref03_Made.fn (x : Cond × Unit) : Cond × Int := rawF x.1
abbrev ref03_Made.pre (x : Cond × Unit) : Prop := condB x.1
def sidesF (a b : Cond) : Int := if a.2.2.1 = b.2.2.1 then 1 else if a.2.2.1 = negC b.2.2.1 then -1 else 0
abbrev ref04_sides.fn (x : Cond × Cond × Unit) : Int := sidesF x.1 x.2.1
abbrev ref04_sides.pre (x : Cond × Cond × Unit) : Prop := x.1.2.2.1.length = x.2.1.2.2.1.length ∧ x.1.2.2.1.length ≤ 1048576 ∧ intsB x.2.1.2.2.1
abbrev ref02_Order.fn (x : List Int × List Int × Unit) : Int := lexL x.1 x.2.1
abbrev ref02_Order.pre (x : List Int × List Int × Unit) : Prop := x.1.length = x.2.1.length
abbrev ref03_rank.fn (x : Int × Unit) : Int := rankK x.1
abbrev ref02_Cmp.fn (x : Lin × Lin × Unit) : Int := lexL (x.1.1 ++ [x.1.2]) (x.2.1.1 ++ [x.2.1.2])
abbrev ref02_Cmp.pre (x : Lin × Lin × Unit) : Prop := x.1.1.length = x.2.1.1.length ∧ x.1.1.length ≤ 1048576
abbrev ref03_Cmp.fn (x : Cond × Cond × Unit) : Int := ordF x.1 x.2.1
abbrev ref03_Cmp.pre (x : Cond × Cond × Unit) : Prop := x.1.2.2.1.length = x.2.1.2.2.1.length ∧ x.1.2.2.1.length ≤ 1048576
abbrev ref04_Sorted.fn (x : List Cond × Unit) : List Cond := sortU x.1
abbrev ref04_Sorted.pre (x : List Cond × Unit) : Prop := x.1.length ≤ 2199023255552 ∧ ∃ n,n ≤ 1048576 ∧ dims x.1 n
def pieceD (p : List Cond) : Prop := pieceB p ∧ ∃ n,dims p n
abbrev ref04_Piece.fn (x : List Cond × Unit) : List Cond × Bool × Int := tidyF x.1
abbrev ref04_Piece.pre (x : List Cond × Unit) : Prop := pieceD x.1
abbrev ref04_Known.fn (x : List (List Cond) × List Cond × Unit) : Bool := decide (x.2.1 ∈ x.1)
def refStep (out : List (List Cond)) (p : List Cond) : Option (List (List Cond)) :=
  if (tidyF p).2.2 ≠ 0 then none else if (tidyF p).2.1 = true ∨ (tidyF p).1 ∈ out then some out else some (out ++ [(tidyF p).1])
def piecesF (l : List (List Cond)) : List (List Cond) × Int := match l.foldlM refStep [] with
  | none => ([],3)
  | some out => (out,0)
abbrev ref04_Pieces.fn (x : List (List Cond) × Unit) : List (List Cond) × Int := piecesF x.1
abbrev ref04_Pieces.pre (x : List (List Cond) × Unit) : Prop := x.1.length ≤ 1099511627776 ∧ ∀ p ∈ x.1,pieceD p
abbrev ref04_Made.fn (x : Int × List (List Cond) × Unit) : PSet × Int := ofTid x.1 (tidL x.2.1)
abbrev ref04_Made.pre (x : Int × List (List Cond) × Unit) : Prop := x.2.1.length ≤ 1099511627776 ∧ ∀ p ∈ x.2.1,pieceD p
abbrev ref04_Normal.fn (x : PSet × Unit) : PSet × Int := normF x.1
abbrev ref04_And.fn (x : List Cond × List Cond × Unit) : List Cond := x.1 ++ x.2.1
abbrev ref04_And.pre (x : List Cond × List Cond × Unit) : Prop := x.1.length ≤ 1048576 ∧ x.2.1.length ≤ 1048576
def mixF (a : Int) (l : Lin) (b : Int) (m : Lin) : Lin := ((List.range l.1.length).map fun i => a * l.1.getD i 0 + b * m.1.getD i 0,a * l.2 + b * m.2)
def smallL (l : Lin) : Prop := l.1.length ≤ 1048576 ∧ (∀ n ∈ l.1,-1048576 ≤ n ∧ n ≤ 1048576) ∧ -1048576 ≤ l.2 ∧ l.2 ≤ 1048576
abbrev ref02_Mix.fn (x : Int × Lin × Int × Lin × Unit) : Lin := mixF x.1 x.2.1 x.2.2.1 x.2.2.2.1
abbrev ref02_Mix.pre (x : Int × Lin × Int × Lin × Unit) : Prop := (-1048576 ≤ x.1 ∧ x.1 ≤ 1048576) ∧ smallL x.2.1 ∧ (-1048576 ≤ x.2.2.1 ∧ x.2.2.1 ≤ 1048576) ∧ smallL x.2.2.2.1 ∧ x.2.1.1.length = x.2.2.2.1.1.length
abbrev ref03_Negate.fn (x : Cond × Unit) : List Cond × Int := negF x.1
abbrev ref04_Minus.fn (x : PSet × PSet × Unit) : PSet × Int := minusF x.1 x.2.1
abbrev ref04_Simple.fn (x : List Cond × Int × Unit) : List Cond × Bool × Int := simpleF x.1 x.2.1
abbrev ref04_Union.fn (x : PSet × PSet × Unit) : PSet × Int := unionF x.1 x.2.1
abbrev ref04_Meet.fn (x : PSet × PSet × Unit) : PSet × Int := meetF x.1 x.2.1
abbrev ref02_Value.fn (x : Lin × List Int × Unit) : Int := x.1.2 + dotL x.1.1 x.2.1
def atOk (c : Cond) (p : List Int) : Prop := condValid c = true ∧ c.2.2.1.length = p.length ∧ ∀ n ∈ p,Coord n = true
abbrev ref02_Value.pre (x : Lin × List Int × Unit) : Prop := linValid x.1 = true ∧ x.1.1.length = x.2.1.length ∧ ∀ n ∈ x.2.1,Coord n = true
def isF (c : Cond) (p : List Int) : Bool := trueAt c (c.2.2.2 + dotL c.2.2.1 p)
abbrev ref03_Is.fn (x : Cond × List Int × Unit) : Bool := isF x.1 x.2.1
abbrev ref03_Is.pre (x : Cond × List Int × Unit) : Prop := atOk x.1 x.2.1
abbrev ref04_In.fn (x : List Cond × List Int × Unit) : Bool := x.1.all fun c => isF c x.2.1
abbrev ref04_In.pre (x : List Cond × List Int × Unit) : Prop := ∀ c ∈ x.1,atOk c x.2.1
abbrev ref04_Is.fn (x : PSet × List Int × Unit) : Bool := x.1.2.any fun p => p.all fun c => isF c x.2.1
abbrev ref04_Is.pre (x : PSet × List Int × Unit) : Prop := ∀ p ∈ x.1.2,∀ c ∈ p,atOk c x.2.1
abbrev ref01_Coord.fn (x : Int × Unit) : Bool := Coord x.1
abbrev ref02_Point.fn (x : List Int × Unit) : Bool := x.1.all Coord
abbrev ref04_Has.fn (x : PSet × List Int × Unit) : Bool × Int := hasF x.1 x.2.1
def fewLen (m : Int) (l : List PSet) : Bool := l.all fun s => s.2.all fun p => decide ((p.length : Int) ≤ m)
def fewSum (l : List PSet) : Int := l.foldl (fun n s => IntKind.wrap .i64 (n + (s.2.length : Int))) 0
abbrev law04_Few.fn (x : Int × Int × List PSet × Unit) : Bool := fewLen x.2.1 x.2.2.1 && decide (fewSum x.2.2.1 ≤ x.1)
abbrev law04_awake.fn (x : Unit) : Bool := true
def ref03_truth.wp (x0 : Bool) (Q : Cond × Int → Prop) : Prop := cond x0 (Q (dCond,(1 : Int))) (Q (dCond,(-(1 : Int))))
def ref03_over.wp (x0 : Lin) (x1 : Int) (x2 : Int) (Q : Lin → Prop) : Prop := (((0 : Int) ≤ ((List.length x0.1 : Nat) : Int) ∧ (((List.length x0.1 : Nat) : Int) ≤ ((List.length x0.1 : Nat) : Int) ∧ ((((List.length x0.1 : Nat) : Int) * ((8 : Nat) : Int)) ≤ (140737488355328 : Int) ∧ ((List.length x0.1 : Nat) : Int) ≤ (9223372036854775807 : Int)))) ∧ Lp (σ := Int × List Int) (fun y4 R4 => let v2 := List.getD x0.1 (Int.toNat y4.1) (0 : Int);cond (decide (y4.1 < ((List.length x0.1 : Nat) : Int))) (((0 : Int) ≤ y4.1 ∧ y4.1 < ((List.length x0.1 : Nat) : Int)) ∧ ((x1 ≠ (0 : Int) ∧ fits IntKind.i64 (Int.tdiv v2 x1)) ∧ (((0 : Int) ≤ y4.1 ∧ y4.1 < ((List.length y4.2 : Nat) : Int)) ∧ (Int.toNat y4.1 < List.length y4.2 ∧ (fits IntKind.i64 (y4.1 + (1 : Int)) ∧ R4 ((y4.1 + (1 : Int)),(List.set y4.2 (Int.toNat y4.1) (Int.tdiv v2 x1)))))))) (Q (y4.2,x2))) ((0 : Int),(List.replicate (Int.toNat ((List.length x0.1 : Nat) : Int)) (0 : Int))))
def ref03_Made.wp (x0 : Cond) (Q : Cond × Int → Prop) : Prop := let v0 := ref01_Gcd.fn (x0.2.2.1,());let v2 := ref01_Floor.fn (x0.2.2.2,(v0.1,()));let v5 := ref03_truth.fn (false,());let v7 := Int.tdiv x0.2.2.2 (-v0.1);let v9 := ref03_over.fn (x0.2.2,(v0.1,(Int.tdiv x0.2.2.2 v0.1,())));let v15 := List.length ([] : List Int);let v18 := ref01_Mod.fn (x0.2.2.2,(x0.2.1,()));(ref01_Gcd.pre (x0.2.2.1,()) ∧ cond (x0.1 == (0 : Int)) (cond (v0.1 == (0 : Int)) (Q (ref03_truth.fn (decide ((0 : Int) ≤ x0.2.2.2),()))) (ref01_Floor.pre (x0.2.2.2,(v0.1,())) ∧ (ref03_over.pre (x0.2.2,(v0.1,(v2.1,()))) ∧ Q (((0 : Int),((0 : Int),(ref03_over.fn (x0.2.2,(v0.1,(v2.1,())))))),(0 : Int))))) (cond (x0.1 == (1 : Int)) (cond (v0.1 == (0 : Int)) (Q (ref03_truth.fn ((x0.2.2.2 == (0 : Int)),()))) (v0.1 ≠ (0 : Int) ∧ cond (Int.tmod x0.2.2.2 v0.1 != (0 : Int)) (Q v5) (Lp (σ := Int) (fun y2 R2 => let v6 := List.getD x0.2.2.1 (Int.toNat y2) (0 : Int);cond (decide (y2 < ((List.length x0.2.2.1 : Nat) : Int))) (((0 : Int) ≤ y2 ∧ y2 < ((List.length x0.2.2.1 : Nat) : Int)) ∧ cond (v6 != (0 : Int)) (cond (decide (v6 < (0 : Int))) (fits IntKind.i64 (-v0.1) ∧ (((-v0.1) ≠ (0 : Int) ∧ fits IntKind.i64 v7) ∧ (ref03_over.pre (x0.2.2,((-v0.1),(v7,()))) ∧ Q (((1 : Int),((0 : Int),(ref03_over.fn (x0.2.2,((-v0.1),(v7,())))))),(0 : Int))))) ((v0.1 ≠ (0 : Int) ∧ fits IntKind.i64 (Int.tdiv x0.2.2.2 v0.1)) ∧ (ref03_over.pre (x0.2.2,(v0.1,(Int.tdiv x0.2.2.2 v0.1,()))) ∧ Q (((1 : Int),((0 : Int),v9)),(0 : Int))))) (fits IntKind.i64 (y2 + (1 : Int)) ∧ R2 (y2 + (1 : Int)))) ((v0.1 ≠ (0 : Int) ∧ fits IntKind.i64 (Int.tdiv x0.2.2.2 v0.1)) ∧ (ref03_over.pre (x0.2.2,(v0.1,(Int.tdiv x0.2.2.2 v0.1,()))) ∧ Q (((1 : Int),((0 : Int),v9)),(0 : Int))))) (0 : Int)))) (((0 : Int) ≤ ((List.length x0.2.2.1 : Nat) : Int) ∧ (((List.length x0.2.2.1 : Nat) : Int) ≤ ((List.length x0.2.2.1 : Nat) : Int) ∧ ((((List.length x0.2.2.1 : Nat) : Int) * ((8 : Nat) : Int)) ≤ (140737488355328 : Int) ∧ ((List.length x0.2.2.1 : Nat) : Int) ≤ (9223372036854775807 : Int)))) ∧ Lp (σ := Int × List Int) (fun y2 R2 => let v12 := List.getD x0.2.2.1 (Int.toNat y2.1) (0 : Int);let v16 := List.length (([] : List Int) ++ y2.2);let v17 := ref01_Gcd.fn (((([] : List Int) ++ y2.2) ++ [x0.2.1]),());cond (decide (y2.1 < ((List.length x0.2.2.1 : Nat) : Int))) (((0 : Int) ≤ y2.1 ∧ y2.1 < ((List.length x0.2.2.1 : Nat) : Int)) ∧ (ref01_Mod.pre (v12,(x0.2.1,())) ∧ (((0 : Int) ≤ y2.1 ∧ y2.1 < ((List.length y2.2 : Nat) : Int)) ∧ (Int.toNat y2.1 < List.length y2.2 ∧ (fits IntKind.i64 (y2.1 + (1 : Int)) ∧ R2 ((y2.1 + (1 : Int)),(List.set y2.2 (Int.toNat y2.1) (ref01_Mod.fn (v12,(x0.2.1,()))).1))))))) (ref01_Mod.pre (x0.2.2.2,(x0.2.1,())) ∧ ((((v15 + List.length y2.2) * 8) ≤ 140737488355328 ∧ (v15 + List.length y2.2) ≤ 9223372036854775807) ∧ ((((v16 + List.length [x0.2.1]) * 8) ≤ 140737488355328 ∧ (v16 + List.length [x0.2.1]) ≤ 9223372036854775807) ∧ (ref01_Gcd.pre (((([] : List Int) ++ y2.2) ++ [x0.2.1]),()) ∧ (v17.1 ≠ (0 : Int) ∧ cond (Int.tmod v18.1 v17.1 != (0 : Int)) (Q v5) (cond (x0.2.1 == v17.1) (Q (ref03_truth.fn (true,()))) ((v17.1 ≠ (0 : Int) ∧ fits IntKind.i64 (Int.tdiv x0.2.1 v17.1)) ∧ ((v17.1 ≠ (0 : Int) ∧ fits IntKind.i64 (Int.tdiv v18.1 v17.1)) ∧ (ref03_over.pre ((y2.2,v18.1),(v17.1,(Int.tdiv v18.1 v17.1,()))) ∧ Q (((2 : Int),(Int.tdiv x0.2.1 v17.1,(ref03_over.fn ((y2.2,v18.1),(v17.1,(Int.tdiv v18.1 v17.1,())))))),(0 : Int)))))))))))) ((0 : Int),(List.replicate (Int.toNat ((List.length x0.2.2.1 : Nat) : Int)) (0 : Int))))))
def ref04_sides.wp (x0 : Cond) (x1 : Cond) (Q : Int → Prop) : Prop := Lp (σ := Int × Bool × Bool) (fun y3 R3 => let v0 := List.getD x1.2.2.1 (Int.toNat y3.1) (0 : Int);let v1 := List.getD x0.2.2.1 (Int.toNat y3.1) (0 : Int);cond (decide (y3.1 < ((List.length x0.2.2.1 : Nat) : Int))) ((y3.2.2 = true → (y3.2.2 = true ∧ True)) ∧ ((y3.2.2 = true → (y3.2.2 = true ∧ True)) ∧ ((y3.2.2 = true → (y3.2.2 = true ∧ (y3.2.2 = true ∧ ((0 : Int) ≤ y3.1 ∧ y3.1 < ((List.length x0.2.2.1 : Nat) : Int))))) ∧ ((y3.2.2 = true → (y3.2.2 = true ∧ True)) ∧ ((y3.2.2 = true → (y3.2.2 = true ∧ True)) ∧ ((y3.2.2 = true → (y3.2.2 = true ∧ True)) ∧ ((y3.2.2 = true → (y3.2.2 = true ∧ (y3.2.2 = true ∧ ((0 : Int) ≤ y3.1 ∧ y3.1 < ((List.length x1.2.2.1 : Nat) : Int))))) ∧ ((y3.2.2 = true → (y3.2.2 = true ∧ True)) ∧ ((y3.2.2 = true → (y3.2.2 = true ∧ (y3.2.2 = true ∧ True))) ∧ ((y3.2.2 = true → y3.2.2 = true) ∧ ((y3.2.1 = true → (y3.2.1 = true ∧ True)) ∧ ((y3.2.1 = true → (y3.2.1 = true ∧ True)) ∧ ((y3.2.1 = true → (y3.2.1 = true ∧ (y3.2.1 = true ∧ ((0 : Int) ≤ y3.1 ∧ y3.1 < ((List.length x0.2.2.1 : Nat) : Int))))) ∧ ((y3.2.1 = true → (y3.2.1 = true ∧ True)) ∧ ((y3.2.1 = true → (y3.2.1 = true ∧ True)) ∧ ((y3.2.1 = true → (y3.2.1 = true ∧ True)) ∧ ((y3.2.1 = true → (y3.2.1 = true ∧ (y3.2.1 = true ∧ ((0 : Int) ≤ y3.1 ∧ y3.1 < ((List.length x1.2.2.1 : Nat) : Int))))) ∧ ((y3.2.1 = true → (y3.2.1 = true ∧ True)) ∧ ((y3.2.1 = true → (y3.2.1 = true ∧ fits IntKind.i64 (-v0))) ∧ ((y3.2.1 = true → (y3.2.1 = true ∧ (y3.2.1 = true ∧ True))) ∧ ((y3.2.1 = true → y3.2.1 = true) ∧ (fits IntKind.i64 (y3.1 + (1 : Int)) ∧ R3 ((y3.1 + (1 : Int)),((y3.2.1 && (v1 == (-v0))),(y3.2.2 && (v1 == v0)))))))))))))))))))))))))) (cond y3.2.2 (Q (1 : Int)) (cond y3.2.1 (Q (-(1 : Int))) (Q (0 : Int))))) ((0 : Int),(true,true))
def ref02_Order.wp (x0 : List Int) (x1 : List Int) (Q : Int → Prop) : Prop := Lp (σ := Int) (fun y3 R3 => let v0 := List.getD x0 (Int.toNat y3) (0 : Int);let v1 := List.getD x1 (Int.toNat y3) (0 : Int);cond (decide (y3 < ((List.length x0 : Nat) : Int))) (((0 : Int) ≤ y3 ∧ y3 < ((List.length x0 : Nat) : Int)) ∧ (((0 : Int) ≤ y3 ∧ y3 < ((List.length x1 : Nat) : Int)) ∧ cond (decide (v0 < v1)) (Q (-(1 : Int))) (((0 : Int) ≤ y3 ∧ y3 < ((List.length x0 : Nat) : Int)) ∧ (((0 : Int) ≤ y3 ∧ y3 < ((List.length x1 : Nat) : Int)) ∧ cond (decide (v1 < v0)) (Q (1 : Int)) (fits IntKind.i64 (y3 + (1 : Int)) ∧ R3 (y3 + (1 : Int))))))) (Q (0 : Int))) (0 : Int)
def ref03_rank.wp (x0 : Int) (Q : Int → Prop) : Prop := cond (x0 == (1 : Int)) (Q (0 : Int)) (cond (x0 == (0 : Int)) (Q (1 : Int)) (Q (2 : Int)))
def ref02_Cmp.wp (x0 : Lin) (x1 : Lin) (Q : Int → Prop) : Prop := let v0 := List.length ([] : List Int);let v1 := List.length (([] : List Int) ++ x0.1);let v2 := List.length (([] : List Int) ++ x1.1);((((v0 + List.length x0.1) * 8) ≤ 140737488355328 ∧ (v0 + List.length x0.1) ≤ 9223372036854775807) ∧ ((((v1 + List.length [x0.2]) * 8) ≤ 140737488355328 ∧ (v1 + List.length [x0.2]) ≤ 9223372036854775807) ∧ ((((v0 + List.length x1.1) * 8) ≤ 140737488355328 ∧ (v0 + List.length x1.1) ≤ 9223372036854775807) ∧ ((((v2 + List.length [x1.2]) * 8) ≤ 140737488355328 ∧ (v2 + List.length [x1.2]) ≤ 9223372036854775807) ∧ (ref02_Order.pre (((([] : List Int) ++ x0.1) ++ [x0.2]),(((([] : List Int) ++ x1.1) ++ [x1.2]),())) ∧ Q (ref02_Order.fn (((([] : List Int) ++ x0.1) ++ [x0.2]),(((([] : List Int) ++ x1.1) ++ [x1.2]),()))))))))
def ref03_Cmp.wp (x0 : Cond) (x1 : Cond) (Q : Int → Prop) : Prop := let v0 := ref03_rank.fn (x0.1,());let v1 := ref03_rank.fn (x1.1,());let v2 := ref02_Order.fn ([v0,x0.2.1],([v1,x1.2.1],()));(ref02_Order.pre ([v0,x0.2.1],([v1,x1.2.1],())) ∧ cond (v2 != (0 : Int)) (Q v2) (ref02_Cmp.pre (x0.2.2,(x1.2.2,())) ∧ Q (ref02_Cmp.fn (x0.2.2,(x1.2.2,())))))
def ref04_Sorted.wp (x0 : List Cond) (Q : (List Cond) → Prop) : Prop := let v4 := List.length ([] : List (Cond));Lp (σ := Int × List (Cond)) (fun y2 R2 => let v1 := List.getD x0 (Int.toNat y2.1) dCond;cond (decide (y2.1 < ((List.length x0 : Nat) : Int))) (((0 : Int) ≤ y2.1 ∧ y2.1 < ((List.length x0 : Nat) : Int)) ∧ Lp (σ := Int) (fun y4 R4 => let v0 := List.getD y2.2 (Int.toNat y4) dCond;let v5 := List.take (Int.toNat y4) y2.2;let v6 := List.length (([] : List (Cond)) ++ v5);let v7 := List.length ((([] : List (Cond)) ++ v5) ++ [v1]);let v8 := List.drop (Int.toNat y4) y2.2;((decide (y4 < ((List.length y2.2 : Nat) : Int)) = true → (decide (y4 < ((List.length y2.2 : Nat) : Int)) = true ∧ (decide (y4 < ((List.length y2.2 : Nat) : Int)) = true ∧ ((0 : Int) ≤ y4 ∧ y4 < ((List.length y2.2 : Nat) : Int))))) ∧ ((decide (y4 < ((List.length y2.2 : Nat) : Int)) = true → (decide (y4 < ((List.length y2.2 : Nat) : Int)) = true ∧ True)) ∧ ((decide (y4 < ((List.length y2.2 : Nat) : Int)) = true → (decide (y4 < ((List.length y2.2 : Nat) : Int)) = true ∧ (decide (y4 < ((List.length y2.2 : Nat) : Int)) = true ∧ ref03_Cmp.pre (v0,(v1,()))))) ∧ ((decide (y4 < ((List.length y2.2 : Nat) : Int)) = true → (decide (y4 < ((List.length y2.2 : Nat) : Int)) = true ∧ True)) ∧ ((decide (y4 < ((List.length y2.2 : Nat) : Int)) = true → decide (y4 < ((List.length y2.2 : Nat) : Int)) = true) ∧ cond (decide (y4 < ((List.length y2.2 : Nat) : Int)) && decide ((ref03_Cmp.fn (v0,(v1,()))) < (0 : Int))) (fits IntKind.i64 (y4 + (1 : Int)) ∧ R4 (y4 + (1 : Int))) ((decide (y4 < ((List.length y2.2 : Nat) : Int)) = true → (decide (y4 < ((List.length y2.2 : Nat) : Int)) = true ∧ (decide (y4 < ((List.length y2.2 : Nat) : Int)) = true ∧ ((0 : Int) ≤ y4 ∧ y4 < ((List.length y2.2 : Nat) : Int))))) ∧ ((decide (y4 < ((List.length y2.2 : Nat) : Int)) = true → (decide (y4 < ((List.length y2.2 : Nat) : Int)) = true ∧ True)) ∧ ((decide (y4 < ((List.length y2.2 : Nat) : Int)) = true → (decide (y4 < ((List.length y2.2 : Nat) : Int)) = true ∧ (decide (y4 < ((List.length y2.2 : Nat) : Int)) = true ∧ True))) ∧ ((decide (y4 < ((List.length y2.2 : Nat) : Int)) = true → decide (y4 < ((List.length y2.2 : Nat) : Int)) = true) ∧ cond (decide (y4 < ((List.length y2.2 : Nat) : Int)) && (ref03_Same.fn (v0,(v1,())))) (fits IntKind.i64 (y2.1 + (1 : Int)) ∧ R2 ((y2.1 + (1 : Int)),y2.2)) (((0 : Int) ≤ y4 ∧ y4 ≤ ((List.length y2.2 : Nat) : Int)) ∧ ((((v4 + List.length v5) * 48) ≤ 140737488355328 ∧ (v4 + List.length v5) ≤ 9223372036854775807) ∧ ((((v6 + List.length [v1]) * 48) ≤ 140737488355328 ∧ (v6 + List.length [v1]) ≤ 9223372036854775807) ∧ (((0 : Int) ≤ y4 ∧ y4 ≤ ((List.length y2.2 : Nat) : Int)) ∧ ((((v7 + List.length v8) * 48) ≤ 140737488355328 ∧ (v7 + List.length v8) ≤ 9223372036854775807) ∧ (fits IntKind.i64 (y2.1 + (1 : Int)) ∧ R2 ((y2.1 + (1 : Int)),(((([] : List (Cond)) ++ v5) ++ [v1]) ++ v8)))))))))))))))))) (0 : Int)) (Q y2.2)) ((0 : Int),([] : List (Cond)))
def ref04_Piece.wp (x0 : List Cond) (Q : (List Cond) × Bool × Int → Prop) : Prop := Lp (σ := Int × Bool × (List (Cond)) × (List (Cond)) × List (Cond)) (fun y2 R2 => let v0 := List.getD x0 (Int.toNat y2.1) dCond;let v1 := [(((ref03_Made.fn (v0,())).1).1,((((ref03_Made.fn (v0,())).1).2).1,((((ref03_Made.fn (v0,())).1).2).2)))];let v2 := ref03_Valid.fn ((((ref03_Made.fn (v0,())).1).1,((((ref03_Made.fn (v0,())).1).2).1,((((ref03_Made.fn (v0,())).1).2).2))),());cond (decide (y2.1 < ((List.length x0 : Nat) : Int))) (((0 : Int) ≤ y2.1 ∧ y2.1 < ((List.length x0 : Nat) : Int)) ∧ (ref03_Made.pre (v0,()) ∧ cond ((ref03_Made.fn (v0,())).2 == (-(1 : Int))) (Q (([] : List (Cond)),(true,(0 : Int)))) (cond ((ref03_Made.fn (v0,())).2 == (1 : Int)) (fits IntKind.i64 (y2.1 + (1 : Int)) ∧ R2 ((y2.1 + (1 : Int)),y2.2)) (((!y2.2.1) = true → ((!y2.2.1) = true ∧ True)) ∧ (((!y2.2.1) = true → ((!y2.2.1) = true ∧ True)) ∧ ((y2.2.1 = false → (!y2.2.1) = true) ∧ cond (((ref03_Made.fn (v0,())).1).1 == (0 : Int)) ((((List.length y2.2.2.1 + List.length v1) * 48) ≤ 140737488355328 ∧ (List.length y2.2.2.1 + List.length v1) ≤ 9223372036854775807) ∧ (fits IntKind.i64 (y2.1 + (1 : Int)) ∧ R2 ((y2.1 + (1 : Int)),((y2.2.1 || (!v2)),((y2.2.2.1 ++ v1),y2.2.2.2))))) (cond (((ref03_Made.fn (v0,())).1).1 == (1 : Int)) ((((List.length y2.2.2.2.1 + List.length v1) * 48) ≤ 140737488355328 ∧ (List.length y2.2.2.2.1 + List.length v1) ≤ 9223372036854775807) ∧ (fits IntKind.i64 (y2.1 + (1 : Int)) ∧ R2 ((y2.1 + (1 : Int)),((y2.2.1 || (!v2)),(y2.2.2.1,((y2.2.2.2.1 ++ v1),y2.2.2.2.2)))))) ((((List.length y2.2.2.2.2 + List.length v1) * 48) ≤ 140737488355328 ∧ (List.length y2.2.2.2.2 + List.length v1) ≤ 9223372036854775807) ∧ (fits IntKind.i64 (y2.1 + (1 : Int)) ∧ R2 ((y2.1 + (1 : Int)),((y2.2.1 || (!v2)),(y2.2.2.1,(y2.2.2.2.1,(y2.2.2.2.2 ++ v1)))))))))))))) (Lp (σ := Int × List (Cond)) (fun y4 R4 => let v4 := List.getD y2.2.2.1 (Int.toNat y4.1) dCond;cond (decide (y4.1 < ((List.length y2.2.2.1 : Nat) : Int))) (((0 : Int) ≤ y4.1 ∧ y4.1 < ((List.length y2.2.2.1 : Nat) : Int)) ∧ (Int.toNat y4.1 < List.length y2.2.2.1 ∧ Lp (σ := Int × Bool × List (Cond)) (fun y6 R6 => let v3 := List.getD y6.2.2 (Int.toNat y6.1) dCond;cond (decide (y6.1 < ((List.length y4.2 : Nat) : Int))) (((0 : Int) ≤ y6.1 ∧ y6.1 < ((List.length y6.2.2 : Nat) : Int)) ∧ (Int.toNat y6.1 < List.length y6.2.2 ∧ (ref04_sides.pre (v3,(v4,())) ∧ cond ((ref04_sides.fn (v3,(v4,()))) == (1 : Int)) (((0 : Int) ≤ y6.1 ∧ y6.1 < ((List.length y6.2.2 : Nat) : Int)) ∧ (Int.toNat y6.1 < List.length y6.2.2 ∧ (((0 : Int) ≤ y6.1 ∧ y6.1 < ((List.length y6.2.2 : Nat) : Int)) ∧ (Int.toNat y6.1 < List.length y6.2.2 ∧ (fits IntKind.i64 (y6.1 + (1 : Int)) ∧ R6 ((y6.1 + (1 : Int)),(true,(List.set y6.2.2 (Int.toNat y6.1) (v3.1,(v3.2.1,(v3.2.2.1,(Min.min v3.2.2.2 v4.2.2.2)))))))))))) (fits IntKind.i64 (y6.1 + (1 : Int)) ∧ R6 ((y6.1 + (1 : Int)),y6.2))))) (cond (!y6.2.1) ((((List.length y6.2.2 + List.length [v4]) * 48) ≤ 140737488355328 ∧ (List.length y6.2.2 + List.length [v4]) ≤ 9223372036854775807) ∧ (fits IntKind.i64 (y4.1 + (1 : Int)) ∧ R4 ((y4.1 + (1 : Int)),(y6.2.2 ++ [v4])))) (fits IntKind.i64 (y4.1 + (1 : Int)) ∧ R4 ((y4.1 + (1 : Int)),y6.2.2)))) ((0 : Int),(false,y4.2)))) (((0 : Int) ≤ ((List.length y4.2 : Nat) : Int) ∧ (((List.length y4.2 : Nat) : Int) ≤ ((List.length y4.2 : Nat) : Int) ∧ ((((List.length y4.2 : Nat) : Int) * ((1 : Nat) : Int)) ≤ (140737488355328 : Int) ∧ ((List.length y4.2 : Nat) : Int) ≤ (9223372036854775807 : Int)))) ∧ Lp (σ := Int × (List (Cond)) × List Bool) (fun y6 R6 => let v10 := List.getD y4.2 (Int.toNat y6.1) dCond;let v14 := ref03_Made.fn (((1 : Int),((0 : Int),v10.2.2)),());cond (decide (y6.1 < ((List.length y4.2 : Nat) : Int))) (((0 : Int) ≤ y6.1 ∧ y6.1 < ((List.length y4.2 : Nat) : Int)) ∧ (Int.toNat y6.1 < List.length y4.2 ∧ (fits IntKind.i64 (y6.1 + (1 : Int)) ∧ Lp (σ := Int × (List (Cond)) × List Bool) (fun y8 R8 => let v11 := List.getD y4.2 (Int.toNat y8.1) dCond;let v13 := List.set y8.2.2 (Int.toNat y6.1) true;cond (decide (y8.1 < ((List.length y4.2 : Nat) : Int))) (((0 : Int) ≤ y8.1 ∧ y8.1 < ((List.length y4.2 : Nat) : Int)) ∧ (Int.toNat y8.1 < List.length y4.2 ∧ (ref04_sides.pre (v10,(v11,())) ∧ cond ((ref04_sides.fn (v10,(v11,()))) != (-(1 : Int))) (fits IntKind.i64 (y8.1 + (1 : Int)) ∧ R8 ((y8.1 + (1 : Int)),y8.2)) (fits IntKind.i64 (v10.2.2.2 + v11.2.2.2) ∧ cond (decide ((v10.2.2.2 + v11.2.2.2) < (0 : Int))) (Q (([] : List (Cond)),(true,(0 : Int)))) (fits IntKind.i64 (v10.2.2.2 + v11.2.2.2) ∧ cond ((v10.2.2.2 + v11.2.2.2) == (0 : Int)) (((0 : Int) ≤ y6.1 ∧ y6.1 < ((List.length y8.2.2 : Nat) : Int)) ∧ (Int.toNat y6.1 < List.length y8.2.2 ∧ (((0 : Int) ≤ y8.1 ∧ y8.1 < ((List.length v13 : Nat) : Int)) ∧ (Int.toNat y8.1 < List.length v13 ∧ (ref03_Made.pre (((1 : Int),((0 : Int),v10.2.2)),()) ∧ ((((List.length y8.2.1 + List.length [v14.1]) * 48) ≤ 140737488355328 ∧ (List.length y8.2.1 + List.length [v14.1]) ≤ 9223372036854775807) ∧ (fits IntKind.i64 (y8.1 + (1 : Int)) ∧ R8 ((y8.1 + (1 : Int)),((y8.2.1 ++ [v14.1]),(List.set v13 (Int.toNat y8.1) true)))))))))) (fits IntKind.i64 (y8.1 + (1 : Int)) ∧ R8 ((y8.1 + (1 : Int)),y8.2))))))) (fits IntKind.i64 (y6.1 + (1 : Int)) ∧ R6 ((y6.1 + (1 : Int)),y8.2))) ((y6.1 + (1 : Int)),y6.2)))) (Lp (σ := Int × List Bool) (fun y8 R8 => let v16 := List.getD y6.2.1 (Int.toNat y8.1) dCond;cond (decide (y8.1 < ((List.length y6.2.1 : Nat) : Int))) (((0 : Int) ≤ y8.1 ∧ y8.1 < ((List.length y6.2.1 : Nat) : Int)) ∧ (Int.toNat y8.1 < List.length y6.2.1 ∧ (((0 : Int) ≤ y8.1 ∧ y8.1 ≤ ((List.length y6.2.1 : Nat) : Int)) ∧ Lp (σ := Int) (fun y10 R10 => let v17 := List.getD y6.2.1 (0 + Int.toNat y10) dCond;let v18 := ref04_sides.fn (v16,(v17,()));cond (decide (y10 < ((Int.toNat y8.1 : Nat) : Int))) (((0 : Int) ≤ y10 ∧ (y10 < ((Int.toNat y8.1 : Nat) : Int) ∧ (0 + Int.toNat y8.1) ≤ List.length y6.2.1)) ∧ ((0 + Int.toNat y10) < List.length y6.2.1 ∧ (ref04_sides.pre (v16,(v17,())) ∧ (((v18 == (1 : Int)) = true → ((v18 == (1 : Int)) = true ∧ True)) ∧ (((v18 == (1 : Int)) = true → ((v18 == (1 : Int)) = true ∧ True)) ∧ (((v18 == (1 : Int)) = true → ((v18 == (1 : Int)) = true ∧ True)) ∧ (((v18 == (1 : Int)) = true → ((v18 == (1 : Int)) = true ∧ True)) ∧ (((v18 == (1 : Int)) = true → ((v18 == (1 : Int)) = true ∧ ((v18 == (1 : Int)) = true ∧ True))) ∧ (((v18 == (1 : Int)) = true → (v18 == (1 : Int)) = true) ∧ cond ((v18 == (1 : Int)) && (v16.2.2.2 != v17.2.2.2)) (Q (([] : List (Cond)),(true,(0 : Int)))) (fits IntKind.i64 (y10 + (1 : Int)) ∧ R10 (y10 + (1 : Int)))))))))))) (Lp (σ := Int × List Bool) (fun y12 R12 => let v19 := List.getD y12.2 (Int.toNat y12.1) false;let v20 := List.getD y4.2 (Int.toNat y12.1) dCond;let v21 := ref04_sides.fn (v16,(v20,()));cond (decide (y12.1 < ((List.length y4.2 : Nat) : Int))) (((0 : Int) ≤ y12.1 ∧ y12.1 < ((List.length y4.2 : Nat) : Int)) ∧ (Int.toNat y12.1 < List.length y4.2 ∧ (((0 : Int) ≤ y12.1 ∧ y12.1 < ((List.length y12.2 : Nat) : Int)) ∧ (Int.toNat y12.1 < List.length y12.2 ∧ (((!v19) = true → ((!v19) = true ∧ ((!v19) = true ∧ ref04_sides.pre (v16,(v20,()))))) ∧ (((!v19) = true → ((!v19) = true ∧ True)) ∧ ((v19 = false → (!v19) = true) ∧ cond (v19 || (v21 == (0 : Int))) (fits IntKind.i64 (y12.1 + (1 : Int)) ∧ R12 ((y12.1 + (1 : Int)),y12.2)) (ref04_sides.pre (v16,(v20,())) ∧ (fits IntKind.i64 (v21 * v16.2.2.2) ∧ (fits IntKind.i64 (v20.2.2.2 - (v21 * v16.2.2.2)) ∧ cond (decide ((v20.2.2.2 - (v21 * v16.2.2.2)) < (0 : Int))) (Q (([] : List (Cond)),(true,(0 : Int)))) (((0 : Int) ≤ y12.1 ∧ y12.1 < ((List.length y12.2 : Nat) : Int)) ∧ (Int.toNat y12.1 < List.length y12.2 ∧ (fits IntKind.i64 (y12.1 + (1 : Int)) ∧ R12 ((y12.1 + (1 : Int)),(List.set y12.2 (Int.toNat y12.1) true))))))))))))))) (fits IntKind.i64 (y8.1 + (1 : Int)) ∧ R8 ((y8.1 + (1 : Int)),y12.2))) ((0 : Int),y8.2))) (0 : Int)))) (Lp (σ := Int × List (Cond)) (fun y10 R10 => let v24 := List.getD y4.2 (Int.toNat y10.1) dCond;let v25 := ref04_Sorted.fn ((y10.2 ++ y2.2.2.2.2),());cond (decide (y10.1 < ((List.length y4.2 : Nat) : Int))) (((0 : Int) ≤ y10.1 ∧ y10.1 < ((List.length y4.2 : Nat) : Int)) ∧ (Int.toNat y10.1 < List.length y4.2 ∧ (((0 : Int) ≤ y10.1 ∧ y10.1 < ((List.length y8.2 : Nat) : Int)) ∧ (Int.toNat y10.1 < List.length y8.2 ∧ cond (!(List.getD y8.2 (Int.toNat y10.1) false)) ((((List.length y10.2 + List.length [v24]) * 48) ≤ 140737488355328 ∧ (List.length y10.2 + List.length [v24]) ≤ 9223372036854775807) ∧ (fits IntKind.i64 (y10.1 + (1 : Int)) ∧ R10 ((y10.1 + (1 : Int)),(y10.2 ++ [v24])))) (fits IntKind.i64 (y10.1 + (1 : Int)) ∧ R10 ((y10.1 + (1 : Int)),y10.2)))))) ((((List.length y10.2 + List.length y2.2.2.2.2) * 48) ≤ 140737488355328 ∧ (List.length y10.2 + List.length y2.2.2.2.2) ≤ 9223372036854775807) ∧ (ref04_Sorted.pre ((y10.2 ++ y2.2.2.2.2),()) ∧ (((!y2.2.1) = true → ((!y2.2.1) = true ∧ True)) ∧ (((!y2.2.1) = true → ((!y2.2.1) = true ∧ True)) ∧ ((y2.2.1 = false → (!y2.2.1) = true) ∧ cond (y2.2.1 || decide ((96 : Int) < ((List.length v25 : Nat) : Int))) (Q (([] : List (Cond)),(false,(3 : Int)))) (Q (v25,(false,(0 : Int)))))))))) ((0 : Int),y6.2.1))) ((0 : Int),y6.2.2))) ((0 : Int),(y2.2.2.2.1,(List.replicate (Int.toNat ((List.length y4.2 : Nat) : Int)) false))))) ((0 : Int),([] : List (Cond))))) ((0 : Int),(false,(([] : List (Cond)),(([] : List (Cond)),([] : List (Cond))))))
def ref04_Known.wp (x0 : List (List Cond)) (x1 : List Cond) (Q : Bool → Prop) : Prop := Lp (σ := Int) (fun y3 R3 => cond (decide (y3 < ((List.length x0 : Nat) : Int))) (((0 : Int) ≤ y3 ∧ y3 < ((List.length x0 : Nat) : Int)) ∧ cond (ref04_SamePiece.fn ((List.getD x0 (Int.toNat y3) ([] : List (Cond))),(x1,()))) (Q true) (fits IntKind.i64 (y3 + (1 : Int)) ∧ R3 (y3 + (1 : Int)))) (Q false)) (0 : Int)
def ref04_Pieces.wp (x0 : List (List Cond)) (Q : (List (List Cond)) × Int → Prop) : Prop := Lp (σ := Int × List (List (Cond))) (fun y2 R2 => let v0 := List.getD x0 (Int.toNat y2.1) ([] : List (Cond));let v1 := ref04_Piece.fn (v0,());cond (decide (y2.1 < ((List.length x0 : Nat) : Int))) (((0 : Int) ≤ y2.1 ∧ y2.1 < ((List.length x0 : Nat) : Int)) ∧ (ref04_Piece.pre (v0,()) ∧ cond (v1.2.2 != (0 : Int)) (Q (([] : List (List (Cond))),v1.2.2)) (((!v1.2.1) = true → ((!v1.2.1) = true ∧ ((!v1.2.1) = true ∧ True))) ∧ (((!v1.2.1) = true → ((!v1.2.1) = true ∧ True)) ∧ (((!v1.2.1) = true → (!v1.2.1) = true) ∧ cond ((!v1.2.1) && (!(ref04_Known.fn (y2.2,(v1.1,()))))) ((((List.length y2.2 + List.length [v1.1]) * 24) ≤ 140737488355328 ∧ (List.length y2.2 + List.length [v1.1]) ≤ 9223372036854775807) ∧ (fits IntKind.i64 (y2.1 + (1 : Int)) ∧ R2 ((y2.1 + (1 : Int)),(y2.2 ++ [v1.1])))) (fits IntKind.i64 (y2.1 + (1 : Int)) ∧ R2 ((y2.1 + (1 : Int)),y2.2))))))) (Q (y2.2,(0 : Int)))) ((0 : Int),([] : List (List (Cond))))
def ref04_Made.wp (x0 : Int) (x1 : List (List Cond)) (Q : (Int × (List (List Cond))) × Int → Prop) : Prop := let v0 := ref04_Pieces.fn (x1,());(ref04_Pieces.pre (x1,()) ∧ (((!(v0.2 != (0 : Int))) = true → ((!(v0.2 != (0 : Int))) = true ∧ True)) ∧ (((!(v0.2 != (0 : Int))) = true → ((!(v0.2 != (0 : Int))) = true ∧ True)) ∧ (((v0.2 != (0 : Int)) = false → (!(v0.2 != (0 : Int))) = true) ∧ cond ((v0.2 != (0 : Int)) || decide ((400 : Int) < ((List.length v0.1 : Nat) : Int))) (Q (((0 : Int),([] : List (List (Cond)))),(3 : Int))) (Q ((x0,v0.1),(0 : Int)))))))
def ref04_Normal.wp (x0 : Int × (List (List Cond))) (Q : (Int × (List (List Cond))) × Int → Prop) : Prop := cond (!(ref04_Valid.fn (x0,()))) (Q (((0 : Int),([] : List (List (Cond)))),(1 : Int))) (ref04_Made.pre (x0.1,(x0.2,())) ∧ Q (ref04_Made.fn (x0.1,(x0.2,()))))
def ref04_And.wp (x0 : List Cond) (x1 : List Cond) (Q : (List Cond) → Prop) : Prop := let v0 := List.length ([] : List (Cond));let v1 := List.length (([] : List (Cond)) ++ x0);((((v0 + List.length x0) * 48) ≤ 140737488355328 ∧ (v0 + List.length x0) ≤ 9223372036854775807) ∧ ((((v1 + List.length x1) * 48) ≤ 140737488355328 ∧ (v1 + List.length x1) ≤ 9223372036854775807) ∧ Q ((([] : List (Cond)) ++ x0) ++ x1)))
def ref02_Mix.wp (x0 : Int) (x1 : Lin) (x2 : Int) (x3 : Lin) (Q : Lin → Prop) : Prop := (((0 : Int) ≤ ((List.length x1.1 : Nat) : Int) ∧ (((List.length x1.1 : Nat) : Int) ≤ ((List.length x1.1 : Nat) : Int) ∧ ((((List.length x1.1 : Nat) : Int) * ((8 : Nat) : Int)) ≤ (140737488355328 : Int) ∧ ((List.length x1.1 : Nat) : Int) ≤ (9223372036854775807 : Int)))) ∧ (fits IntKind.i64 (x0 * x1.2) ∧ (fits IntKind.i64 (x2 * x3.2) ∧ (fits IntKind.i64 ((x0 * x1.2) + (x2 * x3.2)) ∧ Lp (σ := Int × List Int) (fun y5 R5 => let v2 := List.getD x1.1 (Int.toNat y5.1) (0 : Int);let v3 := List.getD x3.1 (Int.toNat y5.1) (0 : Int);cond (decide (y5.1 < ((List.length x1.1 : Nat) : Int))) (((0 : Int) ≤ y5.1 ∧ y5.1 < ((List.length x1.1 : Nat) : Int)) ∧ (fits IntKind.i64 (x0 * v2) ∧ (((0 : Int) ≤ y5.1 ∧ y5.1 < ((List.length x3.1 : Nat) : Int)) ∧ (fits IntKind.i64 (x2 * v3) ∧ (fits IntKind.i64 ((x0 * v2) + (x2 * v3)) ∧ (((0 : Int) ≤ y5.1 ∧ y5.1 < ((List.length y5.2 : Nat) : Int)) ∧ (Int.toNat y5.1 < List.length y5.2 ∧ (fits IntKind.i64 (y5.1 + (1 : Int)) ∧ R5 ((y5.1 + (1 : Int)),(List.set y5.2 (Int.toNat y5.1) ((x0 * v2) + (x2 * v3)))))))))))) (Q (y5.2,((x0 * x1.2) + (x2 * x3.2))))) ((0 : Int),(List.replicate (Int.toNat ((List.length x1.1 : Nat) : Int)) (0 : Int)))))))
def ref03_Negate.wp (x0 : Cond) (Q : (List Cond) × Int → Prop) : Prop := let v1 := List.replicate (Int.toNat ((List.length x0.2.2.1 : Nat) : Int)) (0 : Int);let v2 := ref02_Mix.fn ((-(1 : Int)),(x0.2.2,((-(1 : Int)),((v1,(1 : Int)),()))));let v9 := [((0 : Int),((0 : Int),(v1,(0 : Int))))];cond (!(ref03_Valid.fn (x0,()))) (Q (([] : List (Cond)),(1 : Int))) (((0 : Int) ≤ ((List.length x0.2.2.1 : Nat) : Int) ∧ (((List.length x0.2.2.1 : Nat) : Int) ≤ ((List.length x0.2.2.1 : Nat) : Int) ∧ ((((List.length x0.2.2.1 : Nat) : Int) * ((8 : Nat) : Int)) ≤ (140737488355328 : Int) ∧ ((List.length x0.2.2.1 : Nat) : Int) ≤ (9223372036854775807 : Int)))) ∧ JoinW (σ := (List (Cond)) × Bool × Bool × Int) (fun y2 => Lp (σ := Int × List (Cond)) (fun y3 R3 => let v8 := List.getD y2.1 (Int.toNat y3.1) dCond;let v11 := [(((ref03_Made.fn (v8,())).1).1,((((ref03_Made.fn (v8,())).1).2).1,((((ref03_Made.fn (v8,())).1).2).2)))];cond (decide (y3.1 < ((List.length y2.1 : Nat) : Int))) (((0 : Int) ≤ y3.1 ∧ y3.1 < ((List.length y2.1 : Nat) : Int)) ∧ (ref03_Made.pre (v8,()) ∧ cond ((ref03_Made.fn (v8,())).2 == (1 : Int)) ((((List.length y3.2 + List.length v9) * 48) ≤ 140737488355328 ∧ (List.length y3.2 + List.length v9) ≤ 9223372036854775807) ∧ (fits IntKind.i64 (y3.1 + (1 : Int)) ∧ R3 ((y3.1 + (1 : Int)),(y3.2 ++ v9)))) ((((ref03_Made.fn (v8,())).2 == (0 : Int)) = true → (((ref03_Made.fn (v8,())).2 == (0 : Int)) = true ∧ True)) ∧ ((((ref03_Made.fn (v8,())).2 == (0 : Int)) = true → (((ref03_Made.fn (v8,())).2 == (0 : Int)) = true ∧ True)) ∧ ((((ref03_Made.fn (v8,())).2 == (0 : Int)) = true → ((ref03_Made.fn (v8,())).2 == (0 : Int)) = true) ∧ cond (((ref03_Made.fn (v8,())).2 == (0 : Int)) && (!(ref03_Valid.fn ((((ref03_Made.fn (v8,())).1).1,((((ref03_Made.fn (v8,())).1).2).1,((((ref03_Made.fn (v8,())).1).2).2))),())))) (Q (([] : List (Cond)),(3 : Int))) (cond ((ref03_Made.fn (v8,())).2 == (0 : Int)) ((((List.length y3.2 + List.length v11) * 48) ≤ 140737488355328 ∧ (List.length y3.2 + List.length v11) ≤ 9223372036854775807) ∧ (fits IntKind.i64 (y3.1 + (1 : Int)) ∧ R3 ((y3.1 + (1 : Int)),(y3.2 ++ v11)))) (fits IntKind.i64 (y3.1 + (1 : Int)) ∧ R3 ((y3.1 + (1 : Int)),y3.2)))))))) (cond (decide ((400 : Int) < ((List.length y3.2 : Nat) : Int))) (Q (([] : List (Cond)),(3 : Int))) (Q (y3.2,(0 : Int))))) ((0 : Int),([] : List (Cond)))) (fun J2 => cond (x0.1 == (0 : Int)) (ref02_Mix.pre ((-(1 : Int)),(x0.2.2,((-(1 : Int)),((v1,(1 : Int)),())))) ∧ J2 (([((0 : Int),((0 : Int),v2))]),((x0.1 == (0 : Int)),((x0.1 == (0 : Int)),x0.1)))) (cond (x0.1 == (1 : Int)) (ref02_Mix.pre ((1 : Int),(x0.2.2,((-(1 : Int)),((v1,(1 : Int)),())))) ∧ (ref02_Mix.pre ((-(1 : Int)),(x0.2.2,((-(1 : Int)),((v1,(1 : Int)),())))) ∧ J2 (([((0 : Int),((0 : Int),(ref02_Mix.fn ((1 : Int),(x0.2.2,((-(1 : Int)),((v1,(1 : Int)),()))))))),((0 : Int),((0 : Int),v2))]),((x0.1 == (0 : Int)),((x0.1 == (0 : Int)),x0.1))))) (Lp (σ := Int × List (Cond)) (fun y3 R3 => let v7 := [((2 : Int),(x0.2.1,(ref02_Mix.fn ((1 : Int),(x0.2.2,((-y3.1),((v1,(1 : Int)),())))))))];cond (decide (y3.1 < x0.2.1)) (fits IntKind.i64 (-y3.1) ∧ (ref02_Mix.pre ((1 : Int),(x0.2.2,((-y3.1),((v1,(1 : Int)),())))) ∧ ((((List.length y3.2 + List.length v7) * 48) ≤ 140737488355328 ∧ (List.length y3.2 + List.length v7) ≤ 9223372036854775807) ∧ (fits IntKind.i64 (y3.1 + (1 : Int)) ∧ R3 ((y3.1 + (1 : Int)),(y3.2 ++ v7)))))) (J2 (y3.2,((x0.1 == (0 : Int)),((x0.1 == (0 : Int)),x0.1))))) ((1 : Int),([] : List (Cond)))))))
def ref04_Minus.wp (x0 : Int × (List (List Cond))) (x1 : Int × (List (List Cond))) (Q : (Int × (List (List Cond))) × Int → Prop) : Prop := let v0 := ref04_Both.fn (x0,(x1,()));let v1 := ref04_Normal.fn (x0,());let v2 := ref04_Normal.fn (x1,());cond (v0 != (0 : Int)) (Q (((0 : Int),([] : List (List (Cond)))),v0)) (((!(v1.2 != (0 : Int))) = true → ((!(v1.2 != (0 : Int))) = true ∧ True)) ∧ (((v1.2 != (0 : Int)) = false → (!(v1.2 != (0 : Int))) = true) ∧ cond ((v1.2 != (0 : Int)) || (v2.2 != (0 : Int))) (Q (((0 : Int),([] : List (List (Cond)))),(3 : Int))) (Lp (σ := Int × List (List (Cond))) (fun y3 R3 => let v4 := List.getD v2.1.2 (Int.toNat y3.1) ([] : List (Cond));cond (decide (y3.1 < ((List.length v2.1.2 : Nat) : Int))) (((0 : Int) ≤ y3.1 ∧ y3.1 < ((List.length v2.1.2 : Nat) : Int)) ∧ Lp (σ := Int × List (List (Cond))) (fun y5 R5 => let v3 := List.getD y3.2 (Int.toNat y5.1) ([] : List (Cond));let v5 := ref04_And.fn (v3,(v4,()));let v6 := ref04_Piece.fn (v5,());let v13 := ref04_Made.fn (x0.1,(y5.2,()));cond (decide (y5.1 < ((List.length y3.2 : Nat) : Int))) (((0 : Int) ≤ y5.1 ∧ y5.1 < ((List.length y3.2 : Nat) : Int)) ∧ (ref04_And.pre (v3,(v4,())) ∧ (ref04_Piece.pre (v5,()) ∧ cond (v6.2.2 != (0 : Int)) (Q (((0 : Int),([] : List (List (Cond)))),v6.2.2)) (cond v6.2.1 ((((List.length y5.2 + List.length [v3]) * 24) ≤ 140737488355328 ∧ (List.length y5.2 + List.length [v3]) ≤ 9223372036854775807) ∧ (fits IntKind.i64 (y5.1 + (1 : Int)) ∧ R5 ((y5.1 + (1 : Int)),(y5.2 ++ [v3])))) (Lp (σ := Int × List (List (Cond))) (fun y7 R7 => let v8 := ref03_Negate.fn ((List.getD v4 (Int.toNat y7.1) dCond),());let v9 := List.take (Int.toNat y7.1) v4;let v10 := ref04_And.fn (v3,(v9,()));cond (decide (y7.1 < ((List.length v4 : Nat) : Int))) (((0 : Int) ≤ y7.1 ∧ y7.1 < ((List.length v4 : Nat) : Int)) ∧ cond (v8.2 != (0 : Int)) (Q (((0 : Int),([] : List (List (Cond)))),v8.2)) (Lp (σ := Int × List (List (Cond))) (fun y9 R9 => let v11 := List.getD v8.1 (Int.toNat y9.1) dCond;let v12 := ref04_And.fn (v10,([v11],()));cond (decide (y9.1 < ((List.length v8.1 : Nat) : Int))) (((0 : Int) ≤ y9.1 ∧ y9.1 < ((List.length v8.1 : Nat) : Int)) ∧ (((0 : Int) ≤ y7.1 ∧ y7.1 ≤ ((List.length v4 : Nat) : Int)) ∧ (ref04_And.pre (v3,(v9,())) ∧ (ref04_And.pre (v10,([v11],())) ∧ ((((List.length y9.2 + List.length [v12]) * 24) ≤ 140737488355328 ∧ (List.length y9.2 + List.length [v12]) ≤ 9223372036854775807) ∧ (fits IntKind.i64 (y9.1 + (1 : Int)) ∧ R9 ((y9.1 + (1 : Int)),(y9.2 ++ [v12])))))))) (fits IntKind.i64 (y7.1 + (1 : Int)) ∧ R7 ((y7.1 + (1 : Int)),y9.2))) ((0 : Int),y7.2))) (fits IntKind.i64 (y5.1 + (1 : Int)) ∧ R5 ((y5.1 + (1 : Int)),y7.2))) ((0 : Int),y5.2)))))) (ref04_Made.pre (x0.1,(y5.2,())) ∧ cond (v13.2 != (0 : Int)) (Q (((0 : Int),([] : List (List (Cond)))),v13.2)) (fits IntKind.i64 (y3.1 + (1 : Int)) ∧ R3 ((y3.1 + (1 : Int)),v13.1.2)))) ((0 : Int),([] : List (List (Cond))))) (Q ((x0.1,y3.2),(0 : Int)))) ((0 : Int),v1.1.2))))
def ref04_Simple.wp (x0 : List Cond) (x1 : Int) (Q : (List Cond) × Bool × Int → Prop) : Prop := (((!(decide (x1 < (0 : Int)))) = true → ((!(decide (x1 < (0 : Int)))) = true ∧ True)) ∧ ((decide (x1 < (0 : Int)) = false → (!(decide (x1 < (0 : Int)))) = true) ∧ cond (decide (x1 < (0 : Int)) || decide ((12 : Int) < x1)) (Q (([] : List (Cond)),(false,(6 : Int)))) (cond (decide ((384 : Int) < ((List.length x0 : Nat) : Int))) (Q (([] : List (Cond)),(false,(3 : Int)))) (Lp (σ := Int × Int) (fun y3 R3 => let v0 := List.getD x0 (Int.toNat y3.1) dCond;cond (decide (y3.1 < ((List.length x0 : Nat) : Int))) (((0 : Int) ≤ y3.1 ∧ y3.1 < ((List.length x0 : Nat) : Int)) ∧ cond (!(ref03_Valid.fn (v0,()))) (Q (([] : List (Cond)),(false,(1 : Int)))) (cond (((List.length v0.2.2.1 : Nat) : Int) != x1) (fits IntKind.i64 (y3.1 + (1 : Int)) ∧ R3 ((y3.1 + (1 : Int)),(2 : Int))) (fits IntKind.i64 (y3.1 + (1 : Int)) ∧ R3 ((y3.1 + (1 : Int)),y3.2)))) (cond (y3.2 != (0 : Int)) (Q (([] : List (Cond)),(false,y3.2))) (ref04_Piece.pre (x0,()) ∧ Q ((ref04_Piece.fn (x0,())).1,((ref04_Piece.fn (x0,())).2))))) ((0 : Int),(0 : Int))))))
def ref04_Union.wp (x0 : Int × (List (List Cond))) (x1 : Int × (List (List Cond))) (Q : (Int × (List (List Cond))) × Int → Prop) : Prop := let v0 := ref04_Both.fn (x0,(x1,()));let v1 := List.length ([] : List (List (Cond)));let v2 := List.length (([] : List (List (Cond))) ++ x0.2);cond (v0 != (0 : Int)) (Q (((0 : Int),([] : List (List (Cond)))),v0)) ((((v1 + List.length x0.2) * 24) ≤ 140737488355328 ∧ (v1 + List.length x0.2) ≤ 9223372036854775807) ∧ ((((v2 + List.length x1.2) * 24) ≤ 140737488355328 ∧ (v2 + List.length x1.2) ≤ 9223372036854775807) ∧ (ref04_Made.pre (x0.1,(((([] : List (List (Cond))) ++ x0.2) ++ x1.2),())) ∧ Q (ref04_Made.fn (x0.1,(((([] : List (List (Cond))) ++ x0.2) ++ x1.2),()))))))
def ref04_Meet.wp (x0 : Int × (List (List Cond))) (x1 : Int × (List (List Cond))) (Q : (Int × (List (List Cond))) × Int → Prop) : Prop := let v0 := ref04_Both.fn (x0,(x1,()));cond (v0 != (0 : Int)) (Q (((0 : Int),([] : List (List (Cond)))),v0)) (Lp (σ := Int × List (List (Cond))) (fun y3 R3 => let v1 := List.getD x0.2 (Int.toNat y3.1) ([] : List (Cond));cond (decide (y3.1 < ((List.length x0.2 : Nat) : Int))) (((0 : Int) ≤ y3.1 ∧ y3.1 < ((List.length x0.2 : Nat) : Int)) ∧ Lp (σ := Int × List (List (Cond))) (fun y5 R5 => let v2 := List.getD x1.2 (Int.toNat y5.1) ([] : List (Cond));let v3 := ref04_And.fn (v1,(v2,()));cond (decide (y5.1 < ((List.length x1.2 : Nat) : Int))) (((0 : Int) ≤ y5.1 ∧ y5.1 < ((List.length x1.2 : Nat) : Int)) ∧ (ref04_And.pre (v1,(v2,())) ∧ ((((List.length y5.2 + List.length [v3]) * 24) ≤ 140737488355328 ∧ (List.length y5.2 + List.length [v3]) ≤ 9223372036854775807) ∧ (fits IntKind.i64 (y5.1 + (1 : Int)) ∧ R5 ((y5.1 + (1 : Int)),(y5.2 ++ [v3])))))) (fits IntKind.i64 (y3.1 + (1 : Int)) ∧ R3 ((y3.1 + (1 : Int)),y5.2))) ((0 : Int),y3.2)) (ref04_Made.pre (x0.1,(y3.2,())) ∧ Q (ref04_Made.fn (x0.1,(y3.2,()))))) ((0 : Int),([] : List (List (Cond)))))
def ref02_Value.wp (x0 : Lin) (x1 : List Int) (Q : Int → Prop) : Prop := Lp (σ := Int × Int) (fun y3 R3 => let v0 := List.getD x0.1 (Int.toNat y3.1) (0 : Int);let v1 := List.getD x1 (Int.toNat y3.1) (0 : Int);cond (decide (y3.1 < ((List.length x0.1 : Nat) : Int))) (((0 : Int) ≤ y3.1 ∧ y3.1 < ((List.length x0.1 : Nat) : Int)) ∧ (((0 : Int) ≤ y3.1 ∧ y3.1 < ((List.length x1 : Nat) : Int)) ∧ (fits IntKind.i64 (v0 * v1) ∧ (fits IntKind.i64 (y3.2 + (v0 * v1)) ∧ (fits IntKind.i64 (y3.1 + (1 : Int)) ∧ R3 ((y3.1 + (1 : Int)),(y3.2 + (v0 * v1)))))))) (Q y3.2)) ((0 : Int),x0.2)
def ref03_Is.wp (x0 : Cond) (x1 : List Int) (Q : Bool → Prop) : Prop := let v0 := ref02_Value.fn (x0.2.2,(x1,()));(ref02_Value.pre (x0.2.2,(x1,())) ∧ cond (x0.1 == (0 : Int)) (Q (decide ((0 : Int) ≤ v0))) (cond (x0.1 == (1 : Int)) (Q (v0 == (0 : Int))) (x0.2.1 ≠ (0 : Int) ∧ Q (Int.tmod v0 x0.2.1 == (0 : Int)))))
def ref04_In.wp (x0 : List Cond) (x1 : List Int) (Q : Bool → Prop) : Prop := Lp (σ := Int) (fun y3 R3 => let v0 := List.getD x0 (Int.toNat y3) dCond;cond (decide (y3 < ((List.length x0 : Nat) : Int))) (((0 : Int) ≤ y3 ∧ y3 < ((List.length x0 : Nat) : Int)) ∧ (ref03_Is.pre (v0,(x1,())) ∧ cond (!(ref03_Is.fn (v0,(x1,())))) (Q false) (fits IntKind.i64 (y3 + (1 : Int)) ∧ R3 (y3 + (1 : Int))))) (Q true)) (0 : Int)
def ref04_Is.wp (x0 : Int × (List (List Cond))) (x1 : List Int) (Q : Bool → Prop) : Prop := Lp (σ := Int) (fun y3 R3 => let v0 := List.getD x0.2 (Int.toNat y3) ([] : List (Cond));cond (decide (y3 < ((List.length x0.2 : Nat) : Int))) (((0 : Int) ≤ y3 ∧ y3 < ((List.length x0.2 : Nat) : Int)) ∧ (ref04_In.pre (v0,(x1,())) ∧ cond (ref04_In.fn (v0,(x1,()))) (Q true) (fits IntKind.i64 (y3 + (1 : Int)) ∧ R3 (y3 + (1 : Int))))) (Q false)) (0 : Int)
def ref01_Coord.wp (x0 : Int) (Q : Bool → Prop) : Prop := ((decide ((-(4294967296 : Int)) ≤ x0) = true → (decide ((-(4294967296 : Int)) ≤ x0) = true ∧ True)) ∧ ((decide ((-(4294967296 : Int)) ≤ x0) = true → decide ((-(4294967296 : Int)) ≤ x0) = true) ∧ Q (decide ((-(4294967296 : Int)) ≤ x0) && decide (x0 ≤ (4294967296 : Int)))))
def ref02_Point.wp (x0 : List Int) (Q : Bool → Prop) : Prop := Lp (σ := Int) (fun y2 R2 => cond (decide (y2 < ((List.length x0 : Nat) : Int))) (((0 : Int) ≤ y2 ∧ y2 < ((List.length x0 : Nat) : Int)) ∧ cond (!(ref01_Coord.fn ((List.getD x0 (Int.toNat y2) (0 : Int)),()))) (Q false) (fits IntKind.i64 (y2 + (1 : Int)) ∧ R2 (y2 + (1 : Int)))) (Q true)) (0 : Int)
def ref04_Has.wp (x0 : Int × (List (List Cond))) (x1 : List Int) (Q : Bool × Int → Prop) : Prop := cond (!(ref04_Valid.fn (x0,()))) (Q (false,(1 : Int))) (cond (((List.length x1 : Nat) : Int) != x0.1) (Q (false,(2 : Int))) (cond (!(ref02_Point.fn (x1,()))) (Q (false,(6 : Int))) (ref04_Is.pre (x0,(x1,())) ∧ Q ((ref04_Is.fn (x0,(x1,()))),(0 : Int)))))
def law04_Few.wp (x0 : Int) (x1 : Int) (x2 : List (Int × (List (List Cond)))) (Q : Bool → Prop) : Prop := Lp (σ := Int × Int) (fun y4 R4 => let v0 := List.getD x2 (Int.toNat y4.1) ((0 : Int),([] : List (List (Cond))));cond (decide (y4.1 < ((List.length x2 : Nat) : Int))) (((0 : Int) ≤ y4.1 ∧ y4.1 < ((List.length x2 : Nat) : Int)) ∧ Lp (σ := Int) (fun y6 R6 => cond (decide (y6 < ((List.length v0.2 : Nat) : Int))) (((0 : Int) ≤ y6 ∧ y6 < ((List.length v0.2 : Nat) : Int)) ∧ cond (decide (x1 < ((List.length (List.getD v0.2 (Int.toNat y6) ([] : List (Cond))) : Nat) : Int))) (Q false) (R6 (IntKind.wrap IntKind.i64 (y6 + (1 : Int))))) (R4 ((IntKind.wrap IntKind.i64 (y4.1 + (1 : Int))),(IntKind.wrap IntKind.i64 (y4.2 + ((List.length v0.2 : Nat) : Int)))))) (0 : Int)) (Q (decide (y4.2 ≤ x0)))) ((0 : Int),(0 : Int))
def law04_awake.wp  (Q : Bool → Prop) : Prop := let v0 := law04_at.fn ((1 : Int),((0 : Int),()));let v1 := law04_at.fn ((-(1 : Int)),((5 : Int),()));let v3 := law04_at.fn ((-(1 : Int)),((3 : Int),()));let v4 := set_Minus.fn (((1 : Int),[[v0,v1]]),(((1 : Int),[[(law04_at.fn ((1 : Int),((-(2 : Int)),()))),v3]]),()));let v8 := ref04_Same.fn (v4.1,(((1 : Int),([[v1,(law04_at.fn ((1 : Int),((-(4 : Int)),())))],[(law04_at.fn ((-(1 : Int)),((1 : Int),()))),v0]])),()));let v10 := set_Normal.fn (((1 : Int),[[(law04_at.fn ((1 : Int),((-(3 : Int)),()))),v3]]),());(((v4.2 == (0 : Int)) = true → ((v4.2 == (0 : Int)) = true ∧ ((v4.2 == (0 : Int)) = true ∧ True))) ∧ (((v4.2 == (0 : Int)) = true → ((v4.2 == (0 : Int)) = true ∧ ((v4.2 == (0 : Int)) = true ∧ True))) ∧ (((v4.2 == (0 : Int)) = true → ((v4.2 == (0 : Int)) = true ∧ ((v4.2 == (0 : Int)) = true ∧ True))) ∧ (((v4.2 == (0 : Int)) = true → ((v4.2 == (0 : Int)) = true ∧ True)) ∧ (((v4.2 == (0 : Int)) = true → ((v4.2 == (0 : Int)) = true ∧ ((v4.2 == (0 : Int)) = true ∧ True))) ∧ (((v4.2 == (0 : Int)) = true → (v4.2 == (0 : Int)) = true) ∧ ((((v4.2 == (0 : Int)) && v8) = true → (((v4.2 == (0 : Int)) && v8) = true ∧ True)) ∧ ((((v4.2 == (0 : Int)) && v8) = true → ((v4.2 == (0 : Int)) && v8) = true) ∧ (((((v4.2 == (0 : Int)) && v8) && (v10.2 == (0 : Int))) = true → ((((v4.2 == (0 : Int)) && v8) && (v10.2 == (0 : Int))) = true ∧ True)) ∧ (((((v4.2 == (0 : Int)) && v8) && (v10.2 == (0 : Int))) = true → ((((v4.2 == (0 : Int)) && v8) && (v10.2 == (0 : Int))) = true ∧ True)) ∧ (((((v4.2 == (0 : Int)) && v8) && (v10.2 == (0 : Int))) = true → ((((v4.2 == (0 : Int)) && v8) && (v10.2 == (0 : Int))) = true ∧ True)) ∧ (((((v4.2 == (0 : Int)) && v8) && (v10.2 == (0 : Int))) = true → ((((v4.2 == (0 : Int)) && v8) && (v10.2 == (0 : Int))) = true ∧ ((((v4.2 == (0 : Int)) && v8) && (v10.2 == (0 : Int))) = true ∧ True))) ∧ (((((v4.2 == (0 : Int)) && v8) && (v10.2 == (0 : Int))) = true → (((v4.2 == (0 : Int)) && v8) && (v10.2 == (0 : Int))) = true) ∧ Q ((((v4.2 == (0 : Int)) && v8) && (v10.2 == (0 : Int))) && (ref04_Same.fn (v10.1,(((1 : Int),[([((1 : Int),((0 : Int),([(1 : Int)],(-(3 : Int)))))])]),())))))))))))))))))
def law04_SetNormal.wp (x0 : Int × (List (List Cond))) (Q : Bool → Prop) : Prop := let v1 := ref04_Normal.fn (x0,());let v2 := law04_is.fn (((set_Normal.fn (x0,())).1),((set_Normal.fn (x0,())).2,(v1.1,(v1.2,()))));cond (!(law04_Few.fn ((20 : Int),((98 : Int),([x0],()))))) (Q (law04_awake.fn ())) ((v2 = true → v2 = true) ∧ Q (v2 && law04_awake.fn ()))
def law04_SetMinus.wp (x0 : Int × (List (List Cond))) (x1 : Int × (List (List Cond))) (Q : Bool → Prop) : Prop := let v1 := set_Minus.fn (x0,(x1,()));let v2 := ref04_Minus.fn (x0,(x1,()));let v3 := law04_is.fn (v1.1,(v1.2,(v2.1,(v2.2,()))));cond (!(law04_Few.fn ((8 : Int),((8 : Int),([x0,x1],()))))) (Q (law04_awake.fn ())) ((v3 = true → v3 = true) ∧ Q (v3 && law04_awake.fn ()))
def law04_SetSimple.wp (x0 : List Cond) (x1 : Int) (Q : Bool → Prop) : Prop := let v0 := set_Simple.fn (x0,(x1,()));let v1 := ref04_Simple.fn (x0,(x1,()));let v2 := ref04_SamePiece.fn (v0.1,(v1.1,()));cond (decide ((500 : Int) < ((List.length x0 : Nat) : Int))) (Q (law04_awake.fn ())) (((v0.2.1 == v1.2.1) = true → ((v0.2.1 == v1.2.1) = true ∧ ((v0.2.1 == v1.2.1) = true ∧ True))) ∧ (((v0.2.1 == v1.2.1) = true → (v0.2.1 == v1.2.1) = true) ∧ ((((v0.2.1 == v1.2.1) && (v0.2.2 == v1.2.2)) = true → (((v0.2.1 == v1.2.1) && (v0.2.2 == v1.2.2)) = true ∧ (((v0.2.1 == v1.2.1) && (v0.2.2 == v1.2.2)) = true ∧ True))) ∧ ((((v0.2.1 == v1.2.1) && (v0.2.2 == v1.2.2)) = true → ((v0.2.1 == v1.2.1) && (v0.2.2 == v1.2.2)) = true) ∧ (((((v0.2.1 == v1.2.1) && (v0.2.2 == v1.2.2)) && v2) = true → (((v0.2.1 == v1.2.1) && (v0.2.2 == v1.2.2)) && v2) = true) ∧ Q ((((v0.2.1 == v1.2.1) && (v0.2.2 == v1.2.2)) && v2) && law04_awake.fn ()))))))
def law04_SetJoins.wp (x0 : Int × (List (List Cond))) (x1 : Int × (List (List Cond))) (Q : Bool → Prop) : Prop := let v1 := set_Union.fn (x0,(x1,()));let v2 := ref04_Union.fn (x0,(x1,()));let v3 := law04_is.fn (v1.1,(v1.2,(v2.1,(v2.2,()))));let v4 := set_Meet.fn (x0,(x1,()));let v5 := ref04_Meet.fn (x0,(x1,()));let v6 := law04_is.fn (v4.1,(v4.2,(v5.1,(v5.2,()))));cond (!(law04_Few.fn ((30 : Int),((60 : Int),([x0,x1],()))))) (Q (law04_awake.fn ())) ((v3 = true → (v3 = true ∧ (v3 = true ∧ (v3 = true ∧ (v3 = true ∧ True))))) ∧ ((v3 = true → v3 = true) ∧ (((v3 && v6) = true → (v3 && v6) = true) ∧ Q ((v3 && v6) && law04_awake.fn ()))))
def law04_SetHas.wp (x0 : Int × (List (List Cond))) (x1 : List Int) (Q : Bool → Prop) : Prop := let v1 := set_Has.fn (x0,(x1,()));let v2 := ref04_Has.fn (x0,(x1,()));cond (!(law04_Few.fn ((402 : Int),((98 : Int),([x0],()))))) (Q (law04_awake.fn ())) (((v1.1 == v2.1) = true → ((v1.1 == v2.1) = true ∧ ((v1.1 == v2.1) = true ∧ True))) ∧ (((v1.1 == v2.1) = true → (v1.1 == v2.1) = true) ∧ ((((v1.1 == v2.1) && (v1.2 == v2.2)) = true → ((v1.1 == v2.1) && (v1.2 == v2.2)) = true) ∧ Q (((v1.1 == v2.1) && (v1.2 == v2.2)) && law04_awake.fn ()))))
def law04_SetApart.wp (x0 : Int × (List (List Cond))) (x1 : List Int) (Q : Bool → Prop) : Prop := let v1 := set_Has.fn (x0,(x1,()));let v2 := set_Minus.fn (((set_Whole.fn (x0.1,())).1),(x0,()));let v6 := set_Minus.fn (x0,(x0,()));let v8 := set_Minus.fn (((set_Whole.fn (x0.1,())).1),(v2.1,()));cond (!(law04_Few.fn ((6 : Int),((8 : Int),([x0],()))))) (Q (law04_awake.fn ())) (((!((set_Whole.fn (x0.1,())).2 != (0 : Int))) = true → ((!((set_Whole.fn (x0.1,())).2 != (0 : Int))) = true ∧ True)) ∧ ((((set_Whole.fn (x0.1,())).2 != (0 : Int)) = false → (!((set_Whole.fn (x0.1,())).2 != (0 : Int))) = true) ∧ (((!(((set_Whole.fn (x0.1,())).2 != (0 : Int)) || (v1.2 != (0 : Int)))) = true → ((!(((set_Whole.fn (x0.1,())).2 != (0 : Int)) || (v1.2 != (0 : Int)))) = true ∧ True)) ∧ (((((set_Whole.fn (x0.1,())).2 != (0 : Int)) || (v1.2 != (0 : Int))) = false → (!(((set_Whole.fn (x0.1,())).2 != (0 : Int)) || (v1.2 != (0 : Int)))) = true) ∧ cond ((((set_Whole.fn (x0.1,())).2 != (0 : Int)) || (v1.2 != (0 : Int))) || (v2.2 != (0 : Int))) (Q (law04_awake.fn ())) (ref04_Is.pre (v2.1,(x1,())) ∧ cond ((ref04_Is.fn (v2.1,(x1,()))) == v1.1) (Q false) (Lp (σ := Int × Int) (fun y3 R3 => let v4 := List.getD v2.1.2 (Int.toNat y3.1) ([] : List (Cond));cond (decide (y3.1 < ((List.length v2.1.2 : Nat) : Int))) (((0 : Int) ≤ y3.1 ∧ y3.1 < ((List.length v2.1.2 : Nat) : Int)) ∧ (ref04_In.pre (v4,(x1,())) ∧ cond (ref04_In.fn (v4,(x1,()))) (fits IntKind.i64 (y3.2 + (1 : Int)) ∧ (fits IntKind.i64 (y3.1 + (1 : Int)) ∧ R3 ((y3.1 + (1 : Int)),(y3.2 + (1 : Int))))) (fits IntKind.i64 (y3.1 + (1 : Int)) ∧ R3 ((y3.1 + (1 : Int)),y3.2)))) (((v6.2 == (0 : Int)) = true → ((v6.2 == (0 : Int)) = true ∧ ((v6.2 == (0 : Int)) = true ∧ ref04_Is.pre (v6.1,(x1,()))))) ∧ (((v6.2 == (0 : Int)) = true → (v6.2 == (0 : Int)) = true) ∧ cond ((v6.2 == (0 : Int)) && (ref04_Is.fn (v6.1,(x1,())))) (Q false) (cond (decide (((List.length v2.1.2 : Nat) : Int) ≤ (12 : Int))) (((v8.2 == (0 : Int)) = true → ((v8.2 == (0 : Int)) = true ∧ ((v8.2 == (0 : Int)) = true ∧ ref04_Is.pre (v8.1,(x1,()))))) ∧ (((v8.2 == (0 : Int)) = true → ((v8.2 == (0 : Int)) = true ∧ ((v8.2 == (0 : Int)) = true ∧ True))) ∧ (((v8.2 == (0 : Int)) = true → (v8.2 == (0 : Int)) = true) ∧ cond ((v8.2 == (0 : Int)) && ((ref04_Is.fn (v8.1,(x1,()))) != v1.1)) (Q false) (((decide ((0 : Int) < y3.2) == (!v1.1)) = true → (decide ((0 : Int) < y3.2) == (!v1.1)) = true) ∧ Q ((decide ((0 : Int) < y3.2) == (!v1.1)) && law04_awake.fn ()))))) (((decide ((0 : Int) < y3.2) == (!v1.1)) = true → (decide ((0 : Int) < y3.2) == (!v1.1)) = true) ∧ Q ((decide ((0 : Int) < y3.2) == (!v1.1)) && law04_awake.fn ())))))) ((0 : Int),(0 : Int))))))))
theorem ref03_truth.spec (b : Bool) : ref03_truth.wp b (fun r => r = ref03_truth.fn (b,())) := by cases b <;> rfl
theorem ref03_over.spec (l : Lin) (g k : Int) (hp : ref03_over.pre (l,g,k,())) : ref03_over.wp l g k (fun r => r = ref03_over.fn (l,g,k,())) := by
  obtain ⟨h1,h2,h3⟩ := hp
  simp only at h1 h2 h3
  simp only [ref03_over.wp,Int.toNat_natCast]
  refine ⟨⟨by omega,by omega,by omega,by omega⟩,?_⟩
  refine Lp.fill l.1 0 0 (·.tdiv g) (by omega) (fun i out R hi hi' hf ho hR => ?_) (fun R => ?_)
  · simp only [decide_eq_true hi',Int.toNat_natCast]
    have hn := h3 _ (getD_memL (d := 0) hi)
    exact ⟨⟨by omega,hi'⟩,⟨h1,tdiv_fits hn.1 hn.2⟩,⟨by omega,by omega⟩,by omega,hf,hR⟩
  · simp only [Int.lt_irrefl,decide_false,cond_false]
    rfl
theorem ref03_rank.spec (k : Int) : ref03_rank.wp k (fun r => r = ref03_rank.fn (k,())) := by
  simp only [ref03_rank.wp,ref03_rank.fn,rankK]
  by_cases h : k = 0
  · subst h;rfl
  · by_cases h2 : k = 1
    · subst h2;rfl
    · simp [h,h2]
theorem foldGcd_acc (l : List Int) : ∀ g : Nat,l.foldl (fun g n => Nat.gcd g n.natAbs) g = Nat.gcd g (gcdL l) := by
  induction l with
  | nil => intro g;simp [gcdL]
  | cons m l ih =>
    intro g
    simp only [List.foldl_cons,gcdL]
    rw [ih,ih (Nat.gcd 0 m.natAbs),Nat.gcd_zero_left,Nat.gcd_assoc]
theorem gcdL_cons (m : Int) (l : List Int) : gcdL (m :: l) = Nat.gcd m.natAbs (gcdL l) := by
  simp only [gcdL,List.foldl_cons]
  rw [foldGcd_acc,Nat.gcd_zero_left];rfl
theorem gcdL_snoc (m : Int) (l : List Int) : gcdL (l ++ [m]) = Nat.gcd (gcdL l) m.natAbs := by
  simp only [gcdL,List.foldl_append,List.foldl_cons,List.foldl_nil]
theorem gcdL_comm (m : Int) (l : List Int) : gcdL (l ++ [m]) = gcdL (m :: l) := by rw [gcdL_cons,gcdL_snoc,Nat.gcd_comm]
theorem ref03_Made.spec (c : Cond) (hp : ref03_Made.pre (c,())) : ref03_Made.wp c (fun r => r = ref03_Made.fn (c,())) := by
  obtain ⟨hk,hb⟩ : condB c := hp
  obtain ⟨h1,h2,h3⟩ := id hb
  unfold intB at h3
  have hgl : gcdL c.2.2.1 ≤ 9223372036854775807 := gcdL_le hb.ints
  have hfn : ref03_Made.fn (c,()) = rawF c := rfl
  simp only [ref03_Made.wp,ref01_Gcd.fn,num_Gcd.fn,ref03_truth.fn,hfn]
  refine ⟨hb.ints,?_⟩
  have hov : ∀ g k : Int,g ≠ 0 → ref03_over.pre (c.2.2,g,k,()) := fun g k hg => ⟨hg,h1,hb.ints⟩
  have hkf : ∀ g : Int,fits .i64 (c.2.2.2.tdiv g) := fun g => tdiv_fits (by omega) (by omega)
  rcases hk with hk | hk | ⟨hk,hm1,hm2⟩
  · have hr : rawF c = geF c := by simp [rawF,hk]
    simp only [hk,beq_self_eq_true,cond_true,hr]
    unfold geF
    by_cases hg : gcdL c.2.2.1 = 0
    · rw [if_pos hg,hg];rfl
    · rw [beq_eq_false_iff_ne.2 (show ((gcdL c.2.2.1 : Nat) : Int) ≠ 0 by omega),if_neg hg]
      have hf : ref01_Floor.fn (c.2.2.2,((gcdL c.2.2.1 : Nat) : Int),()) = (c.2.2.2 / ((gcdL c.2.2.1 : Nat) : Int),0) := by
        simp only [ref01_Floor.fn,num_Floor.fn]
        rw [if_neg (show ¬ ((gcdL c.2.2.1 : Nat) : Int) < 1 by omega)]
      rw [hf]
      exact ⟨⟨by show -9223372036854775807 ≤ c.2.2.2;omega,by show c.2.2.2 ≤ 9223372036854775807;omega⟩,hov _ _ (by omega),rfl⟩
  · have hr : rawF c = eqF c := by simp [rawF,hk]
    simp only [hk,show ((1 : Int) == 0) = false from rfl,beq_self_eq_true,cond_true,cond_false,hr]
    unfold eqF
    by_cases hz : gcdL c.2.2.1 = 0
    · rw [if_pos (.inl hz),hz]
      simp
    · have hzi : ((gcdL c.2.2.1 : Nat) : Int) ≠ 0 := by omega
      rw [beq_eq_false_iff_ne.2 hzi]
      refine ⟨hzi,?_⟩
      by_cases hm : c.2.2.2.tmod (gcdL c.2.2.1) ≠ 0
      · rw [bne_iff_ne.2 hm,if_pos (.inr hm)]
        simp [hz]
      · have hm' : c.2.2.2.tmod (gcdL c.2.2.1) = 0 := by simpa using hm
        rw [hm',bne_self_eq_false,cond_false,if_neg (by simp [hz])]
        refine Lp.iter c.2.2.1.length (fun i y => y = (i : Int) ∧ ∀ j,j < i → c.2.2.1.getD j 0 = 0) ⟨rfl,fun j hj => absurd hj (by omega)⟩ ?_
        rintro i y hle ⟨rfl,hi⟩ R hR
        by_cases e : i < c.2.2.1.length
        · rw [decide_eq_true (show (i : Int) < (c.2.2.1.length : Int) by omega)]
          refine ⟨⟨by omega,by omega⟩,?_⟩
          simp only [Int.toNat_natCast]
          by_cases hn : c.2.2.1.getD i 0 = 0
          · simp only [hn,bne_self_eq_false,cond_false]
            refine ⟨⟨by omega,by omega⟩,hR e _ ⟨by omega,fun j hj => ?_⟩⟩
            by_cases ej : j = i
            · subst ej;exact hn
            · exact hi j (by omega)
          · simp only [bne_iff_ne.2 hn,cond_true]
            have hfn : firstNeg c.2.2.1 = decide (c.2.2.1.getD i 0 < 0) := by
              rw [firstNeg_drop hi,List.drop_eq_getElem_cons e]
              rw [getD_eq e] at hn
              simp only [firstNeg,if_neg hn,getD_eq e]
            by_cases hneg : c.2.2.1.getD i 0 < 0
            · rw [decide_eq_true hneg] at hfn
              simp only [decide_eq_true hneg,cond_true]
              have hs : eqSign c = -((gcdL c.2.2.1 : Nat) : Int) := by simp [eqSign,hfn]
              rw [hs]
              exact ⟨⟨by omega,by omega⟩,⟨by omega,hkf _⟩,hov _ _ (by omega),rfl⟩
            · rw [decide_eq_false hneg] at hfn
              simp only [decide_eq_false hneg,cond_false]
              have hs : eqSign c = ((gcdL c.2.2.1 : Nat) : Int) := by simp [eqSign,hfn]
              rw [hs]
              exact ⟨⟨hzi,hkf _⟩,hov _ _ hzi,rfl⟩
        · have : i = c.2.2.1.length := by omega
          subst this
          simp only [Int.lt_irrefl,decide_false,cond_false]
          have hfn : firstNeg c.2.2.1 = false := by
            rw [firstNeg_drop hi,List.drop_length];rfl
          have hs : eqSign c = ((gcdL c.2.2.1 : Nat) : Int) := by simp [eqSign,hfn]
          rw [hs]
          exact ⟨⟨hzi,hkf _⟩,hov _ _ hzi,rfl⟩
  · have hr : rawF c = divF c := by simp [rawF,hk]
    simp only [hk,show ((2 : Int) == 0) = false from rfl,show ((2 : Int) == 1) = false from rfl,cond_false,hr,Int.toNat_natCast]
    refine ⟨⟨by omega,by omega,by omega,by omega⟩,?_⟩
    have hmod : ∀ n,ref01_Mod.fn (n,c.2.1,()) = (n % c.2.1,0) := fun n => by
      simp only [ref01_Mod.fn,num_Mod.fn];rw [if_neg (by omega)]
    have hmp : ∀ n,ref01_Mod.pre (n,c.2.1,()) := fun n => by show c.2.1 ≤ 9223372036854775807;omega
    have hr : ∀ n : Int,0 ≤ n % c.2.1 ∧ n % c.2.1 < c.2.1 := fun n => ⟨Int.emod_nonneg _ (by omega),Int.emod_lt_of_pos _ (by omega)⟩
    simp only [hmod]
    refine Lp.fill c.2.2.1 0 0 (· % c.2.1) (by omega) (fun i out R hi hi' hf ho hR => ?_) (fun R => ?_)
    · simp only [decide_eq_true hi',Int.toNat_natCast]
      exact ⟨⟨by omega,hi'⟩,hmp _,⟨by omega,by omega⟩,by omega,hf,hR⟩
    · simp only [Int.lt_irrefl,decide_false,cond_false,List.nil_append,gcdL_comm]
      have hdg : divG c = gcdL (c.2.1 :: c.2.2.1.map (· % c.2.1)) := rfl
      have hpos := gcdL_pos hm1 (c.2.2.1.map (· % c.2.1))
      have hle := gcdL_le_head hm1 (c.2.2.1.map (· % c.2.1))
      rw [← hdg] at hpos hle ⊢
      have hq := hr c.2.2.2
      refine ⟨hmp _,⟨by simp;omega,by simp;omega⟩,⟨by simp;omega,by simp;omega⟩,fun n hn => ?_,by omega,?_⟩
      · rcases List.mem_append.1 hn with hn | hn
        · obtain ⟨a,_,rfl⟩ := List.mem_map.1 hn
          have := hr a;omega
        · simp only [List.mem_singleton] at hn;omega
      · unfold divF
        by_cases ht : (c.2.2.2 % c.2.1).tmod (divG c) ≠ 0
        · rw [bne_iff_ne.2 ht,if_pos ht];rfl
        · rw [if_neg ht]
          have ht : (c.2.2.2 % c.2.1).tmod (divG c) = 0 := by simpa using ht
          rw [ht,bne_self_eq_false]
          by_cases he : c.2.1 = divG c
          · rw [if_pos he]
            simp only [beq_iff_eq.2 he,cond_true,cond_false]
          · rw [if_neg he,beq_eq_false_iff_ne.2 he]
            refine ⟨⟨by omega,tdiv_fits (by omega) (by omega)⟩,⟨by omega,tdiv_fits (by omega) (by omega)⟩,⟨by show ((divG c : Nat) : Int) ≠ 0;omega,by simpa using h1,fun n hn => ?_⟩,rfl⟩
            obtain ⟨a,_,rfl⟩ := List.mem_map.1 hn
            have := hr a
            constructor <;> omega
local macro "gh" : tactic => `(tactic| (intro h; first | exact ⟨h, trivial⟩ | exact ⟨h, h, trivial⟩ | exact h | exact ⟨h, h, by omega, by omega⟩))
theorem negC_len (C : List Int) : (negC C).length = C.length := by simp [negC]
theorem snoc_eq {α : Type} [DecidableEq α] {u v : List α} {x y : α} (h : u.length = v.length) : decide (u ++ [x] = v ++ [y]) = (decide (u = v) && decide (x = y)) := by
  by_cases h1 : u = v
  · subst h1
    by_cases h2 : x = y
    · subst h2;simp
    · simp [h2]
  · have : ¬ u ++ [x] = v ++ [y] := fun e => h1 (List.append_inj e h).1
    simp [this,h1]
theorem ref04_sides.spec (a b : Cond) (hp : ref04_sides.pre (a,b,())) : ref04_sides.wp a b (fun r => r = ref04_sides.fn (a,b,())) := by
  obtain ⟨hl,hm,hi⟩ := hp
  simp only at hl hm hi
  have hfn : ref04_sides.fn (a,b,()) = sidesF a b := rfl
  simp only [ref04_sides.wp,hfn]
  refine Lp.iter a.2.2.1.length (fun i y => y = ((i : Int),decide (a.2.2.1.take i = negC (b.2.2.1.take i)),decide (a.2.2.1.take i = b.2.2.1.take i))) (by simp [negC]) ?_
  rintro i y hle rfl R hR
  by_cases e : i < a.2.2.1.length
  · have hn := hi _ (getD_memL (d := 0) (show i < b.2.2.1.length by omega))
    have ha := take_succ_getD 0 e
    have hb := take_succ_getD 0 (show i < b.2.2.1.length by omega)
    simp only [decide_eq_true (show (i : Int) < (a.2.2.1.length : Int) by omega),Int.toNat_natCast,cond_true]
    refine ⟨by gh,by gh,by gh,by gh,by gh,by gh,by gh,by gh,by gh,by gh,by gh,by gh,by gh,by gh,by gh,by gh,by gh,by gh,fun h => ⟨h,by omega,by omega⟩,by gh,by gh,⟨by omega,by omega⟩,hR e _ ?_⟩
    have hnb : negC (b.2.2.1.take i ++ [b.2.2.1.getD i 0]) = negC (b.2.2.1.take i) ++ [-b.2.2.1.getD i 0] := by simp [negC]
    rw [ha,hb,hnb,snoc_eq (by rw [negC_len];simp;omega),snoc_eq (by simp;omega)]
    rfl
  · have : i = a.2.2.1.length := by omega
    subst this
    simp only [Int.lt_irrefl,decide_false,cond_false,List.take_length]
    rw [hl,List.take_length]
    unfold sidesF
    by_cases h1 : a.2.2.1 = b.2.2.1
    · rw [if_pos h1,decide_eq_true h1];rfl
    · rw [if_neg h1,decide_eq_false h1]
      by_cases h2 : a.2.2.1 = negC b.2.2.1
      · rw [if_pos h2,decide_eq_true h2];rfl
      · rw [if_neg h2,decide_eq_false h2];rfl
theorem ref02_Order.spec (a b : List Int) (hla : a.length ≤ 9223372036854775807) (hp : ref02_Order.pre (a,b,())) : ref02_Order.wp a b (fun r => r = ref02_Order.fn (a,b,())) := by
  have hl : a.length = b.length := hp
  have hfn : ref02_Order.fn (a,b,()) = lexL a b := rfl
  simp only [ref02_Order.wp,hfn]
  refine Lp.iter a.length (fun i y => y = (i : Int) ∧ lexL a b = lexL (a.drop i) (b.drop i)) ⟨rfl,rfl⟩ ?_
  rintro i y hle ⟨rfl,hd⟩ R hR
  by_cases e : i < a.length
  · have hb : i < b.length := by omega
    simp only [decide_eq_true (show (i : Int) < (a.length : Int) by omega),Int.toNat_natCast,cond_true]
    rw [List.drop_eq_getElem_cons e,List.drop_eq_getElem_cons hb] at hd
    simp only [lexL] at hd
    simp only [getD_eq e,getD_eq hb]
    refine ⟨⟨by omega,by omega⟩,⟨by omega,by omega⟩,?_⟩
    unfold cmpI at hd
    by_cases h1 : a[i] < b[i]
    · rw [if_pos h1,if_neg (by decide)] at hd
      rw [decide_eq_true h1]
      exact hd.symm
    · rw [if_neg h1] at hd
      rw [decide_eq_false h1]
      refine ⟨⟨by omega,by omega⟩,⟨by omega,by omega⟩,?_⟩
      by_cases h2 : b[i] < a[i]
      · rw [if_pos h2,if_neg (by decide)] at hd
        rw [decide_eq_true h2]
        exact hd.symm
      · rw [if_neg h2,if_pos rfl] at hd
        rw [decide_eq_false h2]
        exact ⟨⟨by omega,by omega⟩,hR e _ ⟨rfl,hd⟩⟩
  · have : i = a.length := by omega
    subst this
    simp only [Int.lt_irrefl,decide_false,cond_false]
    rw [List.drop_length,hl,List.drop_length] at hd
    exact hd.symm
theorem ref02_Cmp.spec (l m : Lin) (hp : ref02_Cmp.pre (l,m,())) : ref02_Cmp.wp l m (fun r => r = ref02_Cmp.fn (l,m,())) := by
  obtain ⟨h1,h2⟩ := hp
  simp only at h1 h2
  simp only [ref02_Cmp.wp,List.nil_append]
  refine ⟨⟨by simp;omega,by simp;omega⟩,⟨by simp;omega,by simp;omega⟩,⟨by simp;omega,by simp;omega⟩,⟨by simp;omega,by simp;omega⟩,?_,?_⟩
  rotate_left
  · trivial
  show (l.1 ++ [l.2]).length = (m.1 ++ [m.2]).length
  simp [h1]
theorem lexL_append : ∀ {a b : List Int} {x y : Int},a.length = b.length → lexL (a ++ [x]) (b ++ [y]) = if lexL a b = 0 then cmpI x y else lexL a b
  | [],[],x,y,_ => by
    simp only [List.nil_append,lexL]
    by_cases h : cmpI x y = 0
    · simp [h]
    · simp [h]
  | [],_ :: _,x,y,h => by simp at h
  | _ :: _,[],x,y,h => by simp at h
  | u :: a,v :: b,x,y,h => by
    simp only [List.cons_append,lexL]
    by_cases h1 : cmpI u v = 0
    · simp only [h1,if_true]
      exact lexL_append (by simpa using h)
    · simp only [if_neg h1]
theorem ref03_Cmp.spec (a b : Cond) (hp : ref03_Cmp.pre (a,b,())) : ref03_Cmp.wp a b (fun r => r = ref03_Cmp.fn (a,b,())) := by
  obtain ⟨h1,h2⟩ := hp
  simp only at h1 h2
  simp only [ref03_Cmp.wp,ref02_Order.fn,ref03_rank.fn,ref02_Cmp.fn,ref03_Cmp.fn]
  refine ⟨rfl,?_⟩
  have e : ordF a b = if lexL [rankK a.1,a.2.1] [rankK b.1,b.2.1] = 0 then lexL (a.2.2.1 ++ [a.2.2.2]) (b.2.2.1 ++ [b.2.2.2]) else lexL [rankK a.1,a.2.1] [rankK b.1,b.2.1] := by
    rw [ordF_eqn,lexL_append h1]
    have e2 : lexL [rankK a.1,a.2.1] [rankK b.1,b.2.1] = if cmpI (rankK a.1) (rankK b.1) = 0 then cmpI a.2.1 b.2.1 else cmpI (rankK a.1) (rankK b.1) := by
      have := lexL_append (a := [rankK a.1]) (b := [rankK b.1]) (x := a.2.1) (y := b.2.1) rfl
      simp only [List.singleton_append] at this
      rw [this]
      have e3 : lexL [rankK a.1] [rankK b.1] = cmpI (rankK a.1) (rankK b.1) := by
        simp only [lexL];split
        · rename_i h;exact h.symm
        · rfl
      rw [e3]
    rw [e2]
    split
    · split <;> rfl
    · rfl
  by_cases h3 : lexL [rankK a.1,a.2.1] [rankK b.1,b.2.1] = 0
  · rw [if_pos h3] at e
    simp only [h3,bne_self_eq_false,cond_false]
    exact ⟨⟨h1,h2⟩,e.symm⟩
  · rw [if_neg h3] at e
    simp only [bne_iff_ne.2 h3,cond_true]
    exact e.symm
theorem insU_at {c : Cond} : ∀ {l : List Cond} {j : Nat},(∀ i,i < j → ordF (l.getD i dCond) c < 0) → j ≤ l.length → insU c l = l.take j ++ insU c (l.drop j)
  | l,0,_,_ => by simp
  | [],j + 1,_,h => by simp at h
  | d :: l,j + 1,h,h2 => by
    have h0 := h 0 (by omega)
    simp at h0
    simp only [insU,if_pos h0,List.take_succ_cons,List.drop_succ_cons,List.cons_append]
    rw [insU_at (l := l) (j := j) (fun i hi => by have := h (i + 1) (by omega);simpa using this) (by simpa using h2)]
theorem insU_len (c : Cond) : ∀ l : List Cond,(insU c l).length ≤ l.length + 1
  | [] => by simp [insU]
  | d :: l => by
    have := insU_len c l
    simp only [insU]
    split
    · simp only [List.length_cons];omega
    · split
      · simp
      · simp
theorem sortU_take {l : List Cond} {i : Nat} (h : i < l.length) : sortU (l.take (i + 1)) = insU (l.getD i dCond) (sortU (l.take i)) := by
  rw [take_succ_getD dCond h,sortU,List.foldl_append];rfl
theorem sortU_len : ∀ (l : List Cond),(sortU l).length ≤ l.length := by
  have key : ∀ (l out : List Cond),(l.foldl (fun out c => insU c out) out).length ≤ out.length + l.length := by
    intro l
    induction l with
    | nil => intro out;simp
    | cons c l ih =>
      intro out
      have := ih (insU c out)
      have := insU_len c out
      simp only [List.foldl_cons,List.length_cons];omega
  intro l
  have := key l []
  simpa [sortU] using this
theorem sortU_sub (l : List Cond) : ∀ x ∈ sortU l,x ∈ l := by
  have key : ∀ (l out : List Cond),∀ x ∈ l.foldl (fun out c => insU c out) out,x ∈ l ∨ x ∈ out := by
    intro l
    induction l with
    | nil => intro out x hx;exact .inr hx
    | cons c l ih =>
      intro out x hx
      rcases ih _ x hx with h | h
      · exact .inl (by simp [h])
      · rcases insU_mem.1 h with rfl | h
        · exact .inl (by simp)
        · exact .inr h
  intro x hx
  exact (key l [] x hx).elim id (by simp)
theorem ref04_Sorted.spec (l : List Cond) (hp : ref04_Sorted.pre (l,())) : ref04_Sorted.wp l (fun r => r = ref04_Sorted.fn (l,())) := by
  obtain ⟨hl,n,hn,hd⟩ := hp
  simp only at hl hd
  have hfn : ref04_Sorted.fn (l,()) = sortU l := rfl
  simp only [ref04_Sorted.wp,hfn,ref03_Cmp.fn,ref03_Same.fn,List.nil_append]
  refine Lp.iter l.length (fun i y => y = ((i : Int),sortU (l.take i))) (by simp [sortU]) ?_
  rintro i y hle rfl R hR
  by_cases e : i < l.length
  · simp only [decide_eq_true (show (i : Int) < (l.length : Int) by omega),Int.toNat_natCast,cond_true]
    refine ⟨⟨by omega,by omega⟩,?_⟩
    have hst := sortU_take e
    have hol := sortU_len (l.take i)
    have hdc : (l.getD i dCond).2.2.1.length = n := hd _ (getD_memL e)
    have hds : ∀ j,j < (sortU (l.take i)).length → ((sortU (l.take i)).getD j dCond).2.2.1.length = n := fun j hj => hd _ (List.mem_of_mem_take (sortU_sub _ _ (getD_memL hj)))
    rw [List.length_take] at hol
    have hR' := hR e ((i : Int) + 1,insU (l.getD i dCond) (sortU (l.take i))) (by rw [hst];rfl)
    clear hR hst
    refine Lp.iter (sortU (l.take i)).length (fun j y => y = (j : Int) ∧ ∀ k,k < j → ordF ((sortU (l.take i)).getD k dCond) (l.getD i dCond) < 0) ⟨rfl,fun k hk => absurd hk (by omega)⟩ ?_
    rintro j y hjl ⟨rfl,hj⟩ R' hR2
    have hins := insU_at hj hjl
    simp only [Int.toNat_natCast]
    by_cases e2 : j < (sortU (l.take i)).length
    · have hds' := hds j e2
      simp only [decide_eq_true (show (j : Int) < ((sortU (l.take i)).length : Int) by omega),Bool.true_and]
      refine ⟨fun h => ⟨h,h,by omega,by omega⟩,fun h => ⟨h,trivial⟩,fun h => ⟨h,h,⟨hds'.trans hdc.symm,by show ((sortU (l.take i)).getD j dCond).2.2.1.length ≤ _;omega⟩⟩,fun h => ⟨h,trivial⟩,fun h => h,?_⟩
      rw [List.drop_eq_getElem_cons e2] at hins
      by_cases h1 : ordF ((sortU (l.take i)).getD j dCond) (l.getD i dCond) < 0
      · simp only [decide_eq_true h1,cond_true]
        refine ⟨⟨by omega,by omega⟩,hR2 e2 _ ⟨rfl,fun k hk => ?_⟩⟩
        by_cases ek : k = j
        · subst ek;exact h1
        · exact hj k (by omega)
      · simp only [decide_eq_false h1,cond_false]
        refine ⟨fun h => ⟨h,h,by omega,by omega⟩,fun h => ⟨h,trivial⟩,fun h => ⟨h,h,trivial⟩,fun h => h,?_⟩
        rw [getD_eq e2] at h1
        by_cases h2 : (sortU (l.take i)).getD j dCond = l.getD i dCond
        · rw [decide_eq_true h2]
          refine ⟨⟨by omega,by omega⟩,?_⟩
          rw [getD_eq e2] at h2
          simp only [insU,if_neg h1,if_pos h2] at hins
          rw [← List.drop_eq_getElem_cons e2,List.take_append_drop] at hins
          rw [hins] at hR'
          exact hR'
        · rw [decide_eq_false h2]
          rw [getD_eq e2] at h2
          simp only [insU,if_neg h1,if_neg h2] at hins
          rw [← List.drop_eq_getElem_cons e2] at hins
          refine ⟨⟨by omega,by omega⟩,⟨by simp;omega,by simp;omega⟩,⟨by simp;omega,by simp;omega⟩,⟨by omega,by omega⟩,⟨by simp;omega,by simp;omega⟩,⟨by omega,by omega⟩,?_⟩
          rw [hins] at hR'
          simpa using hR'
    · have : j = (sortU (l.take i)).length := by omega
      subst this
      simp only [Int.lt_irrefl,decide_false,Bool.false_and,cond_false]
      refine ⟨fun h => (by cases h),fun h => (by cases h),fun h => (by cases h),fun h => (by cases h),fun h => (by cases h),fun h => (by cases h),fun h => (by cases h),fun h => (by cases h),fun h => (by cases h),⟨by omega,by omega⟩,⟨by simp;omega,by simp;omega⟩,⟨by simp;omega,by simp;omega⟩,⟨by omega,by omega⟩,⟨by simp;omega,by simp;omega⟩,⟨by omega,by omega⟩,?_⟩
      rw [List.drop_length] at hins ⊢
      simp only [insU] at hins
      rw [hins] at hR'
      simpa using hR'
  · have : i = l.length := by omega
    subst this
    simp only [Int.lt_irrefl,decide_false,cond_false,List.take_length]
end Go.Proofs.YtldikbpclaeajaaGreatDoor
