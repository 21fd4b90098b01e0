/- Part of a proof that a law of the program holds for every input: what the functions answer, in plain Lean. No conditions. -/
import Derived.Below
import Derived.Carry
import Derived.ChangeOld
import Derived.LaidMore
import Derived.Lib.LaidTab
import Derived.OpenShut
import Derived.ProofKit
import Derived.ShutString
import Derived.SizedLaws
import Derived.Stop.Joined
import Derived.WalkKit
import Derived.Test.YtldikbpclaeajaaGreatDoorP13
namespace Go.Proofs.YtldikbpclaeajaaGreatDoor
open Go
set_option linter.unusedVariables false
theorem set_Where_1.spec (c : Cond) : set_Where_1.wp c (fun r => r = set_Where_1.fn (c,())) := rfl
theorem append_B {p q : List Cond} (hp : pieceB p) (hq : pieceB q) (h1 : p.length ≤ 96) (h2 : q.length ≤ 4096) : pieceB (p ++ q) := ⟨by rw [List.length_append];omega,fun c hc => (List.mem_append.1 hc).elim (hp.2 c) (hq.2 c)⟩
theorem getD_map {α β : Type} {l : List α} {f : α → β} {d : α} {e : β} {i : Nat} (h : i < l.length) : (l.map f).getD i e = f (l.getD i d) := by
  simp [List.getD_eq_getElem?_getD,h]
theorem set_Narrow.spec (s : PSet) (l : List Cond) (hp : set_Narrow.pre (s,l,())) : set_Narrow.wp s l (fun r => r = set_Narrow.fn (s,l,())) := by
  obtain ⟨hv,hB,hl4⟩ := hp
  simp only at hv hB hl4
  have hfn : set_Narrow.fn (s,l,()) = ofTid s.1 ((s.2.map (· ++ l)).foldlM tidStep []) := rfl
  have hcat : ∀ p : List Cond,slices_Concat_Sapi_Cond_api_Cond.fn ([p,l],()) = p ++ l := fun p => by simp [slices_Concat_Sapi_Cond_api_Cond.fn]
  simp only [set_Narrow.wp,hfn,hcat]
  have hlen := (setValid.b hv).2.2.1
  have hml : (s.2.map (· ++ l)).length = s.2.length := by simp
  have key := Lp.tid (s.2.map (· ++ l)) [] _ Known.nil (by simp) (by omega) (body := fun y3 R3 => let v0 := List.getD s.2 (Int.toNat y3.1) ([] : List (Cond));cond (decide (y3.1 < ((List.length s.2 : Nat) : Int))) (((0 : Int) ≤ y3.1 ∧ y3.1 < ((List.length s.2 : Nat) : Int)) ∧ (slices_Concat_Sapi_Cond_api_Cond.pre ([v0,l],()) ∧ (set_Tidy.pre (v0 ++ l,()) ∧ cond (((set_Tidy.fn (v0 ++ l,())).2).2 != (0 : Int)) (cond (((set_Tidy.fn (v0 ++ l,())).2).2 != (0 : Int)) ((((0 : Int),([] : List (List (Cond)))),((set_Tidy.fn (v0 ++ l,())).2).2) = ofTid s.1 ((s.2.map (· ++ l)).foldlM tidStep [])) (((s.1,([] : List (List (Cond)))),(0 : Int)) = ofTid s.1 ((s.2.map (· ++ l)).foldlM tidStep []))) (((!(((set_Tidy.fn (v0 ++ l,())).2).1)) = true → ((!(((set_Tidy.fn (v0 ++ l,())).2).1)) = true ∧ set_Name.pre ((set_Tidy.fn (v0 ++ l,())).1,()))) ∧ (((!(((set_Tidy.fn (v0 ++ l,())).2).1)) = true → ((!(((set_Tidy.fn (v0 ++ l,())).2).1)) = true ∧ ((!(((set_Tidy.fn (v0 ++ l,())).2).1)) = true ∧ True))) ∧ ((((set_Tidy.fn (v0 ++ l,())).2).1 = false → (!(((set_Tidy.fn (v0 ++ l,())).2).1)) = true) ∧ cond (((set_Tidy.fn (v0 ++ l,())).2).1 || (Option.getD (y3.2.2 (set_Name.fn ((set_Tidy.fn (v0 ++ l,())).1,()))) false)) (fits IntKind.i64 (y3.1 + (1 : Int)) ∧ R3 ((y3.1 + (1 : Int)),y3.2)) (set_Name.pre ((set_Tidy.fn (v0 ++ l,())).1,()) ∧ ((((List.length y3.2.1 + List.length [(set_Tidy.fn (v0 ++ l,())).1]) * 24) ≤ 140737488355328 ∧ (List.length y3.2.1 + List.length [(set_Tidy.fn (v0 ++ l,())).1]) ≤ 9223372036854775807) ∧ cond (decide ((400 : Int) < (((List.length (y3.2.1 ++ [(set_Tidy.fn (v0 ++ l,())).1])) : Nat) : Int))) ((((0 : Int),([] : List (List (Cond)))),(3 : Int)) = ofTid s.1 ((s.2.map (· ++ l)).foldlM tidStep [])) (fits IntKind.i64 (y3.1 + (1 : Int)) ∧ R3 ((y3.1 + (1 : Int)),((y3.2.1 ++ [(set_Tidy.fn (v0 ++ l,())).1]),mput y3.2.2 (set_Name.fn ((set_Tidy.fn (v0 ++ l,())).1,())) true))))))))))) (((s.1,y3.2.1),(0 : Int)) = ofTid s.1 ((s.2.map (· ++ l)).foldlM tidStep [])))
    (fun i out m R e e2 hf hk hl h1 h2 h3 => by
      rw [hml] at e e2
      rw [getD_map (d := []) e] at h1 h2 h3
      have hm := setValid.piece hv (getD_memL (d := []) e)
      simp only [decide_eq_true e2,Int.toNat_natCast,cond_true]
      refine ⟨⟨by omega,by omega⟩,⟨by simp,by simp only [List.flatten_cons,List.flatten_nil,List.append_nil,List.length_append];omega⟩,tid_body (append_B (setValid.B hv (getD_memL e)) hB hm.1 hl4) hk hl (fun h4 hn => ?_) (fun hs => ⟨hf,h1 hs⟩) (fun hn => ?_) (fun hs => ⟨hf,h2 hs⟩)⟩
      · simp only [set_Tidy.fn,h4,show ((3 : Int) != 0) = true from rfl,cond_true]
        rw [h3 hn];rfl
      · rw [h3 hn];rfl)
    (fun out m R ht hk hl => by
      simp only [hml,Int.lt_irrefl,decide_false,cond_false]
      rw [ht];rfl)
  exact key
theorem any_false {l : List Cond} {f : Cond → Bool} (h : l.any f = false) : ∀ c ∈ l,f c = false := fun c hc => by
  rw [List.any_eq_false] at h;simpa using h c hc
theorem set_Where.spec (s : PSet) (l : List Cond) (hp : set_Where.pre (s,l,())) : set_Where.wp s l (fun r => r = set_Where.fn (s,l,())) := by
  have hfn : set_Where.fn (s,l,()) = whereF s l := rfl
  simp only [set_Where.wp,set_Valid.fn,set_over.fn,hfn,slices_ContainsFunc_Sapi_Cond_api_Cond.fn,set_Where_1.fn,set_Narrow.fn]
  unfold whereF
  cases hv : setValid s with
  | false => simp
  | true =>
    simp only [Bool.not_true,Bool.not_false,Bool.false_or,true_and,forall_const]
    refine ⟨fun c hc => trivial,?_⟩
    cases ha : l.any (fun c => !condValid c) with
    | true => simp
    | false =>
      simp only [cond_false]
      cases ho : overF l s.1 with
      | false => simp
      | true =>
        simp only [Bool.not_true,cond_false]
        have hl : l.length ≤ 4096 := hp
        refine ⟨⟨hv,⟨by show l.length ≤ 1048576;omega,fun c hc => condValid.condB (by simpa using any_false ha c hc)⟩,hl⟩,?_⟩
        simp
theorem over_dims {l : List Cond} {n : Int} (h : overF l n = true) (hn : 0 ≤ n) : ∀ c ∈ l,condValid c = true ∧ c.2.2.1.length = n.toNat := fun c hc => by
  simp only [overF,List.all_eq_true,Bool.and_eq_true,beq_iff_eq] at h
  obtain ⟨h1,h2⟩ := h c hc
  exact ⟨h1,by omega⟩
theorem ref04_Where.spec (s : PSet) (l : List Cond) (hp : ref04_Where.pre (s,l,())) : ref04_Where.wp s l (fun r => r = ref04_Where.fn (s,l,())) := by
  have hl : l.length ≤ 4096 := hp
  have hfn : ref04_Where.fn (s,l,()) = whereF s l := rfl
  simp only [ref04_Where.wp,hfn,ref03_Valid.fn,ref04_Valid.fn,ref04_And.fn,ref04_Made.fn]
  refine Lp.iter l.length (fun i z => (∀ c ∈ l.take i,condValid c = true) ∧ z = ((i : Int),if (l.take i).all (fun c => ((c.2.2.1.length : Int) == s.1)) then 0 else 2)) ⟨by simp,by simp⟩ ?_
  rintro i z hle ⟨hval,rfl⟩ R hR
  by_cases e : i < l.length
  · simp only [decide_eq_true (show (i : Int) < (l.length : Int) by omega),Int.toNat_natCast,cond_true]
    refine ⟨⟨by omega,by omega⟩,?_⟩
    have ht := take_succ_getD dCond e
    cases hc : condValid (l.getD i dCond) with
    | false =>
      have ha : (l.any fun c => !condValid c) = true := List.any_eq_true.2 ⟨_,getD_memL e,by rw [hc];rfl⟩
      simp [whereF,ha]
    | true =>
      have hval' : ∀ c ∈ l.take (i + 1),condValid c = true := fun c hcm => by
        rw [ht] at hcm
        rcases List.mem_append.1 hcm with h | h
        · exact hval c h
        · simp only [List.mem_singleton] at h;subst h;exact hc
      simp only [Bool.not_true,cond_false]
      have e1 : ([l.getD i dCond].all fun c => ((c.2.2.1.length : Int) == s.1)) = (((l.getD i dCond).2.2.1.length : Int) == s.1) := by simp only [List.all_cons,List.all_nil,Bool.and_true]
      by_cases hd : ((l.getD i dCond).2.2.1.length : Int) = s.1
      · rw [show (((l.getD i dCond).2.2.1.length : Int) != s.1) = false by rw [hd];simp]
        simp only [cond_false]
        refine ⟨⟨by omega,by omega⟩,hR e _ ⟨hval',?_⟩⟩
        rw [ht,List.all_append,e1,beq_iff_eq.2 hd,Bool.and_true];rfl
      · rw [bne_iff_ne.2 hd]
        simp only [cond_true]
        refine ⟨⟨by omega,by omega⟩,hR e _ ⟨hval',?_⟩⟩
        rw [ht,List.all_append,e1,beq_eq_false_iff_ne.2 hd,Bool.and_false];rfl
  · have : i = l.length := by omega
    subst this
    rw [List.take_length] at hval
    have ha : (l.any fun c => !condValid c) = false := by rw [List.any_eq_false];intro c hc;simp [hval c hc]
    simp only [Int.lt_irrefl,decide_false,cond_false,List.take_length]
    cases hv : setValid s with
    | false => simp [whereF,hv]
    | true =>
      simp only [Bool.not_true,cond_false]
      have ho : overF l s.1 = l.all fun c => ((c.2.2.1.length : Int) == s.1) := by
        unfold overF
        rw [Bool.eq_iff_iff,List.all_eq_true,List.all_eq_true]
        constructor
        · intro h c hc;have := h c hc;rw [Bool.and_eq_true] at this;exact this.2
        · intro h c hc;rw [hval c hc,h c hc];rfl
      cases hall : l.all fun c => ((c.2.2.1.length : Int) == s.1) with
      | false => simp [whereF,hv,ha,ho,hall]
      | true =>
        simp only [if_true,bne_self_eq_false,cond_false]
        have hwf : whereF s l = ofTid s.1 (tidL (s.2.map (· ++ l))) := by simp [whereF,hv,ha,ho,hall,narrowF]
        have hlen := (setValid.b hv).2.2.1
        have hod := over_dims (ho.trans hall) (setValid.b hv).1
        refine Lp.iter s.2.length (fun j z => z = ((j : Int),(s.2.take j).map (· ++ l))) (by simp) ?_
        rintro j z hj rfl R2 hR2
        by_cases e2 : j < s.2.length
        · simp only [decide_eq_true (show (j : Int) < (s.2.length : Int) by omega),Int.toNat_natCast,cond_true]
          have hm := setValid.piece hv (getD_memL (d := []) e2)
          refine ⟨⟨by omega,by omega⟩,⟨by show (s.2.getD j []).length ≤ _;omega,by show l.length ≤ _;omega⟩,⟨by simp only [List.length_map,List.length_take,List.length_cons,List.length_nil];omega,by simp only [List.length_map,List.length_take,List.length_cons,List.length_nil];omega⟩,⟨by omega,by omega⟩,hR2 e2 _ ?_⟩
          rw [take_succ_getD [] e2,List.map_append];rfl
        · have : j = s.2.length := by omega
          subst this
          simp only [Int.lt_irrefl,decide_false,cond_false,List.take_length]
          refine ⟨⟨by simp only [List.length_map];omega,fun p hp2 => ?_⟩,by rw [hwf]⟩
          obtain ⟨q,hq,rfl⟩ := List.mem_map.1 hp2
          have hm := setValid.piece hv hq
          refine ⟨append_B (setValid.B hv hq) ⟨by omega,fun c hc => condValid.condB (hod c hc).1⟩ hm.1 hl,s.1.toNat,fun c hc => ?_⟩
          rcases List.mem_append.1 hc with h | h
          · exact (setValid.D hv hq).2 c h
          · exact (hod c h).2
theorem cutL_len {C : List Int} {i : Nat} (h : i < C.length) : (cutL C i).length = C.length - 1 := by unfold cutL;simp;omega
theorem cutL_mem {C : List Int} {i : Nat} {n : Int} (h : n ∈ cutL C i) : n ∈ C := by
  unfold cutL at h
  rcases List.mem_append.1 h with h | h
  · exact List.mem_of_mem_take h
  · exact List.mem_of_mem_drop h
theorem getD_in {C : List Int} {i : Nat} {P : Int → Prop} (h : ∀ n ∈ C,P n) (h0 : P 0) : P (C.getD i 0) := by
  by_cases e : i < C.length
  · exact h _ (getD_memL e)
  · rw [List.getD_eq_getElem?_getD,List.getElem?_eq_none (by omega)];exact h0
theorem mul_b {a v : Int} (ha : -1048576 ≤ a ∧ a ≤ 1048576) (hv : -4294967296 ≤ v ∧ v ≤ 4294967296) : -4503599627370496 ≤ v * a ∧ v * a ≤ 4503599627370496 := by
  have h1 : (v * a).natAbs ≤ 4294967296 * 1048576 := by rw [Int.natAbs_mul];exact Nat.mul_le_mul (by omega) (by omega)
  omega
theorem fixC_B {c : Cond} {i : Nat} {v : Int} (h : condValid c = true) (hv : -4294967296 ≤ v ∧ v ≤ 4294967296) : condB (fixC i v c) ∧ (-4503599628419072 ≤ c.2.2.2 + v * c.2.2.1.getD i 0 ∧ c.2.2.2 + v * c.2.2.1.getD i 0 ≤ 4503599628419072) := by
  have hl := linValid.b (condValid.lin h)
  have hk := condValid.kind h
  have hm := mul_b (a := c.2.2.1.getD i 0) (getD_in (P := fun n => -1048576 ≤ n ∧ n ≤ 1048576) hl.2.1 (by omega)) hv
  have hK : -4503599628419072 ≤ c.2.2.2 + v * c.2.2.1.getD i 0 ∧ c.2.2.2 + v * c.2.2.1.getD i 0 ≤ 4503599628419072 := by omega
  refine ⟨⟨?_,?_,fun n hn => ?_,?_⟩,hK⟩
  · rcases hk with ⟨h,_⟩ | ⟨h,_⟩ | ⟨h,h1,h2⟩
    · exact .inl h
    · exact .inr (.inl h)
    · exact .inr (.inr ⟨h,h1,by show c.2.1 ≤ _;omega⟩)
  · have : (cutL c.2.2.1 i).length ≤ c.2.2.1.length := by unfold cutL;simp;omega
    show (cutL c.2.2.1 i).length ≤ _;omega
  · have := hl.2.1 n (cutL_mem hn);unfold intB;omega
  · show intB (c.2.2.2 + v * c.2.2.1.getD i 0);unfold intB;omega
theorem fix_B {p : List Cond} {i : Nat} {v : Int} (h : p.length ≤ 96) (hv : ∀ c ∈ p,condValid c = true) (hb : -4294967296 ≤ v ∧ v ≤ 4294967296) : pieceB (p.map (fixC i v)) := ⟨by rw [List.length_map];omega,fun c hc => by
  obtain ⟨d,hd,rfl⟩ := List.mem_map.1 hc
  exact (fixC_B (hv d hd) hb).1⟩
theorem fix_dims {p : List Cond} {i n : Nat} {v : Int} (h : dims p n) (hi : i < n) : dims (p.map (fixC i v)) (n - 1) := fun c hc => by
  obtain ⟨d,hd,rfl⟩ := List.mem_map.1 hc
  show (cutL d.2.2.1 i).length = _
  rw [cutL_len (by rw [h d hd];exact hi),h d hd]
theorem fixF_err (s : PSet) (i v : Int) (hv : setValid s = true) (h : i < 0 ∨ s.1 ≤ i ∨ v < -4294967296 ∨ 4294967296 < v) : fixF s i v = ((0,[]),6) := by
  unfold fixF;rw [if_neg (by rw [hv];simp),if_pos h]
theorem fixF_ok (s : PSet) (i v : Int) (hv : setValid s = true) (h : ¬ (i < 0 ∨ s.1 ≤ i ∨ v < -4294967296 ∨ 4294967296 < v)) : fixF s i v = ofTid (s.1 - 1) (tidL (s.2.map fun p => p.map (fixC i.toNat v))) := by
  unfold fixF;rw [if_neg (by rw [hv];simp),if_neg h]
theorem set_Fix.spec (s : PSet) (i v : Int) : set_Fix.wp s i v (fun r => r = set_Fix.fn (s,i,v,())) := by
  have hfn : set_Fix.fn (s,i,v,()) = fixF s i v := rfl
  simp only [set_Fix.wp,set_Valid.fn,hfn]
  cases hv : setValid s with
  | false => simp [fixF,hv]
  | true =>
    simp only [Bool.not_true,cond_false]
    obtain ⟨hd0,hd1,hlen,_⟩ := setValid.b hv
    by_cases hbad : i < 0 ∨ s.1 ≤ i ∨ v < -4294967296 ∨ 4294967296 < v
    · rw [fixF_err s i v hv hbad]
      have hb : (((decide (i < (0 : Int)) || decide (s.1 ≤ i)) || decide (v < (-(4294967296 : Int)))) || decide ((4294967296 : Int) < v)) = true := by
        simp only [Bool.or_eq_true,decide_eq_true_iff];omega
      refine ⟨fun h => ⟨h,trivial⟩,fun h => ⟨h,h,trivial⟩,fun h => by rw [h];rfl,fun h => ⟨h,trivial⟩,fun h => by rw [h];rfl,fun h => ⟨h,trivial⟩,fun h => by rw [h];rfl,?_⟩
      rw [hb];simp
    · rw [fixF_ok s i v hv hbad]
      have hi0 : 0 ≤ i := by omega
      have hi1 : i < s.1 := by omega
      have hvb : -4294967296 ≤ v ∧ v ≤ 4294967296 := by omega
      have hb : (((decide (i < (0 : Int)) || decide (s.1 ≤ i)) || decide (v < (-(4294967296 : Int)))) || decide ((4294967296 : Int) < v)) = false := by
        simp only [Bool.or_eq_false_iff,decide_eq_false_iff_not];omega
      refine ⟨fun h => ⟨h,trivial⟩,fun h => ⟨h,h,trivial⟩,fun h => by rw [h];rfl,fun h => ⟨h,trivial⟩,fun h => by rw [h];rfl,fun h => ⟨h,trivial⟩,fun h => by rw [h];rfl,?_⟩
      rw [hb]
      simp only [cond_false]
      refine ⟨⟨by omega,by omega⟩,?_⟩
      obtain ⟨n,rfl⟩ : ∃ n : Nat,i = n := ⟨i.toNat,by omega⟩
      have en : ((n : Int) + 1).toNat = n + 1 := by omega
      simp only [Int.toNat_natCast,en]
      have hml : (s.2.map fun p => p.map (fixC n v)).length = s.2.length := by simp
      have htid : tidL (s.2.map fun p => p.map (fixC n v)) = (s.2.map fun p => p.map (fixC n v)).foldlM tidStep [] := rfl
      rw [htid]
      refine Lp.tid (s.2.map fun p => p.map (fixC n v)) [] _ Known.nil (by simp) (by omega) ?_ ?_
      · intro k out m R e e2 hf hk hl h1 h2 h3
        rw [hml] at e e2
        rw [getD_map (d := []) e] at h1 h2 h3
        have hm := setValid.piece hv (getD_memL (d := []) e)
        have hdim := (setValid.D hv (getD_memL (d := []) e)).2
        simp only [decide_eq_true e2,Int.toNat_natCast,cond_true]
        refine ⟨⟨by omega,by omega⟩,?_⟩
        refine Lp.iter (s.2.getD k []).length (fun j z => z = ((j : Int),((s.2.getD k []).take j).map (fixC n v))) (by simp) ?_
        rintro j z hj rfl R2 hR2
        by_cases e3 : j < (s.2.getD k []).length
        · simp only [decide_eq_true (show (j : Int) < ((s.2.getD k []).length : Int) by omega),Int.toNat_natCast,cond_true]
          have hcm := getD_memL (d := dCond) e3
          have hcv := hm.2 _ hcm
          have hcl := hdim _ hcm
          obtain ⟨hB1,hB2⟩ := fixC_B (i := n) hcv hvb
          have hlb := linValid.b (condValid.lin hcv)
          have hmb := mul_b (a := ((s.2.getD k []).getD j dCond).2.2.1.getD n 0) (getD_in (P := fun n => -1048576 ≤ n ∧ n ≤ 1048576) hlb.2.1 (by omega)) hvb
          refine ⟨⟨by omega,by omega⟩,by omega,⟨by omega,by omega⟩,⟨fun h => by rw [h] at hcl;simp at hcl;omega,by omega,by omega,by omega⟩,⟨by omega,by omega⟩,⟨by omega,by omega⟩,⟨by omega,by omega⟩,⟨by simp only [List.length_map,List.length_take,List.length_cons,List.length_nil];omega,by simp only [List.length_map,List.length_take,List.length_cons,List.length_nil];omega⟩,⟨by omega,by omega⟩,hR2 e3 _ ?_⟩
          rw [take_succ_getD dCond e3,List.map_append];rfl
        · have : j = (s.2.getD k []).length := by omega
          subst this
          simp only [Int.lt_irrefl,decide_false,cond_false,List.take_length]
          refine tid_body (fix_B hm.1 hm.2 hvb) hk hl (fun h4 hn => ?_) (fun hs => ⟨hf,h1 hs⟩) (fun hn => ?_) (fun hs => ⟨hf,h2 hs⟩)
          · simp only [set_Tidy.fn,h4,show ((3 : Int) != 0) = true from rfl,cond_true]
            rw [h3 hn];rfl
          · rw [h3 hn];rfl
      · intro out m R ht hk hl
        simp only [hml,Int.lt_irrefl,decide_false,cond_false]
        rw [ht];rfl
theorem take_eraseStep {C : List Int} {i k : Nat} (h : k < C.length) : cutL (C.take (k + 1)) i = if k = i then cutL (C.take k) i else cutL (C.take k) i ++ [C.getD k 0] := by
  unfold cutL
  rw [take_succ_getD 0 h]
  have hl : (C.take k).length = k := by simp;omega
  by_cases e : k = i
  · rw [if_pos e];subst e
    rw [List.take_append_of_le_length (by omega),List.drop_of_length_le (by simp;omega),List.drop_of_length_le (by omega)]
  · rw [if_neg e]
    by_cases hk : k < i
    · have t1 : (List.take k C ++ [C.getD k 0]).take i = List.take k C ++ [C.getD k 0] := List.take_of_length_le (by simp only [List.length_append,List.length_cons,List.length_nil];omega)
      have t2 : (List.take k C ++ [C.getD k 0]).drop (i + 1) = [] := List.drop_of_length_le (by simp only [List.length_append,List.length_cons,List.length_nil];omega)
      have t3 : (List.take k C).take i = List.take k C := List.take_of_length_le (by omega)
      have t4 : (List.take k C).drop (i + 1) = [] := List.drop_of_length_le (by omega)
      rw [t1,t2,t3,t4,List.append_nil,List.append_nil]
    · rw [List.take_append_of_le_length (by omega),List.drop_append_of_le_length (by omega),List.append_assoc]
theorem ref02_Without.spec (l : Lin) (i : Int) (hp : ref02_Without.pre (l,i,())) : ref02_Without.wp l i (fun r => r = ref02_Without.fn (l,i,())) := by
  obtain ⟨hl,h0,h1⟩ := hp
  simp only at hl h0 h1
  obtain ⟨n,rfl⟩ : ∃ n : Nat,i = n := ⟨i.toNat,by omega⟩
  simp only [ref02_Without.wp,ref02_Without.fn,Int.toNat_natCast]
  refine Lp.iter l.1.length (fun k z => z = ((k : Int),l.2,cutL (l.1.take k) n)) (by simp [cutL]) ?_
  rintro k z hk rfl R hR
  by_cases e : k < l.1.length
  · simp only [decide_eq_true (show (k : Int) < (l.1.length : Int) by omega),Int.toNat_natCast,cond_true]
    refine ⟨⟨by omega,by omega⟩,?_⟩
    have hst := take_eraseStep (i := n) e
    have hcl : (cutL (l.1.take k) n).length ≤ k := by unfold cutL;simp;omega
    by_cases hkn : k = n
    · rw [show (((k : Nat) : Int) != (n : Int)) = false by simp [hkn]]
      rw [if_pos hkn] at hst
      exact ⟨⟨by omega,by omega⟩,hR e _ (by rw [hst];rfl)⟩
    · rw [show (((k : Nat) : Int) != (n : Int)) = true by simp;omega]
      rw [if_neg hkn] at hst
      exact ⟨⟨by simp only [List.length_cons,List.length_nil];omega,by simp only [List.length_cons,List.length_nil];omega⟩,⟨by omega,by omega⟩,hR e _ (by rw [hst];rfl)⟩
  · have : k = l.1.length := by omega
    subst this
    simp only [Int.lt_irrefl,decide_false,cond_false,List.take_length]
theorem ref04_Fix.spec (s : PSet) (i v : Int) : ref04_Fix.wp s i v (fun r => r = ref04_Fix.fn (s,i,v,())) := by
  have hfn : ref04_Fix.fn (s,i,v,()) = fixF s i v := rfl
  simp only [ref04_Fix.wp,ref04_Valid.fn,hfn,ref01_Coord.fn,ref02_Without.fn,ref04_Made.fn]
  cases hv : setValid s with
  | false => simp [fixF,hv]
  | true =>
    simp only [Bool.not_true,cond_false]
    obtain ⟨hd0,hd1,hlen,_⟩ := setValid.b hv
    have hco : Coord v = (decide (-4294967296 ≤ v) && decide (v ≤ 4294967296)) := rfl
    by_cases hbad : i < 0 ∨ s.1 ≤ i ∨ v < -4294967296 ∨ 4294967296 < v
    · rw [fixF_err s i v hv hbad]
      have hb : ((decide (i < (0 : Int)) || decide (s.1 ≤ i)) || (!Coord v)) = true := by
        rw [hco]
        simp only [Bool.or_eq_true,decide_eq_true_iff,Bool.not_eq_true',Bool.and_eq_false_iff,decide_eq_false_iff_not];omega
      refine ⟨fun h => ⟨h,trivial⟩,fun h => ⟨h,h,trivial⟩,fun h => by rw [h];rfl,fun h => ⟨h,trivial⟩,fun h => ⟨h,trivial⟩,fun h => by rw [h];rfl,?_⟩
      rw [hb];simp
    · rw [fixF_ok s i v hv hbad]
      have hi0 : 0 ≤ i := by omega
      have hi1 : i < s.1 := by omega
      have hvb : -4294967296 ≤ v ∧ v ≤ 4294967296 := by omega
      have hb : ((decide (i < (0 : Int)) || decide (s.1 ≤ i)) || (!Coord v)) = false := by
        rw [hco]
        simp only [Bool.or_eq_false_iff,decide_eq_false_iff_not,Bool.not_eq_false',Bool.and_eq_true,decide_eq_true_iff];omega
      refine ⟨fun h => ⟨h,trivial⟩,fun h => ⟨h,h,trivial⟩,fun h => by rw [h];rfl,fun h => ⟨h,trivial⟩,fun h => ⟨h,trivial⟩,fun h => by rw [h];rfl,?_⟩
      rw [hb]
      simp only [cond_false]
      obtain ⟨n,rfl⟩ : ∃ n : Nat,i = n := ⟨i.toNat,by omega⟩
      simp only [Int.toNat_natCast]
      refine Lp.iter s.2.length (fun k z => z = ((k : Int),(s.2.take k).map fun p => p.map (fixC n v))) (by simp) ?_
      rintro k z hk rfl R hR
      by_cases e : k < s.2.length
      · simp only [decide_eq_true (show (k : Int) < (s.2.length : Int) by omega),Int.toNat_natCast,cond_true]
        refine ⟨⟨by omega,by omega⟩,?_⟩
        have hm := setValid.piece hv (getD_memL (d := []) e)
        have hdim := (setValid.D hv (getD_memL (d := []) e)).2
        have hts := take_succ_getD ([] : List Cond) e
        refine Lp.iter (s.2.getD k []).length (fun j z => z = ((j : Int),((s.2.getD k []).take j).map (fixC n v))) (by simp) ?_
        rintro j z hj rfl R2 hR2
        by_cases e3 : j < (s.2.getD k []).length
        · simp only [decide_eq_true (show (j : Int) < ((s.2.getD k []).length : Int) by omega),Int.toNat_natCast,cond_true]
          have hcm := getD_memL (d := dCond) e3
          have hcv := hm.2 _ hcm
          have hcl := hdim _ hcm
          obtain ⟨hB1,hB2⟩ := fixC_B (i := n) hcv hvb
          have hlb := linValid.b (condValid.lin hcv)
          have hmb := mul_b (a := ((s.2.getD k []).getD j dCond).2.2.1.getD n 0) (getD_in (P := fun n => -1048576 ≤ n ∧ n ≤ 1048576) hlb.2.1 (by omega)) hvb
          have hts2 := take_succ_getD dCond e3
          rw [Int.mul_comm] at hmb hB2
          refine ⟨⟨by omega,by omega⟩,⟨by show ((s.2.getD k []).getD j dCond).2.2.1.length ≤ _;omega,by show (0 : Int) ≤ (n : Int);omega,by show (n : Int) < ((((s.2.getD k []).getD j dCond).2.2.1.length : Nat) : Int);omega⟩,⟨by omega,by omega⟩,⟨by omega,by omega⟩,⟨by omega,by omega⟩,⟨by simp only [List.length_map,List.length_take,List.length_cons,List.length_nil];omega,by simp only [List.length_map,List.length_take,List.length_cons,List.length_nil];omega⟩,⟨by omega,by omega⟩,hR2 e3 _ ?_⟩
          rw [hts2,List.map_append]
          simp only [List.map_cons,List.map_nil,fixC,Int.mul_comm v]
          rfl
        · have : j = (s.2.getD k []).length := by omega
          subst this
          simp only [Int.lt_irrefl,decide_false,cond_false,List.take_length]
          refine ⟨⟨by simp only [List.length_map,List.length_take,List.length_cons,List.length_nil];omega,by simp only [List.length_map,List.length_take,List.length_cons,List.length_nil];omega⟩,⟨by omega,by omega⟩,hR e _ ?_⟩
          rw [hts,List.map_append];rfl
      · have : k = s.2.length := by omega
        subst this
        simp only [Int.lt_irrefl,decide_false,cond_false,List.take_length]
        refine ⟨⟨by omega,by omega⟩,⟨by simp only [List.length_map];omega,fun p hp2 => ?_⟩,trivial⟩
        obtain ⟨q,hq,rfl⟩ := List.mem_map.1 hp2
        have hm := setValid.piece hv hq
        exact ⟨fix_B hm.1 hm.2 hvb,s.1.toNat - 1,fix_dims (setValid.D hv hq).2 (by omega)⟩
theorem law04_SetWhere.spec (s : PSet) (l : List Cond) (i v : Int) : law04_SetWhere.wp s l i v (fun r => r = true) := by
  unfold law04_SetWhere.wp
  have e1 : law04_is.fn (((set_Where.fn (s,(l,()))).1),((set_Where.fn (s,(l,()))).2,(((ref04_Where.fn (s,(l,()))).1),((ref04_Where.fn (s,(l,()))).2,())))) = true := is_refl (whereF s l)
  have e2 : law04_is.fn (((set_Fix.fn (s,(i,(v,())))).1),((set_Fix.fn (s,(i,(v,())))).2,(((ref04_Fix.fn (s,(i,(v,())))).1),((ref04_Fix.fn (s,(i,(v,())))).2,())))) = true := is_refl (fixF s i v)
  simp only [e1,e2,law04_awake.fn]
  cases law04_Few.fn ((20 : Int),((60 : Int),([s],()))) with
  | false => simp
  | true =>
    by_cases h : (60 : Int) < (l.length : Int)
    · simp [h]
    · have hw : set_Where.pre (s,(l,())) := by show l.length ≤ 4096;omega
      have hw2 : ref04_Where.pre (s,(l,())) := by show l.length ≤ 4096;omega
      simp [h,hw,hw2]
def atC (c : Cond) (x : List Int) : Int := c.2.2.2 + dotL c.2.2.1 x
theorem isF_eq (c : Cond) (x : List Int) : isF c x = trueAt c (atC c x) := rfl
theorem dotL_neg : ∀ (C x : List Int),dotL (negC C) x = -dotL C x
  | [],x => by simp [negC,dotL]
  | n :: C,[] => by simp [negC,dotL]
  | n :: C,y :: x => by
    have := dotL_neg C x
    simp only [negC] at this
    simp only [negC,List.map_cons,dotL,this,Int.neg_mul];omega
theorem dotL_map_neg (C x : List Int) : dotL (C.map fun n => -n) x = -dotL C x := dotL_neg C x
theorem dotL_mul (g : Int) : ∀ (C D x : List Int),C.length = D.length → (∀ i,i < C.length → C.getD i 0 = g * D.getD i 0) → dotL C x = g * dotL D x
  | [],[],x,_,_ => by simp [dotL]
  | [],_ :: _,_,h,_ => by simp at h
  | _ :: _,[],_,h,_ => by simp at h
  | n :: C,m :: D,[],_,_ => by simp [dotL]
  | n :: C,m :: D,y :: x,h,hi => by
    have h0 := hi 0 (by simp)
    simp only [List.getD_cons_zero] at h0
    have ih := dotL_mul g C D x (by simpa using h) (fun i hi' => by have := hi (i + 1) (by simpa using hi');simpa using this)
    simp only [dotL,h0,ih,Int.mul_add,Int.mul_assoc]
theorem dotL_tdiv {g : Int} {C : List Int} (h : ∀ n ∈ C,g ∣ n) (x : List Int) : dotL C x = g * dotL (C.map (·.tdiv g)) x := by
  refine dotL_mul g C _ x (by simp) fun i hi => ?_
  have hm : C.getD i 0 ∈ C := getD_memL hi
  have e : (C.map (·.tdiv g)).getD i 0 = (C.getD i 0).tdiv g := by simp [List.getD_eq_getElem?_getD,hi]
  rw [e,Int.mul_tdiv_cancel' (h _ hm)]
theorem dotL_zero {C : List Int} (h : ∀ n ∈ C,n = 0) (x : List Int) : dotL C x = 0 := by
  have := dotL_tdiv (g := 0) (C := C) (fun n hn => by rw [h n hn];exact Int.dvd_refl _) x
  simpa using this
theorem dotL_mod (m : Int) : ∀ (C x : List Int),m ∣ dotL C x - dotL (C.map (· % m)) x
  | [],x => by simp [dotL]
  | n :: C,[] => by simp [dotL]
  | n :: C,y :: x => by
    obtain ⟨k,hk⟩ := dotL_mod m C x
    refine ⟨n / m * y + k,?_⟩
    have h1 := Int.mul_ediv_add_emod n m
    simp only [List.map_cons,dotL]
    have e : n * y = m * (n / m) * y + n % m * y := by rw [← Int.add_mul,h1]
    rw [e,Int.mul_add,← Int.mul_assoc]
    omega
theorem gcdL_dvd_mem {l : List Int} {n : Int} (h : n ∈ l) : (gcdL l : Int) ∣ n := Int.ofNat_dvd_left.2 ((gcdL_dvd (l := l) (g := 0)).2 n h)
theorem tmod_zero {v m : Int} : (v.tmod m == 0) = decide (m ∣ v) := by
  rw [Bool.eq_iff_iff];simp [Int.dvd_iff_tmod_eq_zero]
theorem geF_sem (c : Cond) (x : List Int) (h0 : c.1 = 0) : ((geF c).2 = 0 → isF (geF c).1 x = isF c x) ∧ (0 < (geF c).2 → isF c x = true) ∧ ((geF c).2 < 0 → isF c x = false) := by
  have ht : isF c x = decide (0 ≤ atC c x) := by unfold isF trueAt;rw [if_pos h0];rfl
  rw [ht]
  unfold geF
  split
  · rename_i hg
    have hz : dotL c.2.2.1 x = 0 := dotL_zero (gcdL_zero hg) x
    have : atC c x = c.2.2.2 := by simp [atC,hz]
    rw [this]
    unfold sureF
    by_cases hk : 0 ≤ c.2.2.2 <;> simp [hk]
  · rename_i hg
    refine ⟨fun _ => ?_,fun h => absurd h (by simp),fun h => absurd h (by simp)⟩
    have hd := dotL_tdiv (g := (gcdL c.2.2.1 : Int)) (C := c.2.2.1) (fun n hn => gcdL_dvd_mem hn) x
    have hpos : (0 : Int) < (gcdL c.2.2.1 : Int) := by omega
    simp only [isF,trueAt,if_true,atC,hd]
    rw [Bool.eq_iff_iff,decide_eq_true_iff,decide_eq_true_iff]
    generalize dotL (c.2.2.1.map (·.tdiv (gcdL c.2.2.1 : Int))) x = d
    generalize (gcdL c.2.2.1 : Int) = g at hpos
    generalize c.2.2.2 = k
    have h1 : -d ≤ k / g ↔ -d * g ≤ k := Int.le_ediv_iff_mul_le hpos
    rw [Int.neg_mul,Int.mul_comm] at h1
    constructor
    · intro h;have := h1.1 (by omega);omega
    · intro h;have := h1.2 (by omega);omega
theorem eqF_sem (c : Cond) (x : List Int) (h1 : c.1 = 1) : ((eqF c).2 = 0 → isF (eqF c).1 x = isF c x) ∧ (0 < (eqF c).2 → isF c x = true) ∧ ((eqF c).2 < 0 → isF c x = false) := by
  have ht : isF c x = (atC c x == 0) := by simp [isF,trueAt,h1,atC]
  rw [ht]
  unfold eqF
  split
  · rename_i hg
    by_cases hz : gcdL c.2.2.1 = 0
    · have hd : dotL c.2.2.1 x = 0 := dotL_zero (gcdL_zero hz) x
      have : atC c x = c.2.2.2 := by simp [atC,hd]
      rw [this]
      unfold sureF
      by_cases hk : c.2.2.2 = 0 <;> simp [hk,hz]
    · have hm : c.2.2.2.tmod (gcdL c.2.2.1) ≠ 0 := hg.resolve_left hz
      have hne : atC c x ≠ 0 := fun e => hm (by
        have hd := dotL_tdiv (g := (gcdL c.2.2.1 : Int)) (C := c.2.2.1) (fun n hn => gcdL_dvd_mem hn) x
        unfold atC at e
        rw [← Int.dvd_iff_tmod_eq_zero]
        exact ⟨-dotL (c.2.2.1.map (·.tdiv (gcdL c.2.2.1 : Int))) x,by rw [Int.mul_neg,← hd];omega⟩)
      unfold sureF
      simp [hz,hne]
  · rename_i hg
    simp only [not_or,ne_eq,Classical.not_not] at hg
    obtain ⟨hz,hm⟩ := hg
    refine ⟨fun _ => ?_,fun h => absurd h (by simp),fun h => absurd h (by simp)⟩
    have hs : eqSign c = (gcdL c.2.2.1 : Int) ∨ eqSign c = -(gcdL c.2.2.1 : Int) := by unfold eqSign;split <;> simp
    have hdv : ∀ n : Int,(gcdL c.2.2.1 : Int) ∣ n → eqSign c ∣ n := fun n hn => by
      rcases hs with e | e <;> rw [e]
      · exact hn
      · exact Int.neg_dvd.2 hn
    have hne : eqSign c ≠ 0 := by rcases hs with e | e <;> rw [e] <;> omega
    have hd := dotL_tdiv (g := eqSign c) (C := c.2.2.1) (fun n hn => hdv n (gcdL_dvd_mem hn)) x
    have hk : eqSign c * c.2.2.2.tdiv (eqSign c) = c.2.2.2 := Int.mul_tdiv_cancel' (hdv _ (Int.dvd_iff_tmod_eq_zero.2 hm))
    simp only [isF,trueAt,show ¬ ((1 : Int) = 0) by omega,if_false,if_true,atC,hd]
    rw [Bool.eq_iff_iff,beq_iff_eq,beq_iff_eq]
    rw [show c.2.2.2 + eqSign c * dotL (c.2.2.1.map (·.tdiv (eqSign c))) x = eqSign c * (c.2.2.2.tdiv (eqSign c) + dotL (c.2.2.1.map (·.tdiv (eqSign c))) x) by rw [Int.mul_add,hk]]
    constructor
    · intro h;rw [h,Int.mul_zero]
    · intro h;exact (Int.mul_eq_zero.1 h).resolve_left hne
theorem divF_sem (c : Cond) (x : List Int) (h2 : c.1 = 2) (hm : 1 ≤ c.2.1) : ((divF c).2 = 0 → isF (divF c).1 x = isF c x) ∧ (0 < (divF c).2 → isF c x = true) ∧ ((divF c).2 < 0 → isF c x = false) := by
  have ht : isF c x = decide (c.2.1 ∣ atC c x) := by
    simp only [isF,trueAt,h2,atC,show ¬ ((2 : Int) = 0) by omega,show ¬ ((2 : Int) = 1) by omega,if_false]
    exact tmod_zero
  have hmod : c.2.1 ∣ atC c x ↔ c.2.1 ∣ c.2.2.2 % c.2.1 + dotL (c.2.2.1.map (· % c.2.1)) x := by
    obtain ⟨k,hk⟩ := dotL_mod c.2.1 c.2.2.1 x
    have e := Int.mul_ediv_add_emod c.2.2.2 c.2.1
    have : atC c x = (c.2.2.2 % c.2.1 + dotL (c.2.2.1.map (· % c.2.1)) x) + c.2.1 * (c.2.2.2 / c.2.1 + k) := by
      unfold atC;rw [Int.mul_add];omega
    rw [this]
    exact Int.dvd_add_left (Int.dvd_mul_right _ _)
  have hgm : (divG c : Int) ∣ c.2.1 := gcdL_dvd_mem (l := c.2.1 :: c.2.2.1.map (· % c.2.1)) (by simp)
  have hgc : ∀ n ∈ c.2.2.1.map (· % c.2.1),(divG c : Int) ∣ n := fun n hn => gcdL_dvd_mem (l := c.2.1 :: c.2.2.1.map (· % c.2.1)) (by simp only [List.mem_cons];exact .inr hn)
  have hg0 : 0 < divG c := gcdL_pos hm _
  have hd := dotL_tdiv (g := (divG c : Int)) (C := c.2.2.1.map (· % c.2.1)) hgc x
  rw [ht]
  unfold divF
  split
  · rename_i hk
    have hn : ¬ c.2.1 ∣ atC c x := fun h => hk (by
      have h3 := Int.dvd_trans hgm (hmod.1 h)
      rw [← Int.dvd_iff_tmod_eq_zero]
      exact (Int.dvd_add_left (by rw [hd];exact Int.dvd_mul_right _ _)).1 h3)
    simp [sureF,hn]
  · rename_i hk
    simp only [ne_eq,Classical.not_not] at hk
    have hk' := Int.dvd_iff_tmod_eq_zero.2 hk
    split
    · rename_i he
      have hn : c.2.1 ∣ atC c x := hmod.2 (by
        have hd' : c.2.1 ∣ dotL (c.2.2.1.map (· % c.2.1)) x := by rw [hd,← he];exact Int.dvd_mul_right _ _
        exact Int.dvd_add (by have := hk';rwa [← he] at this) hd')
      simp [sureF,hn]
    · refine ⟨fun _ => ?_,fun h => absurd h (by simp),fun h => absurd h (by simp)⟩
      simp only [isF,trueAt,show ¬ ((2 : Int) = 0) by omega,show ¬ ((2 : Int) = 1) by omega,if_false]
      rw [tmod_zero,Bool.eq_iff_iff,decide_eq_true_iff,decide_eq_true_iff,hmod,hd]
      have e1 : (divG c : Int) * c.2.1.tdiv (divG c) = c.2.1 := Int.mul_tdiv_cancel' hgm
      have e2 : (divG c : Int) * (c.2.2.2 % c.2.1).tdiv (divG c) = c.2.2.2 % c.2.1 := Int.mul_tdiv_cancel' hk'
      have hne : (divG c : Int) ≠ 0 := by omega
      generalize dotL ((c.2.2.1.map (· % c.2.1)).map (·.tdiv (divG c : Int))) x = d
      rw [← Int.mul_dvd_mul_iff_left hne,Int.mul_add,e1,e2]
theorem rawF_sem {c : Cond} (hb : kindB c) (x : List Int) : ((rawF c).2 = 0 → isF (rawF c).1 x = isF c x) ∧ (0 < (rawF c).2 → isF c x = true) ∧ ((rawF c).2 < 0 → isF c x = false) := by
  unfold rawF
  rcases hb with h | h | ⟨h,h2,_⟩
  · rw [if_pos h];exact geF_sem c x h
  · rw [if_neg (by omega),if_pos h];exact eqF_sem c x h
  · rw [if_neg (by omega),if_neg (by omega)];exact divF_sem c x h h2
def inP (p : List Cond) (x : List Int) : Bool := p.all fun c => isF c x
theorem inP_iff {p : List Cond} {x : List Int} : inP p x = true ↔ ∀ c ∈ p,isF c x = true := by simp [inP]
theorem inP_append (p q : List Cond) (x : List Int) : inP (p ++ q) x = (inP p x && inP q x) := by simp [inP]
theorem rawVoid_in {p : List Cond} (hb : pieceB p) (x : List Int) (h : rawVoid p = true) : inP p x = false := by
  simp only [rawVoid,List.any_map,List.any_eq_true,Function.comp_apply,decide_eq_true_iff] at h
  obtain ⟨c,hc,h⟩ := h
  have := (rawF_sem (hb.2 c hc).1 x).2.2 h
  simp only [inP,List.all_eq_false]
  exact ⟨c,hc,by rw [this];simp⟩
theorem rawL_in {p : List Cond} (hb : pieceB p) (x : List Int) (h : rawVoid p = false) : inP (rawL p) x = inP p x := by
  rw [Bool.eq_iff_iff,inP_iff,inP_iff]
  have hn : ∀ c ∈ p,¬ (rawF c).2 < 0 := fun c hc hlt => by
    have : rawVoid p = true := by
      simp only [rawVoid,List.any_map,List.any_eq_true,Function.comp_apply,decide_eq_true_iff]
      exact ⟨c,hc,hlt⟩
    rw [h] at this;cases this
  constructor
  · intro ha c hc
    have hs := rawF_sem (hb.2 c hc).1 x
    rcases Int.lt_trichotomy (rawF c).2 0 with h0 | h0 | h0
    · exact absurd h0 (hn c hc)
    · rw [← hs.1 h0]
      refine ha _ ?_
      simp only [rawL,List.mem_map,List.mem_filter]
      exact ⟨rawF c,⟨⟨c,hc,rfl⟩,by simpa using h0⟩,rfl⟩
    · exact hs.2.1 h0
  · intro ha c hc
    simp only [rawL,List.mem_map,List.mem_filter] at hc
    obtain ⟨r,⟨⟨d,hd,rfl⟩,hr⟩,rfl⟩ := hc
    rw [(rawF_sem (hb.2 d hd).1 x).1 (by simpa using hr)]
    exact ha d hd
def allP (L : Cond → Prop) (x : List Int) : Prop := ∀ c,L c → isF c x = true
theorem isF_ge {c : Cond} (h : c.1 = 0) (x : List Int) : isF c x = true ↔ 0 ≤ atC c x := by
  unfold isF trueAt;rw [if_pos h,decide_eq_true_iff];rfl
theorem isF_eq0 {c : Cond} (h : c.1 = 1) (x : List Int) : isF c x = true ↔ atC c x = 0 := by
  unfold isF trueAt;rw [if_neg (by omega),if_pos h,beq_iff_eq];rfl
theorem exists_min (f : Cond → Int) : ∀ {l : List Cond},l ≠ [] → ∃ c ∈ l,∀ d ∈ l,f c ≤ f d
  | [],h => absurd rfl h
  | [c],_ => ⟨c,by simp,fun d hd => by simp only [List.mem_singleton] at hd;subst hd;exact Int.le_refl _⟩
  | c :: d :: l,_ => by
    obtain ⟨e,he,hm⟩ := exists_min f (l := d :: l) (by simp)
    by_cases h : f c ≤ f e
    · refine ⟨c,by simp,fun y hy => ?_⟩
      rcases List.mem_cons.1 hy with rfl | hy
      · exact Int.le_refl _
      · exact Int.le_trans h (hm y hy)
    · refine ⟨e,List.mem_cons_of_mem _ he,fun y hy => ?_⟩
      rcases List.mem_cons.1 hy with rfl | hy
      · omega
      · exact hm y hy
theorem Lm_in {l : List Cond} {x : List Int} : allP (Lm l) x ↔ ∀ c ∈ l,isF c x = true := by
  refine ⟨fun h d hd => ?_,fun h c hc => h c hc.1⟩
  by_cases h0 : d.1 = 0
  · obtain ⟨c,hc,hm⟩ := exists_min (fun c => c.2.2.2) (l := l.filter fun c => decide (c.1 = 0 ∧ c.2.2.1 = d.2.2.1)) (List.ne_nil_of_mem (List.mem_filter.2 ⟨hd,by simp [h0]⟩))
    obtain ⟨hcl,hcp⟩ := List.mem_filter.1 hc
    simp only [decide_eq_true_iff] at hcp
    have hL : Lm l c := ⟨hcl,fun _ e he h1 h2 => hm e (List.mem_filter.2 ⟨he,by simp [h1,h2,hcp.2]⟩)⟩
    have h1 := (isF_ge hcp.1 x).1 (h c hL)
    have h2 := hm d (List.mem_filter.2 ⟨hd,by simp [h0]⟩)
    rw [isF_ge h0]
    unfold atC at h1 ⊢
    rw [hcp.2] at h1
    omega
  · exact h d ⟨hd,fun e => absurd e h0⟩
theorem toEq_in {n : Nat} {c : Cond} (h : Mk n c) (h0 : c.1 = 0) (x : List Int) : isF (toEq c) x = true ↔ atC c x = 0 := by
  have hs := (rawF_sem (c := (1,0,c.2.2)) (.inr (.inl rfl)) x).1 (by
    have hg := h.gcd h0
    simp [rawF,eqF,hg,Int.tmod_one])
  rw [show toEq c = (rawF (1,0,c.2.2)).1 from rfl,hs,isF_eq0 rfl]
  rfl
theorem neg_in {c d : Cond} (h : d.2.2.1 = negC c.2.2.1) (x : List Int) : atC d x = d.2.2.2 + c.2.2.2 - atC c x := by
  unfold atC;rw [h,dotL_neg];omega
theorem MM_in {n : Nat} {L : Cond → Prop} (hm : ∀ c,L c → Mk n c) {x : List Int} : allP (MM L) x ↔ allP L x := by
  constructor
  · intro h c hc
    by_cases hO : c.1 = 0 ∧ Opp L c
    · have := (toEq_in (hm c hc) hO.1 x).1 (h _ (.inr ⟨c,hc,hO.1,hO.2,rfl⟩))
      rw [isF_ge hO.1];omega
    · exact h c (.inl ⟨hc,fun h0 ho => hO ⟨h0,ho⟩⟩)
  · rintro h c (⟨hc,_⟩ | ⟨d,hd,h0,⟨e,he,h1,h2,h3⟩,rfl⟩)
    · exact h c hc
    · rw [toEq_in (hm d hd) h0]
      have a1 := (isF_ge h0 x).1 (h d hd)
      have a2 := (isF_ge h1 x).1 (h e he)
      rw [neg_in h2] at a2
      omega
theorem Void1_in {L : Cond → Prop} {x : List Int} (h : Void1 L) : ¬ allP L x := fun ha => by
  obtain ⟨c,d,hc,hd,h0,h1,h2,h3⟩ := h
  have a1 := (isF_ge h0 x).1 (ha c hc)
  have a2 := (isF_ge h1 x).1 (ha d hd)
  rw [neg_in h2] at a2
  omega
theorem same_in {c d : Cond} (h : d.2.2.1 = c.2.2.1) (x : List Int) : atC d x = d.2.2.2 - c.2.2.2 + atC c x := by
  unfold atC;rw [h];omega
theorem Void2_in {M : Cond → Prop} {x : List Int} (h : Void2 M) : ¬ allP M x := fun ha => by
  rcases h with ⟨e,f,he,hf,h1,h2,h3,h4⟩ | ⟨c,e,hc,he,h0,h1,⟨h2,h3⟩ | ⟨h2,h3⟩⟩
  · have a1 := (isF_eq0 h1 x).1 (ha e he)
    have a2 := (isF_eq0 h2 x).1 (ha f hf)
    rw [same_in h3] at a1
    omega
  · have a1 := (isF_ge h0 x).1 (ha c hc)
    have a2 := (isF_eq0 h1 x).1 (ha e he)
    rw [same_in h2] at a2
    omega
  · have a1 := (isF_ge h0 x).1 (ha c hc)
    have a2 := (isF_eq0 h1 x).1 (ha e he)
    rw [neg_in h2] at a2
    omega
theorem Fin2_in {M : Cond → Prop} {x : List Int} (hv : ¬ Void2 M) : allP (Fin2 M) x ↔ allP M x := by
  refine ⟨fun h c hc => ?_,fun h c hc => h c hc.1⟩
  by_cases hf : Fin2 M c
  · exact h c hf
  · have h0 : c.1 = 0 := Classical.byContradiction fun h0 => hf ⟨hc,fun e => absurd e h0⟩
    have : ∃ e,M e ∧ e.1 = 1 ∧ (e.2.2.1 = c.2.2.1 ∨ e.2.2.1 = negC c.2.2.1) := Classical.byContradiction fun hn => hf ⟨hc,fun _ e he h1 => ⟨fun h2 => hn ⟨e,he,h1,.inl h2⟩,fun h2 => hn ⟨e,he,h1,.inr h2⟩⟩⟩
    obtain ⟨e,he,h1,h2⟩ := this
    have a2 := (isF_eq0 h1 x).1 (h e ⟨he,fun e0 => by omega⟩)
    rw [isF_ge h0]
    rcases h2 with h2 | h2
    · have : ¬ c.2.2.2 < e.2.2.2 := fun h3 => hv (.inr ⟨c,e,hc,he,h0,h1,.inl ⟨h2,h3⟩⟩)
      rw [same_in h2] at a2
      omega
    · have : ¬ c.2.2.2 + e.2.2.2 < 0 := fun h3 => hv (.inr ⟨c,e,hc,he,h0,h1,.inr ⟨h2,h3⟩⟩)
      rw [neg_in h2] at a2
      omega
theorem tidy_list {p : List Cond} {n : Nat} (hb : pieceB p) (hd : dims p n) (hv : rawVoid p = false) (h1 : ¬ Void1 (Lm (rawL p))) (h2 : ¬ Void2 (MM (Lm (rawL p)))) : ∃ m : List Cond,∀ x,x ∈ m ↔ Fin2 (MM (Lm (rawL p))) x := by
  have hl := rawL_Mk hb hd
  have e : (fun x => x ∈ leastF (rawL p)) = Lm (rawL p) := funext fun x => propext (leastF_mem hl x)
  have hL : ∀ c ∈ leastF (rawL p),Mk n c := leastF_P (fun d c hd _ => minK_Mk hd) hl
  have hu : Uniq (leastF (rawL p)) := fun c hc d hd h0 h1 h => Lm.uniq hl ((leastF_mem hl c).1 hc) ((leastF_mem hl d).1 hd) h0 h1 h
  obtain ⟨hp1,hp2⟩ := pairF_sem hL hu
  rw [e] at hp1 hp2
  rcases opt_cases (pairF (leastF (rawL p))) with h3 | ⟨M,h3⟩
  · exact absurd (hp1 h3) h1
  · obtain ⟨hnv,hM⟩ := hp2 M h3
    have eM : (fun x => x ∈ M) = MM (Lm (rawL p)) := funext fun x => propext (hM x)
    have hMk : ∀ c ∈ M,Mk n c := pairF_P (fun c h0 hc => (toEq_mk hc h0).1) hL h3
    obtain ⟨hs1,hs2⟩ := settleF_sem hMk
    rw [eM] at hs1 hs2
    rcases opt_cases (settleF M) with h4 | ⟨out,h4⟩
    · exact absurd (hs1 h4) h2
    · exact ⟨out,(hs2 out h4).2⟩
theorem tidyF_in {p : List Cond} {n : Nat} (hb : pieceB p) (hd : dims p n) (x : List Int) (h3 : (tidyF p).2.2 = 0) : ((tidyF p).2.1 = true → inP p x = false) ∧ ((tidyF p).2.1 = false → inP (tidyF p).1 x = inP p x) := by
  by_cases hv : rawVoid p = true
  · have e : tidyF p = ([],true,0) := by have := tidyF_eq p;rw [hv] at this;simpa using this
    rw [e]
    exact ⟨fun _ => rawVoid_in hb x hv,fun h => by cases h⟩
  · have hv : rawVoid p = false := by simpa using hv
    obtain ⟨s1,s2⟩ := tidyF_sem hb hd hv
    have hl := rawL_Mk hb hd
    have hLm : ∀ c,Lm (rawL p) c → Mk n c := fun c hc => hl c hc.1
    have base : allP (MM (Lm (rawL p))) x ↔ inP p x = true := by rw [MM_in hLm,Lm_in,← inP_iff,rawL_in hb x hv]
    by_cases hw : Void1 (Lm (rawL p)) ∨ Void2 (MM (Lm (rawL p)))
    · rw [s1 hw]
      refine ⟨fun _ => ?_,fun h => (by cases h)⟩
      rw [← Bool.not_eq_true,← base]
      rcases hw with h | h
      · rw [MM_in hLm];exact Void1_in h
      · exact Void2_in h
    · have hw1 : ¬ Void1 (Lm (rawL p)) := fun h => hw (.inl h)
      have hw2 : ¬ Void2 (MM (Lm (rawL p))) := fun h => hw (.inr h)
      obtain ⟨m,hm⟩ := tidy_list hb hd hv hw1 hw2
      have hk3 : K3 m := fun c hc => (by
        rcases ((hm c).1 hc).1 with ⟨h,_⟩ | ⟨d,h,h0,_,rfl⟩
        · exact (hLm c h).2.1
        · exact (toEq_mk (hLm d h) h0).1.2.1)
      rw [s2 hw1 hw2 m hm] at h3 ⊢
      split at h3
      · cases h3
      · rename_i hc
        rw [if_neg hc]
        refine ⟨fun h => (by cases h),fun _ => ?_⟩
        rw [Bool.eq_iff_iff,← base,← Fin2_in hw2,inP_iff]
        constructor
        · intro h c hc;exact h c ((sortU_mem hk3 c).2 ((hm c).2 hc))
        · intro h c hc;exact h c ((hm c).1 ((sortU_mem hk3 c).1 hc))
def inS (l : List (List Cond)) (x : List Int) : Bool := l.any fun p => inP p x
theorem inS_iff {l : List (List Cond)} {x : List Int} : inS l x = true ↔ ∃ p ∈ l,inP p x = true := by simp [inS]
theorem inS_append (a b : List (List Cond)) (x : List Int) : inS (a ++ b) x = (inS a x || inS b x) := by simp [inS]
theorem ref04_Is.fn_eq (s : PSet) (x : List Int) : ref04_Is.fn (s,x,()) = inS s.2 x := rfl
theorem tidStep_in {out out' : List (List Cond)} {p : List Cond} {n : Nat} (hb : pieceB p) (hd : dims p n) (x : List Int) (h : tidStep out p = some out') : inS out' x = (inS out x || inP p x) := by
  unfold tidStep at h
  split at h
  · cases h
  · rename_i h3
    have h3 : (tidyF p).2.2 = 0 := by simpa using h3
    obtain ⟨t1,t2⟩ := tidyF_in hb hd x h3
    split at h
    · rename_i h4
      cases h
      by_cases hv : (tidyF p).2.1 = true
      · rw [t1 hv,Bool.or_false]
      · have hv : (tidyF p).2.1 = false := by simpa using hv
        have hm := h4.resolve_left (by rw [hv];simp)
        rw [← t2 hv]
        cases hq : inP (tidyF p).1 x with
        | false => rw [Bool.or_false]
        | true => rw [Bool.or_true];exact inS_iff.2 ⟨_,hm,hq⟩
    · rename_i h4
      split at h
      · cases h
      · cases h
        have hv : (tidyF p).2.1 = false := by
          cases hv : (tidyF p).2.1 with
          | false => rfl
          | true => exact absurd (.inl hv) h4
        rw [inS_append,← t2 hv];simp [inS]
theorem tidM_in {n : Nat} (x : List Int) : ∀ {l out out' : List (List Cond)},(∀ p ∈ l,pieceB p ∧ dims p n) → l.foldlM tidStep out = some out' → inS out' x = (inS out x || inS l x)
  | [],out,out',_,h => by cases h;simp [inS]
  | p :: l,out,out',hl,h => by
    rw [List.foldlM_cons] at h
    obtain ⟨o1,h1,h2⟩ := Option.bind_eq_some_iff.1 h
    obtain ⟨hb,hd⟩ := hl p (by simp)
    rw [tidM_in x (fun q hq => hl q (List.mem_cons_of_mem _ hq)) h2,tidStep_in hb hd x h1,Bool.or_assoc]
    congr 1
theorem tidL_in {n : Nat} (x : List Int) {l out : List (List Cond)} (hl : ∀ p ∈ l,pieceB p ∧ dims p n) (h : tidL l = some out) : inS out x = inS l x := by
  rw [tidM_in x hl h];simp [inS]
theorem ofTid_some {n : Int} {o : Option (List (List Cond))} (h : (ofTid n o).2 = 0) : ∃ out,o = some out ∧ (ofTid n o).1 = (n,out) := by
  cases o with
  | none => simp [ofTid] at h
  | some out => exact ⟨out,rfl,rfl⟩
theorem normF_in {s : PSet} (x : List Int) (h : (normF s).2 = 0) : inS (normF s).1.2 x = inS s.2 x ∧ (normF s).1.1 = s.1 ∧ setValid s = true := by
  unfold normF at h ⊢
  split at h
  · simp at h
  · rename_i hv
    have hv : setValid s = true := by simpa using hv
    rw [if_neg (by rw [hv];simp)]
    obtain ⟨out,h1,h2⟩ := ofTid_some h
    rw [h2]
    exact ⟨tidL_in x (fun p hp => setValid.D hv hp) h1,rfl,hv⟩
theorem bothErr_ok {a b : PSet} (h : bothErr a b = 0) : setValid a = true ∧ setValid b = true ∧ a.1 = b.1 := by
  unfold bothErr at h
  split at h
  · rename_i hv
    rw [Bool.and_eq_true] at hv
    split at h
    · rename_i he;exact ⟨hv.1,hv.2,he⟩
    · cases h
  · cases h
theorem unionF_in {a b : PSet} (x : List Int) (h : (unionF a b).2 = 0) : inS (unionF a b).1.2 x = (inS a.2 x || inS b.2 x) ∧ (unionF a b).1.1 = a.1 := by
  unfold unionF at h ⊢
  split at h
  · rename_i h0;exact absurd h h0
  · rename_i h0
    obtain ⟨ha,hb,he⟩ := bothErr_ok (by simpa using h0)
    rw [if_neg h0]
    obtain ⟨out,h1,h2⟩ := ofTid_some h
    rw [h2]
    refine ⟨?_,rfl⟩
    rw [tidL_in (n := a.1.toNat) x (fun p hp => ?_) h1,inS_append]
    rcases List.mem_append.1 hp with hp | hp
    · exact setValid.D ha hp
    · rw [he];exact setValid.D hb hp
theorem meets_in (a b : List (List Cond)) (x : List Int) : inS (meets a b) x = (inS a x && inS b x) := by
  rw [Bool.eq_iff_iff,Bool.and_eq_true,inS_iff,inS_iff,inS_iff]
  constructor
  · rintro ⟨p,hp,hx⟩
    simp only [meets,List.mem_flatMap,List.mem_map] at hp
    obtain ⟨q,hq,r,hr,rfl⟩ := hp
    rw [inP_append,Bool.and_eq_true] at hx
    exact ⟨⟨q,hq,hx.1⟩,r,hr,hx.2⟩
  · rintro ⟨⟨q,hq,h1⟩,r,hr,h2⟩
    refine ⟨q ++ r,?_,by rw [inP_append,h1,h2];rfl⟩
    simp only [meets,List.mem_flatMap,List.mem_map]
    exact ⟨q,hq,r,hr,rfl⟩
theorem meetF_in {a b : PSet} (x : List Int) (h : (meetF a b).2 = 0) : inS (meetF a b).1.2 x = (inS a.2 x && inS b.2 x) ∧ (meetF a b).1.1 = a.1 := by
  unfold meetF at h ⊢
  split at h
  · rename_i h0;exact absurd h h0
  · rename_i h0
    obtain ⟨ha,hb,he⟩ := bothErr_ok (by simpa using h0)
    rw [if_neg h0]
    obtain ⟨out,h1,h2⟩ := ofTid_some h
    rw [h2]
    refine ⟨?_,rfl⟩
    rw [tidL_in (n := a.1.toNat) x (fun p hp => ?_) h1,meets_in]
    simp only [meets,List.mem_flatMap,List.mem_map] at hp
    obtain ⟨q,hq,r,hr,rfl⟩ := hp
    have hD := append_D (n := a.1.toNat) (setValid.piece ha hq) (setValid.piece hb hr) (setValid.D ha hq).2 (by rw [he];exact (setValid.D hb hr).2)
    refine ⟨hD.1,fun c hc => ?_⟩
    rcases List.mem_append.1 hc with hc | hc
    · exact (setValid.D ha hq).2 c hc
    · rw [he];exact (setValid.D hb hr).2 c hc
theorem othersF_in {c : Cond} (hv : condValid c = true) (x : List Int) : (∃ o ∈ othersF c,isF o x = true) ↔ isF c x = false := by
  unfold othersF
  rcases condValid.kind hv with ⟨h,_⟩ | ⟨h,_⟩ | ⟨h,hm1,hm2⟩
  · rw [if_pos h,← Bool.not_eq_true,isF_ge h]
    simp only [List.mem_singleton,exists_eq_left]
    rw [isF_ge rfl]
    simp only [atC,oppF,dotL_map_neg]
    omega
  · rw [if_neg (by omega),if_pos h,← Bool.not_eq_true,isF_eq0 h]
    simp only [List.mem_cons,List.not_mem_nil,or_false,exists_eq_or_imp,exists_eq_left]
    rw [isF_ge rfl,isF_ge rfl]
    simp only [atC,oppF,dotL_map_neg]
    omega
  · rw [if_neg (by omega),if_neg (by omega)]
    have hd : ∀ d : Cond,d.1 = 2 → isF d x = decide (d.2.1 ∣ atC d x) := fun d h2 => by
      simp only [isF,trueAt,h2,atC,show ¬ ((2 : Int) = 0) by omega,show ¬ ((2 : Int) = 1) by omega,if_false]
      exact tmod_zero
    rw [hd c h,decide_eq_false_iff_not]
    simp only [List.mem_map,List.mem_range]
    have hat : ∀ r : Nat,atC ((2,c.2.1,c.2.2.1,c.2.2.2 - ((r : Int) + 1)) : Cond) x = atC c x - ((r : Int) + 1) := fun r => by simp only [atC];omega
    have hpos : 0 < c.2.1 := by omega
    have h3 := Int.mul_ediv_add_emod (atC c x) c.2.1
    have h4 := Int.emod_nonneg (atC c x) (b := c.2.1) (by omega)
    have h5 := Int.emod_lt_of_pos (atC c x) hpos
    constructor
    · rintro ⟨o,⟨r,hr,rfl⟩,ho⟩ hn
      rw [hd _ rfl,decide_eq_true_iff,hat] at ho
      simp only at ho
      have h6 : c.2.1 ∣ ((r : Int) + 1) := (Int.dvd_iff_dvd_of_dvd_sub ho).1 hn
      have := Int.le_of_dvd (by omega) h6
      omega
    · intro hn
      have h6 : atC c x % c.2.1 ≠ 0 := fun e => hn (Int.dvd_of_emod_eq_zero e)
      refine ⟨_,⟨(atC c x % c.2.1 - 1).toNat,by omega,rfl⟩,?_⟩
      rw [hd _ rfl,decide_eq_true_iff,hat]
      simp only
      refine ⟨atC c x / c.2.1,?_⟩
      omega
theorem trivial_in (n : Nat) (x : List Int) : isF (0,0,List.replicate n 0,0) x = true := by
  rw [isF_ge rfl]
  have : dotL (List.replicate n (0 : Int)) x = 0 := dotL_zero (fun m hm => List.eq_of_mem_replicate hm) x
  simp [atC,this]
theorem negM_in {n : Nat} (x : List Int) : ∀ {l out out' : List Cond},(∀ o ∈ l,kindB o) → l.foldlM (negStep n) out = some out' → ((∃ o ∈ out',isF o x = true) ↔ (∃ o ∈ out,isF o x = true) ∨ ∃ o ∈ l,isF o x = true)
  | [],out,out',_,h => by cases h;simp
  | c :: l,out,out',hl,h => by
    rw [List.foldlM_cons] at h
    obtain ⟨o1,h1,h2⟩ := Option.bind_eq_some_iff.1 h
    rw [negM_in x (fun o ho => hl o (List.mem_cons_of_mem _ ho)) h2]
    have hs := rawF_sem (hl c (by simp)) x
    have key : (∃ o ∈ o1,isF o x = true) ↔ (∃ o ∈ out,isF o x = true) ∨ isF c x = true := by
      have hm : ∀ h : (makeF c).2.2 = 0,(makeF c).1 = (rawF c).1 ∧ (makeF c).2.1 = (rawF c).2 := fun h => by
        unfold makeF at h ⊢
        split at h
        · cases h
        · rename_i hc;rw [if_neg hc];exact ⟨rfl,rfl⟩
      unfold negStep at h1
      split at h1
      · cases h1
      · rename_i h0
        obtain ⟨m1,m2⟩ := hm (by simpa using h0)
        rw [m1,m2] at h1
        split at h1
        · rename_i hp
          cases h1
          have ht := trivial_in n x
          simp only [List.mem_append,List.mem_singleton,hs.2.1 hp,or_true,iff_true]
          exact ⟨_,.inr rfl,ht⟩
        · rename_i hp
          split at h1
          · rename_i hn
            cases h1
            rw [hs.2.2 hn];simp
          · rename_i hn
            cases h1
            rw [← hs.1 (by omega)]
            simp only [List.mem_append,List.mem_singleton]
            constructor
            · rintro ⟨o,ho | rfl,hx⟩
              · exact .inl ⟨o,ho,hx⟩
              · exact .inr hx
            · rintro (⟨o,ho,hx⟩ | hx)
              · exact ⟨o,.inl ho,hx⟩
              · exact ⟨_,.inr rfl,hx⟩
    rw [key]
    simp only [List.mem_cons,exists_eq_or_imp,or_assoc]
theorem othersF_kind {c o : Cond} (hv : condValid c = true) (h : o ∈ othersF c) : kindB o := by
  unfold othersF at h
  rcases condValid.kind hv with ⟨h0,_⟩ | ⟨h0,_⟩ | ⟨h0,hm1,hm2⟩
  · rw [if_pos h0] at h
    simp only [List.mem_singleton] at h
    subst h;exact .inl rfl
  · rw [if_neg (by omega),if_pos h0] at h
    simp only [List.mem_cons,List.not_mem_nil,or_false] at h
    rcases h with rfl | rfl <;> exact .inl rfl
  · rw [if_neg (by omega),if_neg (by omega)] at h
    simp only [List.mem_map] at h
    obtain ⟨r,_,rfl⟩ := h
    exact .inr (.inr ⟨rfl,hm1,by show c.2.1 ≤ _;omega⟩)
theorem negF_in {c : Cond} (hv : condValid c = true) (x : List Int) (h : (negF c).2 = 0) : (∃ o ∈ (negF c).1,isF o x = true) ↔ isF c x = false := by
  unfold negF at h ⊢
  rw [if_neg (by rw [hv];simp)] at h ⊢
  split at h
  · cases h
  · rename_i out ho
    split at h
    · cases h
    · rename_i hl
      rw [if_neg hl]
      rw [negM_in x (fun o ho => othersF_kind hv ho) ho,← othersF_in hv x]
      simp
theorem cutM_in {a b : List Cond} (hb : ∀ c ∈ b,condValid c = true) (x : List Int) : ∀ {k : Nat} {out : List (List Cond)},k ≤ b.length → (List.range k).foldlM (cutStep a b) [] = some out → inS out x = (inP a x && !inP (b.take k) x)
  | 0,out,_,h => by cases h;simp [inS,inP]
  | k + 1,out,hk,h => by
    rw [List.range_succ,List.foldlM_append] at h
    obtain ⟨o1,h1,h2⟩ := Option.bind_eq_some_iff.1 h
    simp only [List.foldlM_cons,List.foldlM_nil] at h2
    obtain ⟨o2,h2,h3⟩ := Option.bind_eq_some_iff.1 h2
    cases h3
    have ih := cutM_in hb x (by omega) h1
    unfold cutStep at h2
    split at h2
    · cases h2
    · rename_i h0
      cases h2
      have hm : b.getD k dCond ∈ b := getD_memL (by omega)
      have hn := negF_in (hb _ hm) x (by simpa using h0)
      rw [inS_append,ih,take_succ_getD dCond (by omega : k < b.length),inP_append]
      have e : inS ((negF (b.getD k dCond)).1.map fun o => a ++ (b.take k ++ [o])) x = (inP a x && (inP (b.take k) x && !isF (b.getD k dCond) x)) := by
        rw [Bool.eq_iff_iff,inS_iff]
        simp only [List.mem_map,Bool.and_eq_true,Bool.not_eq_true']
        rw [← hn]
        constructor
        · rintro ⟨p,⟨o,ho,rfl⟩,hx⟩
          rw [inP_append,inP_append,Bool.and_eq_true,Bool.and_eq_true] at hx
          exact ⟨hx.1,hx.2.1,o,ho,by simpa [inP] using hx.2.2⟩
        · rintro ⟨h1,h2,o,ho,hx⟩
          exact ⟨_,⟨o,ho,rfl⟩,by rw [inP_append,inP_append,h1,h2];simp [inP,hx]⟩
      rw [e]
      have e1 : inP [b.getD k dCond] x = isF (b.getD k dCond) x := by simp [inP]
      rw [e1]
      cases inP a x <;> cases inP (b.take k) x <;> cases isF (b.getD k dCond) x <;> rfl
theorem cutF_in {a b : List Cond} {n : Nat} (ha : validP a) (hb : validP b) (hda : dims a n) (hdb : dims b n) (x : List Int) (h : (cutF a b).2 = 0) : inS (cutF a b).1 x = (inP a x && !inP b x) := by
  have hB : pieceB (a ++ b) := ⟨by have := ha.1;have := hb.1;rw [List.length_append];omega,fun c hc => (List.mem_append.1 hc).elim (fun h => condValid.condB (ha.2 c h)) fun h => condValid.condB (hb.2 c h)⟩
  have hD : dims (a ++ b) n := fun c hc => (List.mem_append.1 hc).elim (fun h => hda c h) fun h => hdb c h
  unfold cutF at h ⊢
  split at h
  · cases h
  · rename_i h0
    rw [if_neg h0]
    split at h
    · rename_i h1
      rw [if_pos h1]
      have := (tidyF_in hB hD x (by simpa using h0)).1 h1
      rw [inP_append] at this
      have e : inS [a] x = inP a x := by simp [inS]
      rw [e]
      cases hax : inP a x <;> cases hbx : inP b x <;> simp_all
    · rename_i h1
      rw [if_neg h1]
      split at h
      · cases h
      · rename_i out ho
        show inS out x = _
        rw [cutM_in hb.2 x (Nat.le_refl _) ho,List.take_length]
def PD (n : Nat) (l : List (List Cond)) : Prop := PP l ∧ ∀ p ∈ l,dims p n
theorem PD.at {n : Nat} {l : List (List Cond)} (h : PD n l) {p : List Cond} (hp : p ∈ l) : validP p ∧ dims p n := ⟨h.1.v hp,h.2 p hp⟩
theorem cutTid_one {a b : List Cond} {n : Nat} (ha : validP a) (hda : dims a n) (hb : validP b) (hbd : dims b n) {out o1 : List (List Cond)} (h : cutTid b out a = some o1) (hd : ∀ p ∈ out, dims p n) (x : List Int) :
    (∀ p ∈ o1,dims p n) ∧ inS o1 x = (inS out x || (inP a x && !inP b x)) := by
  unfold cutTid at h
  split at h
  · cases h
  · rename_i h0
    have h0 : (cutF a b).2 = 0 := by simpa using h0
    have hB : ∀ p ∈ (cutF a b).1,pieceB p ∧ dims p n := fun p hp => ⟨(cutF_B ha hb).2 p hp,cutF_dims hda hb hbd p hp⟩
    exact ⟨tidM_dims h hd hB,by rw [tidM_in (n := n) x hB h,cutF_in ha hb hda hbd x h0]⟩
theorem cutTidM_in {b : List Cond} {n : Nat} (hb : validP b) (hbd : dims b n) (x : List Int) : ∀ {l out out' : List (List Cond)}, (∀ a ∈ l, validP a ∧ dims a n) → (∀ p ∈ out, dims p n) → l.foldlM (cutTid b) out = some out' →
    (∀ p ∈ out',dims p n) ∧ inS out' x = (inS out x || (inS l x && !inP b x))
  | [],out,out',_,hd,h => by cases h;exact ⟨hd,by simp [inS]⟩
  | a :: l,out,out',hl,hd,h => by
    rw [List.foldlM_cons] at h
    obtain ⟨o1,h1,h2⟩ := Option.bind_eq_some_iff.1 h
    obtain ⟨ha,hda⟩ := hl a (by simp)
    obtain ⟨k1,k2⟩ := cutTid_one ha hda hb hbd h1 hd x
    obtain ⟨k3,k4⟩ := cutTidM_in hb hbd x (fun q hq => hl q (List.mem_cons_of_mem _ hq)) k1 h2
    refine ⟨k3,?_⟩
    rw [k4,k2]
    have e2 : inS (a :: l) x = (inP a x || inS l x) := by simp [inS]
    rw [e2]
    cases inS out x <;> cases inP a x <;> cases inS l x <;> cases inP b x <;> rfl
theorem minStep_in {cur cur' : List (List Cond)} {b : List Cond} {n : Nat} (hb : validP b) (hbd : dims b n) (hc : PD n cur) (x : List Int) (h : minStep cur b = some cur') : PD n cur' ∧ inS cur' x = (inS cur x && !inP b x) := by
  obtain ⟨k1,k2⟩ := cutTidM_in hb hbd x (l := cur) (out := []) (fun a ha => hc.at ha) (by simp) h
  exact ⟨⟨minStep_PP h hb hc.1,k1⟩,by rw [k2];simp [inS]⟩
theorem minM_in {n : Nat} (x : List Int) : ∀ {l cur cur' : List (List Cond)},PD n cur → (∀ b ∈ l,validP b ∧ dims b n) → l.foldlM minStep cur = some cur' → PD n cur' ∧ inS cur' x = (inS cur x && !inS l x)
  | [],cur,cur',hc,_,h => by cases h;exact ⟨hc,by simp [inS]⟩
  | b :: l,cur,cur',hc,hl,h => by
    rw [List.foldlM_cons] at h
    obtain ⟨o1,h1,h2⟩ := Option.bind_eq_some_iff.1 h
    obtain ⟨hb,hbd⟩ := hl b (by simp)
    obtain ⟨k1,k2⟩ := minStep_in hb hbd hc x h1
    obtain ⟨k3,k4⟩ := minM_in x k1 (fun q hq => hl q (List.mem_cons_of_mem _ hq)) h2
    refine ⟨k3,?_⟩
    rw [k4,k2]
    have e2 : inS (b :: l) x = (inP b x || inS l x) := by simp [inS]
    rw [e2]
    cases inS cur x <;> cases inS l x <;> cases inP b x <;> rfl
theorem normF_PD {s : PSet} (h : (normF s).2 = 0) : PD s.1.toNat (normF s).1.2 := ⟨(normF_PP h).1,normF_dims (normF_in [] h).2.2 h⟩
theorem minusF_in {a b : PSet} (h : (minusF a b).2 = 0) : (setValid a = true ∧ setValid b = true ∧ a.1 = b.1) ∧ PD a.1.toNat (minusF a b).1.2 ∧ (minusF a b).1.1 = a.1 ∧ ∀ x,inS (minusF a b).1.2 x = (inS a.2 x && !inS b.2 x) := by
  unfold minusF at h ⊢
  split at h
  · rename_i h0;exact absurd h h0
  · rename_i h0
    obtain ⟨ha,hb,he⟩ := bothErr_ok (by simpa using h0)
    rw [if_neg h0]
    split at h
    · cases h
    · rename_i h1
      rw [if_neg h1]
      have n1 : (normF a).2 = 0 := Classical.byContradiction fun h => h1 (.inl h)
      have n2 : (normF b).2 = 0 := Classical.byContradiction fun h => h1 (.inr h)
      obtain ⟨out,h2,h3⟩ := ofTid_some h
      rw [h3]
      have hb2 := normF_PD n2
      have key := fun x => minM_in x (normF_PD n1) (fun b' hb' => (by rw [he];exact hb2.at hb')) h2
      refine ⟨⟨ha,hb,he⟩,(key []).1,rfl,fun x => ?_⟩
      rw [(key x).2,(normF_in x n1).1,(normF_in x n2).1]
theorem setValid_PD {n : Int} {l : List (List Cond)} (h0 : 0 ≤ n) (h1 : n ≤ 12) (h : PD n.toNat l) : setValid (n,l) = true := by
  obtain ⟨⟨k1,k2⟩,k3⟩ := h
  simp only [setValid,Bool.and_eq_true,decide_eq_true_iff,List.all_eq_true,overF]
  refine ⟨⟨⟨h0,h1⟩,by omega⟩,fun p hp => ⟨by have := (k2 p hp).1;omega,fun c hc => ⟨(k2 p hp).2 c hc,?_⟩⟩⟩
  have := k3 p hp c hc
  rw [beq_iff_eq,this];omega
theorem PD_atOk {n : Nat} {l : List (List Cond)} (h : PD n l) {x : List Int} (hx : x.length = n) (hc : x.all Coord = true) : ∀ p ∈ l,∀ c ∈ p,atOk c x := fun p hp c hcp =>
  ⟨(h.1.2 p hp).2 c hcp,by rw [h.2 p hp c hcp,hx],List.all_eq_true.1 hc⟩
theorem setValid_PDof {s : PSet} (h : setValid s = true) : PD s.1.toNat s.2 := by
  have hb := setValid.b h
  exact ⟨⟨hb.2.2.1,fun p hp => setValid.piece h hp⟩,fun p hp => (setValid.D h hp).2⟩
theorem hasF_in {s : PSet} {x : List Int} (h : (hasF s x).2 = 0) : setValid s = true ∧ x.length = s.1.toNat ∧ x.all Coord = true ∧ (hasF s x).1 = inS s.2 x := by
  unfold hasF at h ⊢
  split at h
  · cases h
  · rename_i h0
    split at h
    · cases h
    · rename_i h1
      split at h
      · cases h
      · rename_i h2
        have hv : setValid s = true := by simpa using h0
        have hl : x.length = s.1.toNat := by omega
        have hc : x.all Coord = true := by simpa using h2
        refine ⟨hv,hl,hc,?_⟩
        rw [if_neg h0,if_neg h1,if_neg h2]
        show (s.2.any fun q => !q.any fun c => !(holdsF c x).1) = _
        rw [Bool.eq_iff_iff,List.any_eq_true,inS_iff]
        have hat := PD_atOk (setValid_PDof hv) hl hc
        constructor
        · rintro ⟨p,hp,h⟩
          refine ⟨p,hp,inP_iff.2 fun c hcp => ?_⟩
          simp only [Bool.not_eq_true',List.any_eq_false] at h
          have := h c hcp
          rw [dotF_ok (hat p hp c hcp)] at this
          simpa using this
        · rintro ⟨p,hp,h⟩
          refine ⟨p,hp,?_⟩
          simp only [Bool.not_eq_true',List.any_eq_false]
          intro c hcp
          rw [dotF_ok (hat p hp c hcp)]
          simpa using inP_iff.1 h c hcp
def Nf (c : Cond) : Prop := rawF c = (c,0)
theorem tdiv_map_one (l : List Int) : l.map (·.tdiv 1) = l := by
  rw [show (fun x : Int => x.tdiv 1) = id from funext fun x => Int.tdiv_one x,List.map_id]
theorem ge_nf {c : Cond} (h0 : c.1 = 0) (h1 : c.2.1 = 0) (hg : gcdL c.2.2.1 = 1) : Nf c := by
  obtain ⟨a,b,C,K⟩ := c
  simp only at h0 h1 hg
  subst h0 h1
  unfold Nf rawF geF
  simp only [hg,if_true]
  simp
theorem eq_nf {c : Cond} (h0 : c.1 = 1) (h1 : c.2.1 = 0) (hg : gcdL c.2.2.1 = 1) (hf : firstNeg c.2.2.1 = false) : Nf c := by
  obtain ⟨a,b,C,K⟩ := c
  simp only at h0 h1 hg hf
  subst h0 h1
  have hs : eqSign (1,0,C,K) = 1 := by unfold eqSign;simp [hf,hg]
  unfold Nf rawF eqF
  rw [if_neg (by simp),if_pos rfl,hs]
  simp [hg,Int.tmod_one]
theorem div_nf {c : Cond} (h0 : c.1 = 2) (hm : 2 ≤ c.2.1) (hC : ∀ n ∈ c.2.2.1,0 ≤ n ∧ n < c.2.1) (hK : 0 ≤ c.2.2.2 ∧ c.2.2.2 < c.2.1) (hg : gcdL (c.2.1 :: c.2.2.1) = 1) : Nf c := by
  obtain ⟨a,M,C,K⟩ := c
  simp only at h0 hm hC hK hg
  subst h0
  have e1 : C.map (· % M) = C := by
    conv => rhs;rw [← List.map_id C]
    exact List.map_congr_left fun n hn => Int.emod_eq_of_lt (hC n hn).1 (hC n hn).2
  have e2 : K % M = K := Int.emod_eq_of_lt hK.1 hK.2
  have hd : divG (2,M,C,K) = 1 := by unfold divG;simp only [e1,hg]
  unfold Nf rawF divF
  rw [if_neg (by simp),if_neg (by simp),hd]
  simp only [e1,e2]
  rw [if_neg (by simp [Int.tmod_one]),if_neg (by show ¬ M = ((1 : Nat) : Int);omega)]
  simp
theorem gcdL_mul {g : Nat} : ∀ {l : List Int},gcdL (l.map fun n => (g : Int) * n) = g * gcdL l
  | [] => by simp [gcdL]
  | n :: l => by
    rw [List.map_cons,gcdL_cons,gcdL_mul (l := l),gcdL_cons,Int.natAbs_mul,Int.natAbs_natCast,Nat.gcd_mul_left]
theorem raw_nf {c : Cond} (hb : condB c) (h : (rawF c).2 = 0) : Nf (rawF c).1 := by
  obtain ⟨hn,hk1⟩ := rawF_norm hb h
  obtain ⟨hk,_⟩ := hb
  have hs : ∀ b,(sureF b).2 ≠ 0 := fun b => by cases b <;> simp [sureF]
  rcases hk with hk | hk | ⟨hk,hm1,hm2⟩
  · exact ge_nf (by omega) (rawF_mod0 h (by omega)) (hn.2.1 (by omega))
  · refine eq_nf (by omega) ?_ (hn.2.1 (by omega)) (hn.2.2 (by omega))
    have hr : rawF c = eqF c := by simp [rawF,hk]
    rw [hr] at h ⊢
    unfold eqF at h ⊢
    split at h
    · exact absurd h (hs _)
    · rename_i ha;rw [if_neg ha]
  · have hr : rawF c = divF c := by simp [rawF,hk]
    rw [hr] at h ⊢
    unfold divF at h ⊢
    split at h
    · exact absurd h (hs _)
    split at h
    · exact absurd h (hs _)
    rename_i ha hb
    rw [if_neg ha,if_neg hb]
    have hgm : (divG c : Int) ∣ c.2.1 := gcdL_dvd_mem (l := c.2.1 :: c.2.2.1.map (· % c.2.1)) (by simp)
    have hgc : ∀ n ∈ c.2.2.1.map (· % c.2.1),(divG c : Int) ∣ n := fun n hn => gcdL_dvd_mem (l := c.2.1 :: c.2.2.1.map (· % c.2.1)) (by simp only [List.mem_cons];exact .inr hn)
    have hgk : (divG c : Int) ∣ c.2.2.2 % c.2.1 := Int.dvd_iff_tmod_eq_zero.2 (by simpa using ha)
    have hg0 : 0 < divG c := gcdL_pos hm1 _
    obtain ⟨M,hM⟩ := hgm
    have e1 : c.2.1.tdiv (divG c) = M := by rw [hM];exact Int.mul_tdiv_cancel_left _ (by omega)
    have hdv : ∀ x : Int,(divG c : Int) ∣ x → (divG c : Int) * x.tdiv (divG c) = x := fun x hx => Int.mul_tdiv_cancel' hx
    have hMp : 0 < M := by
      rcases Int.lt_or_le 0 M with h | h
      · exact h
      · have : (divG c : Int) * M ≤ 0 := Int.mul_nonpos_of_nonneg_of_nonpos (by omega) h
        omega
    have hM1 : M ≠ 1 := fun e => hb (by rw [hM,e,Int.mul_one])
    have small : ∀ x : Int,0 ≤ x → x < c.2.1 → (divG c : Int) ∣ x → 0 ≤ x.tdiv (divG c) ∧ x.tdiv (divG c) < M := fun x h0 h1 hx => by
      have hx' := hdv x hx
      refine ⟨Int.tdiv_nonneg h0 (by omega),?_⟩
      rcases Int.lt_or_le (x.tdiv (divG c)) M with h | h
      · exact h
      · have := Int.mul_le_mul_of_nonneg_left h (show (0 : Int) ≤ (divG c : Int) by omega)
        omega
    have hmod : ∀ x : Int,0 ≤ x % c.2.1 ∧ x % c.2.1 < c.2.1 := fun x => ⟨Int.emod_nonneg _ (by omega),Int.emod_lt_of_pos _ (by omega)⟩
    refine div_nf rfl (by show 2 ≤ c.2.1.tdiv (divG c);rw [e1];omega) (fun n hn => ?_) ?_ ?_
    · show 0 ≤ n ∧ n < c.2.1.tdiv (divG c)
      rw [e1]
      obtain ⟨x,hx,rfl⟩ := List.mem_map.1 hn
      have hx2 := hgc x hx
      obtain ⟨y,hy,rfl⟩ := List.mem_map.1 hx
      exact small _ (hmod y).1 (hmod y).2 hx2
    · show 0 ≤ (c.2.2.2 % c.2.1).tdiv (divG c) ∧ (c.2.2.2 % c.2.1).tdiv (divG c) < c.2.1.tdiv (divG c)
      rw [e1]
      exact small _ (hmod _).1 (hmod _).2 hgk
    · show gcdL (c.2.1.tdiv (divG c) :: (c.2.2.1.map (· % c.2.1)).map (·.tdiv (divG c))) = 1
      have h1 := gcdL_mul (g := divG c) (l := c.2.1.tdiv (divG c) :: (c.2.2.1.map (· % c.2.1)).map (·.tdiv (divG c)))
      have e : (c.2.1.tdiv (divG c) :: (c.2.2.1.map (· % c.2.1)).map (·.tdiv (divG c))).map (fun n => (divG c : Int) * n) = c.2.1 :: c.2.2.1.map (· % c.2.1) := by
        rw [List.map_cons,e1,← hM,List.map_map]
        congr 1
        conv => rhs;rw [← List.map_id (c.2.2.1.map (· % c.2.1))]
        exact List.map_congr_left fun n hn => hdv n (hgc n hn)
      rw [e] at h1
      have h2 : divG c = divG c * gcdL (c.2.1.tdiv (divG c) :: (c.2.2.1.map (· % c.2.1)).map (·.tdiv (divG c))) := h1
      exact (Nat.eq_of_mul_eq_mul_left hg0 (by rw [Nat.mul_one];exact h2)).symm
theorem rawL_nf {p : List Cond} (hb : pieceB p) {c : Cond} (h : c ∈ rawL p) : Nf c := by
  simp only [rawL,List.mem_map,List.mem_filter] at h
  obtain ⟨r,⟨⟨d,hd,rfl⟩,hr⟩,rfl⟩ := h
  exact raw_nf (hb.2 d hd) (by simpa using hr)
theorem toEq_nf {n : Nat} {c : Cond} (h : Mk n c) (h0 : c.1 = 0) : Nf (toEq c) := by
  have hk := toEq_mk h h0
  refine eq_nf hk.2 ?_ (hk.1.1.2.1 (by rw [hk.2];omega)) (hk.1.1.2.2 hk.2)
  have hg := h.gcd h0
  simp [toEq,rawF,eqF,hg,Int.tmod_one]
theorem raw_self {q : List Cond} (h : ∀ c ∈ q,Nf c) : rawVoid q = false ∧ rawL q = q := by
  have e : q.map rawF = q.map fun c => (c,(0 : Int)) := List.map_congr_left fun c hc => h c hc
  constructor
  · unfold rawVoid;rw [e,List.any_map];simp
  · unfold rawL
    rw [e,List.filter_eq_self.2 (fun r hr => by obtain ⟨c,_,rfl⟩ := List.mem_map.1 hr;rfl),List.map_map]
    exact List.map_id q
def Fx (q : List Cond) : Prop := tidyF q = (q,false,0)
theorem tidyF_idem {p : List Cond} {n : Nat} (hb : pieceB p) (hd : dims p n) (h0 : (tidyF p).2.2 = 0) (h1 : (tidyF p).2.1 = false) : Fx (tidyF p).1 := by
  have hv : rawVoid p = false := by
    cases hv : rawVoid p with
    | false => rfl
    | true =>
      have e : tidyF p = ([],true,0) := by have := tidyF_eq p;rw [hv] at this;simpa using this
      rw [e] at h1;cases h1
  have hok := tidyF_ok hb
  have hdq := tidyF_dims hb hd
  obtain ⟨s1,s2⟩ := tidyF_sem hb hd hv
  have hl := rawL_Mk hb hd
  have hLm : ∀ c,Lm (rawL p) c → Mk n c := fun c hc => hl c hc.1
  have hw1 : ¬ Void1 (Lm (rawL p)) := fun h => by rw [s1 (.inl h)] at h1;cases h1
  have hw2 : ¬ Void2 (MM (Lm (rawL p))) := fun h => by rw [s1 (.inr h)] at h1;cases h1
  obtain ⟨m,hm⟩ := tidy_list hb hd hv hw1 hw2
  have hMM : ∀ c,MM (Lm (rawL p)) c → Mk n c ∧ Nf c := fun c hc => by
    rcases hc with ⟨h,_⟩ | ⟨d,h,hd0,_,rfl⟩
    · exact ⟨hLm c h,rawL_nf hb h.1⟩
    · exact ⟨(toEq_mk (hLm d h) hd0).1,toEq_nf (hLm d h) hd0⟩
  have hk3 : K3 m := fun c hc => (hMM c ((hm c).1 hc).1).1.2.1
  have hs := s2 hw1 hw2 m hm
  have hlen := tidyF_len p
  have hq : (tidyF p).1 = sortU m := by
    rw [hs] at h0 ⊢
    split at h0
    · cases h0
    · rename_i hc;rw [if_neg hc]
  generalize (tidyF p).1 = q at *
  subst hq
  have hmem : ∀ x,x ∈ sortU m ↔ Fin2 (MM (Lm (rawL p))) x := fun x => by rw [sortU_mem hk3,hm]
  have hnf : ∀ c ∈ sortU m,Nf c := fun c hc => (hMM c ((hmem c).1 hc).1).2
  obtain ⟨v2,r2⟩ := raw_self hnf
  have hL : ∀ {x},x ∈ sortU m → x.1 = 0 → Lm (rawL p) x ∧ ¬ Opp (Lm (rawL p)) x := fun {x} hx h0 => by
    rcases ((hmem x).1 hx).1 with ⟨h,h'⟩ | ⟨d,h,hd0,_,rfl⟩
    · exact ⟨h,h' h0⟩
    · have := (toEq_mk (hLm d h) hd0).2;omega
  have a1 : ∀ x,Lm (sortU m) x ↔ x ∈ sortU m := fun x => ⟨fun h => h.1,fun h => ⟨h,fun h0 d hd hd0 he => by
    have := Lm.uniq hl (hL h h0).1 (hL hd hd0).1 h0 hd0 he.symm
    rw [this];exact Int.le_refl _⟩⟩
  have a1e : Lm (sortU m) = (· ∈ sortU m) := funext fun x => propext (a1 x)
  have opp : ∀ c,c.1 = 0 → c ∈ sortU m → ¬ Opp (· ∈ sortU m) c := fun c h0 hc ⟨d,hd,hd0,h2,h3⟩ => (hL hc h0).2 ⟨d,(hL hd hd0).1,hd0,h2,h3⟩
  have a2 : ∀ x,MM (· ∈ sortU m) x ↔ x ∈ sortU m := fun x => ⟨fun h => by
    rcases h with ⟨h,_⟩ | ⟨c,hc,h0,ho,_⟩
    · exact h
    · exact absurd ho (opp c h0 hc),fun h => .inl ⟨h,fun h0 => opp x h0 h⟩⟩
  have a2e : MM (· ∈ sortU m) = (· ∈ sortU m) := funext fun x => propext (a2 x)
  have a3 : ∀ x,Fin2 (· ∈ sortU m) x ↔ x ∈ sortU m := fun x => ⟨fun h => h.1,fun h => ⟨h,fun h0 e he h1 => ((hmem x).1 h).2 h0 e ((hmem e).1 he).1 h1⟩⟩
  obtain ⟨_,t2⟩ := tidyF_sem hok.B hdq v2
  rw [r2,a1e,a2e] at t2
  have hv1 : ¬ Void1 (· ∈ sortU m) := fun ⟨c,d,hc,hd,h0,h1,h2,h3⟩ => hw1 ⟨c,d,(hL hc h0).1,(hL hd h1).1,h0,h1,h2,h3⟩
  have hsub : ∀ {x},x ∈ sortU m → MM (Lm (rawL p)) x := fun {x} hx => ((hmem x).1 hx).1
  have hv2 : ¬ Void2 (· ∈ sortU m) := fun h => by
    rcases h with ⟨e,f,he,hf,h1,h2,h3,h4⟩ | ⟨c,e,hc,he,h0,h1,h2⟩
    · exact hw2 (.inl ⟨e,f,hsub he,hsub hf,h1,h2,h3,h4⟩)
    · exact hw2 (.inr ⟨c,e,hsub hc,hsub he,h0,h1,h2⟩)
  have hfin := t2 hv1 hv2 (sortU m) (fun x => (a3 x).symm)
  have hself : sortU (sortU m) = sortU m := (sortU_uniq (fun c hc => hk3 c ((sortU_mem hk3 c).1 hc)) (sortU_SS hk3) (fun c => Iff.rfl)).symm
  unfold Fx
  rw [hfin,hself,if_neg]
  rw [Bool.or_eq_true,decide_eq_true_iff]
  rintro (h | h)
  · rw [List.any_eq_true] at h
    obtain ⟨c,hc,h⟩ := h
    rw [hok.2 c hc] at h;cases h
  · omega
def Nm (l : List (List Cond)) : Prop := l.Nodup ∧ ∀ q ∈ l,Fx q
theorem tidStep_Nm {out out' : List (List Cond)} {p : List Cond} {n : Nat} (hb : pieceB p) (hd : dims p n) (h : tidStep out p = some out') (ho : Nm out) : Nm out' := by
  unfold tidStep at h
  split at h
  · cases h
  · rename_i h3
    split at h
    · cases h;exact ho
    · rename_i h4
      split at h
      · cases h
      · cases h
        rw [not_or] at h4
        have hf : Fx (tidyF p).1 := tidyF_idem hb hd (by simpa using h3) (by simpa using h4.1)
        refine ⟨List.nodup_append.2 ⟨ho.1,by simp,fun a ha b hb' => ?_⟩,fun q hq => ?_⟩
        · simp only [List.mem_singleton] at hb'
          subst hb'
          exact fun e => h4.2 (by rw [← e];exact ha)
        · rcases List.mem_append.1 hq with h | h
          · exact ho.2 q h
          · simp only [List.mem_singleton] at h;subst h;exact hf
theorem tidM_Nm {n : Nat} : ∀ {l out out' : List (List Cond)},(∀ p ∈ l,pieceB p ∧ dims p n) → l.foldlM tidStep out = some out' → Nm out → Nm out'
  | [],out,out',_,h,ho => by cases h;exact ho
  | p :: l,out,out',hl,h,ho => by
    rw [List.foldlM_cons] at h
    obtain ⟨o1,h1,h2⟩ := Option.bind_eq_some_iff.1 h
    obtain ⟨hb,hd⟩ := hl p (by simp)
    exact tidM_Nm (fun q hq => hl q (List.mem_cons_of_mem _ hq)) h2 (tidStep_Nm hb hd h1 ho)
theorem Nm.nil : Nm [] := ⟨List.nodup_nil,fun q hq => by cases hq⟩
theorem cutTidM_Nm {b : List Cond} {n : Nat} (hb : validP b) (hbd : dims b n) : ∀ {l out out' : List (List Cond)},(∀ a ∈ l,validP a ∧ dims a n) → l.foldlM (cutTid b) out = some out' → Nm out → Nm out'
  | [],out,out',_,h,ho => by cases h;exact ho
  | a :: l,out,out',hl,h,ho => by
    rw [List.foldlM_cons] at h
    obtain ⟨o1,h1,h2⟩ := Option.bind_eq_some_iff.1 h
    obtain ⟨ha,hda⟩ := hl a (by simp)
    refine cutTidM_Nm hb hbd (fun q hq => hl q (List.mem_cons_of_mem _ hq)) h2 ?_
    unfold cutTid at h1
    split at h1
    · cases h1
    · exact tidM_Nm (fun p hp => ⟨(cutF_B ha hb).2 p hp,cutF_dims hda hb hbd p hp⟩) h1 ho
theorem minM_Nm {n : Nat} : ∀ {l cur cur' : List (List Cond)},PD n cur → (∀ b ∈ l,validP b ∧ dims b n) → l.foldlM minStep cur = some cur' → Nm cur → Nm cur'
  | [],cur,cur',_,_,h,ho => by cases h;exact ho
  | b :: l,cur,cur',hc,hl,h,ho => by
    rw [List.foldlM_cons] at h
    obtain ⟨o1,h1,h2⟩ := Option.bind_eq_some_iff.1 h
    obtain ⟨hb,hbd⟩ := hl b (by simp)
    exact minM_Nm (minStep_in hb hbd hc [] h1).1 (fun q hq => hl q (List.mem_cons_of_mem _ hq)) h2 (cutTidM_Nm hb hbd (fun a ha => hc.at ha) h1 Nm.nil)
theorem Nm.again : ∀ {l out : List (List Cond)},Nm (out ++ l) → (out ++ l).length ≤ 400 → l.foldlM tidStep out = some (out ++ l)
  | [],out,_,_ => by simp
  | q :: l,out,h,hl => by
    have hf : tidyF q = (q,false,0) := h.2 q (by simp)
    have hn : q ∉ out := fun hm => by
      have := (List.nodup_append.1 h.1).2.2 q hm q (by simp)
      exact this rfl
    have hs : tidStep out q = some (out ++ [q]) := by
      unfold tidStep
      rw [hf]
      simp only [ne_eq,not_true_eq_false,if_false,Bool.false_eq_true,false_or,if_neg hn]
      rw [if_neg]
      simp only [List.length_append,List.length_cons] at hl;omega
    rw [List.foldlM_cons,hs]
    have e : out ++ q :: l = (out ++ [q]) ++ l := by simp
    rw [e] at h hl ⊢
    exact Nm.again h hl
def NmS (s : PSet) : Prop := setValid s = true ∧ normF s = (s,0)
theorem NmS.of {n : Int} {l : List (List Cond)} (h0 : 0 ≤ n) (h1 : n ≤ 12) (hp : PD n.toNat l) (hn : Nm l) : NmS (n,l) := by
  have hv := setValid_PD h0 h1 hp
  refine ⟨hv,?_⟩
  unfold normF
  rw [if_neg (by rw [hv];simp)]
  have : tidL l = some l := Nm.again (out := []) (by simpa using hn) (by simpa using hp.1.1)
  rw [this];rfl
theorem PD.of_tid {n : Nat} {l out : List (List Cond)} (hl : ∀ p ∈ l,pieceB p ∧ dims p n) (h : tidL l = some out) : PD n out ∧ Nm out :=
  ⟨⟨tidM_PP h PP.nil (fun p hp => (hl p hp).1),tidM_dims h (by simp) hl⟩,tidM_Nm hl h Nm.nil⟩
theorem NmS.tid {n : Int} {l : List (List Cond)} (h0 : 0 ≤ n) (h1 : n ≤ 12) (hl : ∀ p ∈ l,pieceB p ∧ dims p n.toNat) (h : (ofTid n (tidL l)).2 = 0) : NmS (ofTid n (tidL l)).1 := by
  obtain ⟨out,h2,h3⟩ := ofTid_some h
  rw [h3]
  obtain ⟨a,b⟩ := PD.of_tid hl h2
  exact NmS.of h0 h1 a b
theorem normF_NmS {s : PSet} (h : (normF s).2 = 0) : NmS (normF s).1 := by
  unfold normF at h ⊢
  split at h
  · cases h
  · rename_i hv
    rw [if_neg hv]
    have hv : setValid s = true := by simpa using hv
    have hb := setValid.b hv
    exact NmS.tid hb.1 hb.2.1 (fun p hp => setValid.D hv hp) h
theorem unionF_NmS {a b : PSet} (h : (unionF a b).2 = 0) : NmS (unionF a b).1 := by
  unfold unionF at h ⊢
  split at h
  · rename_i h0;exact absurd h h0
  · rename_i h0
    rw [if_neg h0]
    obtain ⟨ha,hb,he⟩ := bothErr_ok (by simpa using h0)
    have hbb := setValid.b ha
    refine NmS.tid hbb.1 hbb.2.1 (fun p hp => ?_) h
    rcases List.mem_append.1 hp with hp | hp
    · exact setValid.D ha hp
    · rw [he];exact setValid.D hb hp
theorem meets_D {a b : PSet} (ha : setValid a = true) (hb : setValid b = true) (he : a.1 = b.1) {p : List Cond} (hp : p ∈ meets a.2 b.2) : pieceB p ∧ dims p a.1.toNat := by
  simp only [meets,List.mem_flatMap,List.mem_map] at hp
  obtain ⟨q,hq,r,hr,rfl⟩ := hp
  have hD := append_D (n := a.1.toNat) (setValid.piece ha hq) (setValid.piece hb hr) (setValid.D ha hq).2 (by rw [he];exact (setValid.D hb hr).2)
  refine ⟨hD.1,fun c hc => ?_⟩
  rcases List.mem_append.1 hc with hc | hc
  · exact (setValid.D ha hq).2 c hc
  · rw [he];exact (setValid.D hb hr).2 c hc
theorem meetF_NmS {a b : PSet} (h : (meetF a b).2 = 0) : NmS (meetF a b).1 := by
  unfold meetF at h ⊢
  split at h
  · rename_i h0;exact absurd h h0
  · rename_i h0
    rw [if_neg h0]
    obtain ⟨ha,hb,he⟩ := bothErr_ok (by simpa using h0)
    have hbb := setValid.b ha
    exact NmS.tid hbb.1 hbb.2.1 (fun p hp => meets_D ha hb he hp) h
theorem fixF_NmS {s : PSet} {i v : Int} (h : (fixF s i v).2 = 0) : NmS (fixF s i v).1 := by
  unfold fixF at h ⊢
  split at h
  · cases h
  · rename_i hv
    rw [if_neg hv]
    split at h
    · cases h
    · rename_i hb
      rw [if_neg hb]
      have hv : setValid s = true := by simpa using hv
      have hbb := setValid.b hv
      refine NmS.tid (by omega) (by omega) (fun p hp => ?_) h
      obtain ⟨q,hq,rfl⟩ := List.mem_map.1 hp
      have hm := setValid.piece hv hq
      refine ⟨fix_B hm.1 hm.2 (by omega),?_⟩
      have := fix_dims (i := i.toNat) (v := v) (setValid.D hv hq).2 (by omega)
      rwa [show (s.1 - 1).toNat = s.1.toNat - 1 by omega]
theorem minusF_NmS {a b : PSet} (h : (minusF a b).2 = 0) : NmS (minusF a b).1 := by
  unfold minusF at h ⊢
  split at h
  · rename_i h0;exact absurd h h0
  · rename_i h0
    obtain ⟨ha,hb,he⟩ := bothErr_ok (by simpa using h0)
    rw [if_neg h0]
    split at h
    · cases h
    · rename_i h1
      rw [if_neg h1]
      have n1 : (normF a).2 = 0 := Classical.byContradiction fun h => h1 (.inl h)
      have n2 : (normF b).2 = 0 := Classical.byContradiction fun h => h1 (.inr h)
      obtain ⟨out,h2,h3⟩ := ofTid_some h
      rw [h3]
      have hb2 := normF_PD n2
      have hbb := setValid.b ha
      have hX : Nm (normF a).1.2 := by
        have e : normF a = ofTid a.1 (tidL a.2) := by unfold normF;rw [if_neg (by rw [ha];simp)]
        rw [e] at n1 ⊢
        obtain ⟨o,k1,k2⟩ := ofTid_some n1
        rw [k2]
        exact (PD.of_tid (fun p hp => setValid.D ha hp) k1).2
      have hl : ∀ b' ∈ (normF b).1.2,validP b' ∧ dims b' a.1.toNat := fun b' hb' => by rw [he];exact hb2.at hb'
      exact NmS.of hbb.1 hbb.2.1 (minM_in [] (normF_PD n1) hl h2).1 (minM_Nm (normF_PD n1) hl h2 hX)
set_option maxRecDepth 4000
def law04_SetPoints.wp (x0 : Int × (List (List Cond))) (x1 : Int × (List (List Cond))) (x2 : List Int) (x3 : Int) (x4 : Int) (Q : Bool → Prop) : Prop := let v1 := set_Has.fn (x0,(x2,()));let v2 := set_Has.fn (x1,(x2,()));let v3 := set_Union.fn (x0,(x1,()));let v5 := set_Meet.fn (x0,(x1,()));let v7 := set_Minus.fn (x0,(x1,()));let v11 := set_Fix.fn (x0,(x3,((List.getD x2 (Int.toNat x3) (0 : Int)),())));let v12 := List.length ([] : List Int);let v13 := List.take (Int.toNat x3) x2;let v14 := List.length (([] : List Int) ++ v13);let v15 := Int.toNat (x3 + (1 : Int));let v16 := List.length (List.drop v15 x2);let v18 := set_Fix.fn (x0,(x3,(x4,())));let v19 := List.length (([] : List Int) ++ x2);let v20 := List.set (([] : List Int) ++ x2) (Int.toNat x3) x4;let v21 := ref04_Is.fn (v18.1,(((([] : List Int) ++ v13) ++ List.drop v15 x2),()));let v22 := ref04_Is.fn (x0,(v20,()));cond (!(law04_Few.fn ((12 : Int),((12 : Int),([x0,x1],()))))) (Q (law04_awake.fn ())) (((!(v1.2 != (0 : Int))) = true → ((!(v1.2 != (0 : Int))) = true ∧ True)) ∧ (((v1.2 != (0 : Int)) = false → (!(v1.2 != (0 : Int))) = true) ∧ cond ((v1.2 != (0 : Int)) || (v2.2 != (0 : Int))) (Q (law04_awake.fn ())) (((v3.2 == (0 : Int)) = true → ((v3.2 == (0 : Int)) = true ∧ ((v3.2 == (0 : Int)) = true ∧ ref04_Is.pre (v3.1,(x2,()))))) ∧ (((v3.2 == (0 : Int)) = true → ((v3.2 == (0 : Int)) = true ∧ True)) ∧ (((v3.2 == (0 : Int)) = true → ((v3.2 == (0 : Int)) = true ∧ (v1.1 = false → ((v3.2 == (0 : Int)) && (!v1.1)) = true))) ∧ (((v3.2 == (0 : Int)) = true → ((v3.2 == (0 : Int)) = true ∧ ((v3.2 == (0 : Int)) = true ∧ True))) ∧ (((v3.2 == (0 : Int)) = true → (v3.2 == (0 : Int)) = true) ∧ cond ((v3.2 == (0 : Int)) && ((ref04_Is.fn (v3.1,(x2,()))) != (v1.1 || v2.1))) (Q false) (((v5.2 == (0 : Int)) = true → ((v5.2 == (0 : Int)) = true ∧ ((v5.2 == (0 : Int)) = true ∧ ref04_Is.pre (v5.1,(x2,()))))) ∧ (((v5.2 == (0 : Int)) = true → ((v5.2 == (0 : Int)) = true ∧ True)) ∧ (((v5.2 == (0 : Int)) = true → ((v5.2 == (0 : Int)) = true ∧ (v1.1 = true → ((v5.2 == (0 : Int)) && v1.1) = true))) ∧ (((v5.2 == (0 : Int)) = true → ((v5.2 == (0 : Int)) = true ∧ ((v5.2 == (0 : Int)) = true ∧ True))) ∧ (((v5.2 == (0 : Int)) = true → (v5.2 == (0 : Int)) = true) ∧ cond ((v5.2 == (0 : Int)) && ((ref04_Is.fn (v5.1,(x2,()))) != (v1.1 && v2.1))) (Q false) (((v7.2 == (0 : Int)) = true → ((v7.2 == (0 : Int)) = true ∧ ((v7.2 == (0 : Int)) = true ∧ ref04_Is.pre (v7.1,(x2,()))))) ∧ (((v7.2 == (0 : Int)) = true → ((v7.2 == (0 : Int)) = true ∧ True)) ∧ ((((v7.2 == (0 : Int)) && v1.1) = true → (((v7.2 == (0 : Int)) && v1.1) = true ∧ True)) ∧ (((v7.2 == (0 : Int)) = true → ((v7.2 == (0 : Int)) = true ∧ (v1.1 = true → ((v7.2 == (0 : Int)) && v1.1) = true))) ∧ (((v7.2 == (0 : Int)) = true → ((v7.2 == (0 : Int)) = true ∧ ((v7.2 == (0 : Int)) = true ∧ True))) ∧ (((v7.2 == (0 : Int)) = true → (v7.2 == (0 : Int)) = true) ∧ cond ((v7.2 == (0 : Int)) && ((ref04_Is.fn (v7.1,(x2,()))) != (v1.1 && (!v2.1)))) (Q false) ((((set_Normal.fn (x0,())).2 == (0 : Int)) = true → (((set_Normal.fn (x0,())).2 == (0 : Int)) = true ∧ (((set_Normal.fn (x0,())).2 == (0 : Int)) = true ∧ ref04_Is.pre (((set_Normal.fn (x0,())).1),(x2,()))))) ∧ ((((set_Normal.fn (x0,())).2 == (0 : Int)) = true → (((set_Normal.fn (x0,())).2 == (0 : Int)) = true ∧ (((set_Normal.fn (x0,())).2 == (0 : Int)) = true ∧ True))) ∧ ((((set_Normal.fn (x0,())).2 == (0 : Int)) = true → ((set_Normal.fn (x0,())).2 == (0 : Int)) = true) ∧ cond (((set_Normal.fn (x0,())).2 == (0 : Int)) && ((ref04_Is.fn (((set_Normal.fn (x0,())).1),(x2,()))) != v1.1)) (Q false) ((decide ((0 : Int) ≤ x3) = true → (decide ((0 : Int) ≤ x3) = true ∧ True)) ∧ ((decide ((0 : Int) ≤ x3) = true → (decide ((0 : Int) ≤ x3) = true ∧ (decide ((0 : Int) ≤ x3) = true ∧ True))) ∧ ((decide ((0 : Int) ≤ x3) = true → decide ((0 : Int) ≤ x3) = true) ∧ cond (decide ((0 : Int) ≤ x3) && decide (x3 < ((List.length x2 : Nat) : Int))) (((0 : Int) ≤ x3 ∧ x3 < ((List.length x2 : Nat) : Int)) ∧ cond (v11.2 == (0 : Int)) ((true = true → (true = true ∧ (true = true ∧ ((0 : Int) ≤ x3 ∧ x3 ≤ ((List.length x2 : Nat) : Int))))) ∧ ((true = true → (true = true ∧ (((v12 + List.length v13) * 8) ≤ 140737488355328 ∧ (v12 + List.length v13) ≤ 9223372036854775807))) ∧ ((true = true → (true = true ∧ fits IntKind.i64 (x3 + (1 : Int)))) ∧ ((true = true → (true = true ∧ (true = true ∧ ((0 : Int) ≤ (x3 + (1 : Int)) ∧ (x3 + (1 : Int)) ≤ ((List.length x2 : Nat) : Int))))) ∧ ((true = true → (true = true ∧ (((v14 + v16) * 8) ≤ 140737488355328 ∧ (v14 + v16) ≤ 9223372036854775807))) ∧ ((true = true → (true = true ∧ ref04_Is.pre (v11.1,(((([] : List Int) ++ v13) ++ List.drop v15 x2),())))) ∧ ((true = true → (true = true ∧ (true = true ∧ True))) ∧ ((true = true → true = true) ∧ cond (true && ((ref04_Is.fn (v11.1,(((([] : List Int) ++ v13) ++ List.drop v15 x2),()))) != v1.1)) (Q false) (cond (v18.2 == (0 : Int)) ((((v12 + List.length x2) * 8) ≤ 140737488355328 ∧ (v12 + List.length x2) ≤ 9223372036854775807) ∧ (((0 : Int) ≤ x3 ∧ x3 < ((v19 : Nat) : Int)) ∧ (Int.toNat x3 < v19 ∧ (((0 : Int) ≤ x3 ∧ x3 ≤ ((List.length x2 : Nat) : Int)) ∧ ((((v12 + List.length v13) * 8) ≤ 140737488355328 ∧ (v12 + List.length v13) ≤ 9223372036854775807) ∧ (fits IntKind.i64 (x3 + (1 : Int)) ∧ (((0 : Int) ≤ (x3 + (1 : Int)) ∧ (x3 + (1 : Int)) ≤ ((List.length x2 : Nat) : Int)) ∧ ((((v14 + v16) * 8) ≤ 140737488355328 ∧ (v14 + v16) ≤ 9223372036854775807) ∧ (ref04_Is.pre (v18.1,(((([] : List Int) ++ v13) ++ List.drop v15 x2),())) ∧ (ref04_Is.pre (x0,(v20,())) ∧ cond (v21 != v22) (Q false) (Q (law04_awake.fn ())))))))))))) (Q (law04_awake.fn ()))))))))))) ((false = true → (false = true ∧ (false = true ∧ ((0 : Int) ≤ x3 ∧ x3 ≤ ((List.length x2 : Nat) : Int))))) ∧ ((false = true → (false = true ∧ fits IntKind.i64 (x3 + (1 : Int)))) ∧ ((false = true → (false = true ∧ (false = true ∧ ((0 : Int) ≤ (x3 + (1 : Int)) ∧ (x3 + (1 : Int)) ≤ ((List.length x2 : Nat) : Int))))) ∧ ((false = true → (false = true ∧ (false = true ∧ True))) ∧ ((false = true → false = true) ∧ cond (v18.2 == (0 : Int)) ((((v12 + List.length x2) * 8) ≤ 140737488355328 ∧ (v12 + List.length x2) ≤ 9223372036854775807) ∧ (((0 : Int) ≤ x3 ∧ x3 < ((v19 : Nat) : Int)) ∧ (Int.toNat x3 < v19 ∧ (((0 : Int) ≤ x3 ∧ x3 ≤ ((List.length x2 : Nat) : Int)) ∧ ((((v12 + List.length v13) * 8) ≤ 140737488355328 ∧ (v12 + List.length v13) ≤ 9223372036854775807) ∧ (fits IntKind.i64 (x3 + (1 : Int)) ∧ (((0 : Int) ≤ (x3 + (1 : Int)) ∧ (x3 + (1 : Int)) ≤ ((List.length x2 : Nat) : Int)) ∧ ((((v14 + v16) * 8) ≤ 140737488355328 ∧ (v14 + v16) ≤ 9223372036854775807) ∧ (ref04_Is.pre (v18.1,(((([] : List Int) ++ v13) ++ List.drop v15 x2),())) ∧ (ref04_Is.pre (x0,(v20,())) ∧ cond (v21 != v22) (Q false) (Q (law04_awake.fn ())))))))))))) (Q (law04_awake.fn ())))))))) (cond (v18.2 == (0 : Int)) ((((v12 + List.length x2) * 8) ≤ 140737488355328 ∧ (v12 + List.length x2) ≤ 9223372036854775807) ∧ (((0 : Int) ≤ x3 ∧ x3 < ((v19 : Nat) : Int)) ∧ (Int.toNat x3 < v19 ∧ (((0 : Int) ≤ x3 ∧ x3 ≤ ((List.length x2 : Nat) : Int)) ∧ ((((v12 + List.length v13) * 8) ≤ 140737488355328 ∧ (v12 + List.length v13) ≤ 9223372036854775807) ∧ (fits IntKind.i64 (x3 + (1 : Int)) ∧ (((0 : Int) ≤ (x3 + (1 : Int)) ∧ (x3 + (1 : Int)) ≤ ((List.length x2 : Nat) : Int)) ∧ ((((v14 + v16) * 8) ≤ 140737488355328 ∧ (v14 + v16) ≤ 9223372036854775807) ∧ (ref04_Is.pre (v18.1,(((([] : List Int) ++ v13) ++ List.drop v15 x2),())) ∧ (ref04_Is.pre (x0,(v20,())) ∧ cond (v21 != v22) (Q false) (Q (law04_awake.fn ())))))))))))) (Q (law04_awake.fn ())))))))))))))))))))))))))))
theorem dotL_set (v : Int) : ∀ (C x : List Int) (i : Nat),C.length = x.length → i < C.length → dotL C (x.set i v) = dotL (cutL C i) (cutL x i) + v * C.getD i 0
  | [],_,_,_,h => by simp at h
  | _ :: _,[],_,h,_ => by simp at h
  | c :: C,y :: x,0,_,_ => by simp [cutL,dotL,Int.mul_comm];omega
  | c :: C,y :: x,i + 1,h,h2 => by
    have ih := dotL_set v C x i (by simpa using h) (by simpa using h2)
    have e1 : cutL (c :: C) (i + 1) = c :: cutL C i := rfl
    have e2 : cutL (y :: x) (i + 1) = y :: cutL x i := rfl
    rw [e1,e2,List.set_cons_succ]
    simp only [dotL,List.getD_cons_succ,ih]
    omega
theorem fixC_in {c : Cond} {i : Nat} {v : Int} {x : List Int} (h : c.2.2.1.length = x.length) (hi : i < x.length) : isF (fixC i v c) (cutL x i) = isF c (x.set i v) := by
  have e : atC (fixC i v c) (cutL x i) = atC c (x.set i v) := by
    unfold atC
    rw [dotL_set v _ _ _ h (by omega)]
    show c.2.2.2 + v * c.2.2.1.getD i 0 + dotL (cutL c.2.2.1 i) (cutL x i) = _
    omega
  rw [isF_eq,isF_eq,e]
  rfl
theorem fix_in {p : List Cond} {i n : Nat} {v : Int} {x : List Int} (hd : dims p n) (hx : x.length = n) (hi : i < n) : inP (p.map (fixC i v)) (cutL x i) = inP p (x.set i v) := by
  unfold inP
  rw [List.all_map,Bool.eq_iff_iff,List.all_eq_true,List.all_eq_true]
  constructor
  · intro h c hc;rw [← fixC_in (by rw [hd c hc,hx]) (by omega)];exact h c hc
  · intro h c hc
    show isF (fixC i v c) (cutL x i) = true
    rw [fixC_in (by rw [hd c hc,hx]) (by omega)];exact h c hc
theorem fixF_in {s : PSet} {i v : Int} (h : (fixF s i v).2 = 0) : setValid s = true ∧ (0 ≤ i ∧ i < s.1 ∧ -4294967296 ≤ v ∧ v ≤ 4294967296) ∧ setValid (fixF s i v).1 = true ∧ (fixF s i v).1.1 = s.1 - 1 ∧ ∀ x : List Int,x.length = s.1.toNat → inS (fixF s i v).1.2 (cutL x i.toNat) = inS s.2 (x.set i.toNat v) := by
  have hnm := fixF_NmS h
  refine ⟨?_,?_,hnm.1,?_⟩
  · unfold fixF at h;split at h
    · cases h
    · rename_i hv;simpa using hv
  · unfold fixF at h;split at h
    · cases h
    · split at h
      · cases h
      · rename_i hb;omega
  · clear hnm
    unfold fixF at h ⊢
    split at h
    · cases h
    · rename_i hv
      split at h
      · cases h
      · rename_i hb
        rw [if_neg hv,if_neg hb]
        have hv : setValid s = true := by simpa using hv
        have hbb := setValid.b hv
        obtain ⟨out,h1,h2⟩ := ofTid_some h
        rw [h2]
        refine ⟨rfl,fun x hx => ?_⟩
        rw [tidL_in (n := s.1.toNat - 1) (cutL x i.toNat) (fun p hp => ?_) h1]
        · unfold inS
          rw [List.any_map,Bool.eq_iff_iff,List.any_eq_true,List.any_eq_true]
          have e : ∀ p ∈ s.2,inP (p.map (fixC i.toNat v)) (cutL x i.toNat) = inP p (x.set i.toNat v) := fun p hp => fix_in (setValid.D hv hp).2 hx (by omega)
          constructor
          · rintro ⟨p,hp,h⟩;exact ⟨p,hp,by rw [← e p hp];exact h⟩
          · rintro ⟨p,hp,h⟩;exact ⟨p,hp,by show inP (p.map (fixC i.toNat v)) (cutL x i.toNat) = true;rw [e p hp];exact h⟩
        · obtain ⟨q,hq,rfl⟩ := List.mem_map.1 hp
          have hm := setValid.piece hv hq
          exact ⟨fix_B hm.1 hm.2 (by omega),fix_dims (setValid.D hv hq).2 (by omega)⟩
theorem is_pre {s : PSet} {x : List Int} (hv : setValid s = true) (hl : x.length = s.1.toNat) (hc : x.all Coord = true) : ref04_Is.pre (s,(x,())) := PD_atOk (setValid_PDof hv) hl hc
theorem set_self {x : List Int} {i : Nat} : x.set i (x.getD i 0) = x := by
  apply List.ext_getElem?
  intro j
  rw [List.getElem?_set]
  split
  · rename_i e
    subst e
    by_cases h : i < x.length
    · simp [h,List.getD_eq_getElem?_getD]
    · simp [h]
  · rfl
theorem law04_SetPoints.spec (a b : PSet) (x : List Int) (i v : Int) : law04_SetPoints.wp a b x i v (fun r => r = true) := by
  unfold law04_SetPoints.wp
  intro v1 v2 v3 v5 v7 v11 v12 v13 v14 v15 v16 v18 v19 v20 v21 v22
  have ea : law04_awake.fn () = true := rfl
  cases law04_Few.fn ((12 : Int),((12 : Int),([a,b],()))) with
  | false => exact ea
  | true =>
    show _ ∧ _ ∧ _
    refine ⟨fun h => ⟨h,trivial⟩,fun h => by rw [h];rfl,?_⟩
    by_cases h1 : v1.2 = 0
    · by_cases h2 : v2.2 = 0
      · rw [h1,h2]
        show _ ∧ _
        obtain ⟨va,la,hc,ia⟩ := hasF_in (s := a) (x := x) h1
        obtain ⟨vb,lb,_,ib⟩ := hasF_in (s := b) (x := x) h2
        have ia : v1.1 = inS a.2 x := ia
        have ib : v2.1 = inS b.2 x := ib
        have hba := setValid.b va
        have pre : ∀ s : PSet,setValid s = true → s.1 = a.1 → ref04_Is.pre (s,(x,())) := fun s hv he => is_pre hv (by rw [he];exact la) hc
        have fin : cond (v18.2 == (0 : Int)) ((((v12 + List.length x) * 8) ≤ 140737488355328 ∧ (v12 + List.length x) ≤ 9223372036854775807) ∧ (((0 : Int) ≤ i ∧ i < ((v19 : Nat) : Int)) ∧ (Int.toNat i < v19 ∧ (((0 : Int) ≤ i ∧ i ≤ ((List.length x : Nat) : Int)) ∧ ((((v12 + List.length v13) * 8) ≤ 140737488355328 ∧ (v12 + List.length v13) ≤ 9223372036854775807) ∧ (fits IntKind.i64 (i + (1 : Int)) ∧ (((0 : Int) ≤ (i + (1 : Int)) ∧ (i + (1 : Int)) ≤ ((List.length x : Nat) : Int)) ∧ ((((v14 + v16) * 8) ≤ 140737488355328 ∧ (v14 + v16) ≤ 9223372036854775807) ∧ (ref04_Is.pre (v18.1,(((([] : List Int) ++ v13) ++ List.drop v15 x),())) ∧ (ref04_Is.pre (a,(v20,())) ∧ cond (v21 != v22) (false = true) (law04_awake.fn () = true))))))))))) (law04_awake.fn () = true) := by
          by_cases h : v18.2 = 0
          · obtain ⟨_,⟨hi0,hi1,hv0,hv1⟩,hsv,hd,hin⟩ := fixF_in (s := a) (i := i) (v := v) h
            obtain ⟨n,rfl⟩ : ∃ n : Nat,i = n := ⟨i.toNat,by omega⟩
            have hn : n < x.length := by omega
            have e15 : v15 = n + 1 := by show ((n : Int) + 1).toNat = _;omega
            have ecut : ((([] : List Int) ++ v13) ++ List.drop v15 x) = cutL x n := by rw [e15];rfl
            have eset : v20 = x.set n v := rfl
            have hlc : (cutL x n).length = v18.1.1.toNat := by
              rw [cutL_len hn]
              have : v18.1.1 = a.1 - 1 := hd
              rw [this];omega
            have hcc : (cutL x n).all Coord = true := by
              rw [List.all_eq_true] at hc ⊢
              exact fun m hm => hc m (cutL_mem hm)
            have hcs : (x.set n v).all Coord = true := by
              rw [List.all_eq_true] at hc ⊢
              intro m hm
              rcases List.mem_or_eq_of_mem_set hm with h | h
              · exact hc m h
              · subst h;simp only [Coord,Bool.and_eq_true,decide_eq_true_iff];omega
            have l1 : v13.length ≤ x.length := by show (List.take _ x).length ≤ _;rw [List.length_take];omega
            have l2 : v14 ≤ x.length := by show (([] : List Int) ++ v13).length ≤ _;simpa using l1
            have l3 : v16 ≤ x.length := by show (List.drop _ x).length ≤ _;rw [List.length_drop];omega
            have l4 : v12 = 0 := rfl
            have l5 : v19 = x.length := rfl
            rw [h]
            show _ ∧ _
            refine ⟨⟨by omega,by omega⟩,⟨by omega,by omega⟩,by rw [l5,Int.toNat_natCast];exact hn,⟨by omega,by omega⟩,⟨by omega,by omega⟩,⟨by omega,by omega⟩,⟨by omega,by omega⟩,⟨by omega,by omega⟩,?_,?_,?_⟩
            · rw [ecut];exact is_pre hsv hlc hcc
            · rw [eset];exact is_pre va (by rw [List.length_set];exact la) hcs
            · have e21 : v21 = inS v18.1.2 (cutL x n) := by show ref04_Is.fn (v18.1,(((([] : List Int) ++ v13) ++ List.drop v15 x),())) = _;rw [ecut];rfl
              have e22 : v22 = inS a.2 (x.set n v) := rfl
              have := hin x la
              rw [Int.toNat_natCast] at this
              have e : v21 = v22 := by rw [e21,e22];exact this
              rw [e]
              simp only [bne_self_eq_false,cond_false]
          · rw [beq_eq_false_iff_ne.2 h];exact ea
        have cU : ((v3.2 == (0 : Int)) && ((ref04_Is.fn (v3.1,(x,()))) != (v1.1 || v2.1))) = false := by
          by_cases h : v3.2 = 0
          · have e : ref04_Is.fn (v3.1,(x,())) = (v1.1 || v2.1) := by rw [ia,ib];exact (unionF_in x h).1
            rw [e];simp
          · rw [beq_eq_false_iff_ne.2 h];rfl
        have cM : ((v5.2 == (0 : Int)) && ((ref04_Is.fn (v5.1,(x,()))) != (v1.1 && v2.1))) = false := by
          by_cases h : v5.2 = 0
          · have e : ref04_Is.fn (v5.1,(x,())) = (v1.1 && v2.1) := by rw [ia,ib];exact (meetF_in x h).1
            rw [e];simp
          · rw [beq_eq_false_iff_ne.2 h];rfl
        have cX : ((v7.2 == (0 : Int)) && ((ref04_Is.fn (v7.1,(x,()))) != (v1.1 && (!v2.1)))) = false := by
          by_cases h : v7.2 = 0
          · have e : ref04_Is.fn (v7.1,(x,())) = (v1.1 && (!v2.1)) := by rw [ia,ib];exact (minusF_in (a := a) (b := b) h).2.2.2 x
            rw [e];simp
          · rw [beq_eq_false_iff_ne.2 h];rfl
        have cN : (((set_Normal.fn (a,())).2 == (0 : Int)) && ((ref04_Is.fn (((set_Normal.fn (a,())).1),(x,()))) != v1.1)) = false := by
          by_cases h : (set_Normal.fn (a,())).2 = 0
          · have e : ref04_Is.fn (((set_Normal.fn (a,())).1),(x,())) = v1.1 := by rw [ia];exact (normF_in x h).1
            rw [e];simp
          · rw [beq_eq_false_iff_ne.2 h];rfl
        have beq0 : ∀ n : Int,(n == 0) = true → n = 0 := fun n h => by simpa using h
        refine ⟨fun h => ⟨h,h,pre _ (unionF_NmS (beq0 _ h)).1 (unionF_in x (beq0 _ h)).2⟩,fun h => ⟨h,trivial⟩,fun h => ⟨h,fun e => by rw [h,e];rfl⟩,fun h => ⟨h,h,trivial⟩,fun h => h,?_⟩
        have hn := fun (h : (decide ((0 : Int) ≤ i) && decide (i < ((List.length x : Nat) : Int))) = true) => by
          have : (0 ≤ i ∧ i < (x.length : Int)) := by simpa using h
          exact this
        rw [cU]
        refine ⟨fun h => ⟨h,h,pre _ (meetF_NmS (beq0 _ h)).1 (meetF_in x (beq0 _ h)).2⟩,fun h => ⟨h,trivial⟩,fun h => ⟨h,fun e => by rw [h,e];rfl⟩,fun h => ⟨h,h,trivial⟩,fun h => h,?_⟩
        rw [cM]
        refine ⟨fun h => ⟨h,h,pre _ (minusF_NmS (beq0 _ h)).1 (minusF_in (a := a) (b := b) (beq0 _ h)).2.2.1⟩,fun h => ⟨h,trivial⟩,fun h => ⟨h,trivial⟩,fun h => ⟨h,fun e => by rw [h,e];rfl⟩,fun h => ⟨h,h,trivial⟩,fun h => h,?_⟩
        rw [cX]
        refine ⟨fun h => ⟨h,h,pre _ (normF_NmS (beq0 _ h)).1 (normF_in x (beq0 _ h)).2.1⟩,fun h => ⟨h,h,trivial⟩,fun h => h,?_⟩
        rw [cN]
        refine ⟨fun h => ⟨h,trivial⟩,fun h => ⟨h,h,trivial⟩,fun h => h,?_⟩
        cases hb : (decide ((0 : Int) ≤ i) && decide (i < ((List.length x : Nat) : Int))) with
        | false => exact fin
        | true =>
          obtain ⟨hi0,hi1⟩ := hn hb
          refine ⟨⟨hi0,hi1⟩,?_⟩
          by_cases h : v11.2 = 0
          · obtain ⟨_,_,hsv,hd,hin⟩ := fixF_in (s := a) (i := i) (v := x.getD i.toNat 0) h
            have hsv : setValid v11.1 = true := hsv
            have hd : v11.1.1 = a.1 - 1 := hd
            have hnl : i.toNat < x.length := by omega
            have e15 : v15 = i.toNat + 1 := by show (i + 1).toNat = _;omega
            have ecut : ((([] : List Int) ++ v13) ++ List.drop v15 x) = cutL x i.toNat := by rw [e15];rfl
            have hlc : (cutL x i.toNat).length = v11.1.1.toNat := by rw [cutL_len hnl,hd];omega
            have hcc : (cutL x i.toNat).all Coord = true := by
              rw [List.all_eq_true] at hc ⊢
              exact fun m hm => hc m (cutL_mem hm)
            have l1 : v13.length ≤ x.length := by show (List.take _ x).length ≤ _;rw [List.length_take];omega
            have l2 : v14 ≤ x.length := by show (([] : List Int) ++ v13).length ≤ _;simpa using l1
            have l3 : v16 ≤ x.length := by show (List.drop _ x).length ≤ _;rw [List.length_drop];omega
            have l4 : v12 = 0 := rfl
            have cF : (true && ((ref04_Is.fn (v11.1,(((([] : List Int) ++ v13) ++ List.drop v15 x),()))) != v1.1)) = false := by
              rw [ecut]
              have e : ref04_Is.fn (v11.1,(cutL x i.toNat,())) = v1.1 := by
                rw [ia]
                have := hin x la
                rw [set_self] at this
                exact this
              rw [e];simp
            rw [h]
            refine ⟨fun t => ⟨t,t,by omega,by omega⟩,fun t => ⟨t,by omega,by omega⟩,fun t => ⟨t,by constructor <;> omega⟩,fun t => ⟨t,t,by omega,by omega⟩,fun t => ⟨t,by omega,by omega⟩,fun t => ⟨t,?_⟩,fun t => ⟨t,t,trivial⟩,fun t => t,?_⟩
            · rw [ecut];exact is_pre hsv hlc hcc
            · rw [cF];exact fin
          · rw [beq_eq_false_iff_ne.2 h]
            exact ⟨fun t => (by cases t),fun t => (by cases t),fun t => (by cases t),fun t => (by cases t),fun t => t,fin⟩
      · rw [show ((v1.2 != (0 : Int)) || (v2.2 != (0 : Int))) = true by rw [bne_iff_ne.2 h2,Bool.or_true]];exact ea
    · rw [show ((v1.2 != (0 : Int)) || (v2.2 != (0 : Int))) = true by rw [bne_iff_ne.2 h1];rfl];exact ea
end Go.Proofs.YtldikbpclaeajaaGreatDoor
namespace Go.Proofs.YtldikbpclaeajaaGreatDoor
open Go Go.ChangeAt Go.ChangeShapes Go.RowKit Go.WideShapes
set_option linter.unusedVariables false
def Wf : (T : Ty) → T.den → Prop
  | .int k,n => (Lit.int k n).wf = true
  | .bool,_ => True
  | .str,s => ByteArray.size s ≤ maxLen
  | .sl T,l => List.length (α := T.den) l ≤ maxLen ∧ ∀ x ∈ (l : List T.den),Wf T x
  | .pair a b,x => Wf a x.1 ∧ Wf b x.2
  | .unit,_ => True
def FitTS (P : Program) (F : TypeId → Ty → Prop) : Nat → List Field → Ty → Prop
  | o,[f],T => f.offset = o ∧ P.cellsOf f.type = T.size ∧ F f.type T
  | o,f :: fs,.pair A B => f.offset = o ∧ P.cellsOf f.type = A.size ∧ F f.type A ∧ FitTS P F (o + A.size) fs B
  | _,_,_ => False
def FitT (P : Program) : Nat → TypeId → Ty → Prop
  | 0,_,_ => False
  | n + 1,t,T => (match T with
    | .int k => P.underlying t = some (.int k)
    | .bool => P.underlying t = some .bool
    | .str => P.underlying t = some .string
    | .sl T => ∃ e,P.underlying t = some (.slice e) ∧ P.cellsOf e = T.size ∧ 0 < T.size ∧ FitT P n e T
    | _ => False) ∨ ∃ fs,P.underlying t = some (.struct fs) ∧ P.cellsOf t = T.size ∧ FitTS P (FitT P n) 0 fs.toList T
section
variable {H : Type} {enc : TypeId × Value → H} {P : Program} {W : World} {held : Bool}
abbrev stab (W : World) : Nat → Prop := fun b => b < W.heap.size
theorem list_of {α : Type} {p : Nat → α → Prop} : ∀ n : Nat,(∀ i,i < n → ∃ y,p i y) → ∃ l : List α,l.length = n ∧ ∀ i y,l[i]? = some y → p i y
  | 0,_ => ⟨[],rfl,fun i y h => by simp at h⟩
  | n + 1,h => by
    obtain ⟨l,hl,hp⟩ := list_of n fun i hi => h i (by omega)
    obtain ⟨y,hy⟩ := h n (by omega)
    refine ⟨l ++ [y],by simp [hl],fun i z hz => ?_⟩
    by_cases e : i < l.length
    · rw [List.getElem?_append_left e] at hz;exact hp i z hz
    · rw [List.getElem?_append_right (by omega)] at hz
      have : i = l.length := by
        have := (List.getElem?_eq_some_iff.1 hz).1
        simp at this;omega
      subst this
      simp at hz
      subst hz
      rw [hl];exact hy
theorem openS {F : TypeId → Ty → Prop} {m : Nat} (hF : ∀ t T, F t T → ∀ cs x, DataW.trod enc P W 0 (fun _ => true) held m t cs = some x → ∃ y : T.den, Cells W (stab W) T y cs ∧ Wf T y) :
    ∀ {fs : List Field} {o : Nat} {T : Ty} {cs : List Value},FitTS P F o fs T → (∀ f ∈ fs,∃ x,DataW.trod enc P W 0 (fun _ => true) held m f.type ((cs.drop f.offset).take (P.cellsOf f.type)) = some x) → cs.length = o + T.size →
      ∃ y : T.den,Cells W (stab W) T y (cs.drop o) ∧ Wf T y
  | [],o,T,cs,h,_,_ => by unfold FitTS at h;exact h.elim
  | [f],o,T,cs,h,hx,hl => by
    have h' : f.offset = o ∧ P.cellsOf f.type = T.size ∧ F f.type T := by unfold FitTS at h;exact h
    obtain ⟨h1,h2,h3⟩ := h'
    obtain ⟨x,hx⟩ := hx f (by simp)
    rw [h1,h2,List.take_of_length_le (by rw [List.length_drop];omega)] at hx
    exact hF _ _ h3 _ _ hx
  | f :: g :: fs,o,T,cs,h,hx,hl => by
    cases T <;> unfold FitTS at h <;> try exact h.elim
    rename_i A B
    obtain ⟨h1,h2,h3,h4⟩ := h
    have hl' : cs.length = o + A.size + B.size := by rw [hl];simp only [Ty.size];omega
    obtain ⟨b,hb,hwb⟩ := openS hF (cs := cs) h4 (fun f hf => hx f (by simp [List.mem_cons.1 hf])) hl'
    obtain ⟨x,hx⟩ := hx f (by simp)
    rw [h1,h2] at hx
    obtain ⟨a,ha,hwa⟩ := hF _ _ h3 _ _ hx
    refine ⟨(a,b),⟨_,_,?_,ha,hb⟩,hwa,hwb⟩
    rw [← List.drop_drop,List.take_append_drop]
theorem cells_at {base : Nat} {a : Addr} {n : Nat} {cs : List Value} (h : W.cells? base a n = some cs) (hn : 0 < n) : a.spot = none ∧ a.block < W.heap.size ∧ cs.length = n ∧ ∀ j u,cs[j]? = some u → W.cell? ⟨a.block,a.off + j,none⟩ = some u := by
  obtain ⟨_,hl,hc⟩ := World.cells?_some h
  have h0 := hc 0 hn
  rw [List.getElem?_eq_getElem (by omega : 0 < cs.length)] at h0
  simp only [Addr.add,if_true,World.cell?] at h0
  have hs : a.spot = none ∧ a.block < W.heap.size := by
    split at h0
    · rename_i hb
      refine ⟨?_,(Array.getElem?_eq_some_iff.1 hb).1⟩
      split at h0
      · cases h0
      · rename_i hs;simpa using hs
    · cases h0
  refine ⟨hs.1,hs.2,hl,fun j u hj => ?_⟩
  have hjl : j < n := by rw [← hl];exact (List.getElem?_eq_some_iff.1 hj).1
  rw [← hj,← hc j hjl]
  obtain ⟨b,off,sp⟩ := a
  simp only at hs
  rw [hs.1]
  unfold Addr.add
  split
  · rename_i e;subst e;rfl
  · rfl
theorem open_T : ∀ (n : Nat) {t : TypeId} {T : Ty},FitT P n t T → ∀ (fuel : Nat) (cs : List Value) (x : DataW H × List MemPlace),DataW.trod enc P W 0 (fun _ => true) held fuel t cs = some x → ∃ y : T.den,Cells W (stab W) T y cs ∧ Wf T y
  | 0,_,_,h,_,_,_,_ => h.elim
  | n + 1,t,T,h,fuel,cs,x,hx => by
    unfold FitT at h
    rcases h with h | ⟨fs,h1,h2,h3⟩
    · cases T with
      | int k =>
        obtain ⟨z,rfl,_,hw⟩ := DataW.trod_int h hx
        exact ⟨z,rfl,hw⟩
      | bool =>
        obtain ⟨z,rfl,_⟩ := DataW.trod_bool h hx
        exact ⟨z,rfl,trivial⟩
      | str =>
        obtain ⟨z,rfl,_,hw⟩ := DataW.trod_string h hx
        exact ⟨z,rfl,hw⟩
      | sl T =>
        obtain ⟨e,h1,h2,h3,h4⟩ := h
        rcases DataW.trod_slice h1 hx with ⟨rfl,_⟩ | ⟨a,len,cap,elems,rest,m,_,rfl,_,_,hl,hm,hlen,hel,_,_⟩
        · exact ⟨[],⟨none,0,rfl,⟨Nat.le_refl _,Nat.zero_le _⟩,fun h => absurd rfl h⟩,Nat.zero_le _,fun x hx => by cases hx⟩
        · have each : ∀ i,i < len → ∃ y : T.den,(a.block < W.heap.size ∧ (len ≠ 0 → a.spot = none) ∧ ∃ cs',Cells W (stab W) T y cs' ∧ ∀ j u,cs'[j]? = some u → W.cell? ⟨a.block,a.off + i * T.size + j,none⟩ = some u) ∧ Wf T y := by
            intro i hi
            have h5 := hel i hi
            rw [List.getElem?_eq_getElem (by omega : i < elems.length),Option.bind_eq_some_iff] at h5
            obtain ⟨cs',h6,h7⟩ := h5
            rw [h2] at h6
            obtain ⟨y,hy,hw⟩ := open_T n h4 _ _ _ h7
            obtain ⟨k1,k2,k3,k4⟩ := cells_at h6 h3
            have hb : (a.add (i * T.size)).block = a.block := by unfold Addr.add;split <;> rfl
            have ho : (a.add (i * T.size)).off = a.off + i * T.size := by
              unfold Addr.add
              split
              · rename_i e;rw [e];rfl
              · rfl
            rw [hb,ho] at k4
            rw [hb] at k2
            refine ⟨y,⟨k2,fun _ => ?_,cs',hy,k4⟩,hw⟩
            have h50 := hel 0 (by omega)
            rw [List.getElem?_eq_getElem (by omega : 0 < elems.length),Option.bind_eq_some_iff] at h50
            obtain ⟨cs0,h60,_⟩ := h50
            rw [h2] at h60
            have := (cells_at h60 h3).1
            simpa [Addr.add] using this
          obtain ⟨l,hll,hlp⟩ := list_of len each
          refine ⟨l,⟨some a,cap,by rw [hll],⟨by rw [hll];exact hl,hm⟩,fun hne => ?_⟩,by show l.length ≤ maxLen;omega,fun y hy => ?_⟩
          · have hpos : 0 < len := by rw [← hll];exact List.length_pos_iff.2 hne
            obtain ⟨y0,⟨hb,hs,_⟩,_⟩ := each 0 hpos
            refine ⟨a.block,a.off,?_,hb,fun i x hi => ?_⟩
            · have := hs (by omega)
              obtain ⟨b,off,sp⟩ := a
              simp only at this
              rw [this]
            · obtain ⟨⟨_,_,cs',h8,h9⟩,_⟩ := hlp i x hi
              exact ⟨cs',h8,h9⟩
          · obtain ⟨i,hi⟩ := List.getElem?_of_mem hy
            exact (hlp i y hi).2
      | pair a b => exact h.elim
      | unit => exact h.elim
    · obtain ⟨xs,m,rfl,_,h4,h5,h6⟩ := DataW.trod_struct h1 hx
      have := openS (m := m) (fun t T hF cs x hx => open_T n hF m cs x hx) (cs := cs) h3 (fun f hf => by
        obtain ⟨i,hi⟩ := List.getElem?_of_mem hf
        have hi' : fs[i]? = some f := by simpa using hi
        have := h6 i f hi'
        have hlt : i < xs.length := by rw [h5];exact (Array.getElem?_eq_some_iff.1 hi').1
        exact ⟨xs[i],by rw [this,List.getElem?_eq_getElem hlt]⟩) (by rw [Nat.zero_add,h4,h2])
      simpa using this
def isPlain : Ty → Bool
  | .pair _ _ => false
  | _ => true
def envOf (W : World) : Env := ⟨W,stab W,fun _ => none⟩
theorem one_slice {r : Reach} {base : Nat} {t e : TypeId} {v : Value} (ht : P.underlying t = some (.slice e)) (h : Value.okWide P W r base t v) : v.cells = #[v] := by obtain ⟨a,l,c,rfl⟩ := okWide_slice ht h;rfl
theorem one_int {r : Reach} {base : Nat} {t : TypeId} {k : IntKind} {v : Value} (ht : P.underlying t = some (.int k)) (h : Value.okWide P W r base t v) : v.cells = #[v] := by obtain ⟨a,rfl⟩ := okWide_int ht h;rfl
theorem one_bool {r : Reach} {base : Nat} {t : TypeId} {v : Value} (ht : P.underlying t = some .bool) (h : Value.okWide P W r base t v) : v.cells = #[v] := by obtain ⟨a,rfl⟩ := okWide_bool ht h;rfl
theorem one_string {r : Reach} {base : Nat} {t : TypeId} {v : Value} (ht : P.underlying t = some .string) (h : Value.okWide P W r base t v) : v.cells = #[v] := by obtain ⟨a,rfl⟩ := okWide_string ht h;rfl
theorem arg_plain {n : Nat} {t : TypeId} {T : Ty} {v : Value} {d : DataW H} {p : List MemPlace} (hf : FitT P n t T) (hp : isPlain T = true) (h : DataW.Trod enc P W 0 (fun _ => true) held t v d p) (hv : v.cells = #[v]) : ∃ y : T.den,Rep P (envOf W) (argV T y) v ∧ Wf T y := by
  obtain ⟨fuel,h⟩ := h
  rw [hv] at h
  obtain ⟨y,hy,hw⟩ := open_T n hf _ _ _ h
  refine ⟨y,?_,hw⟩
  cases T <;> first | exact .d hy | (cases hp;done)
theorem arg_agg {n : Nat} {t : TypeId} {a b : Ty} {v : Value} {d : DataW H} {p : List MemPlace} (hf : FitT P n t (.pair a b)) (h : DataW.Trod enc P W 0 (fun _ => true) held t v d p) {fs : Array Field} {r : Reach} {base : Nat} (ht : P.underlying t = some (.struct fs)) (hk : Value.okWide P W r base t v) :
    ∃ y : (Ty.pair a b).den,Rep P (envOf W) (argV (.pair a b) y) v ∧ Wf (.pair a b) y := by
  obtain ⟨cs,rfl,_⟩ := okWide_struct ht hk
  obtain ⟨fuel,h⟩ := h
  obtain ⟨y,hy,hw⟩ := open_T n hf _ _ _ h
  have hr := flat_rep (P := P) (E := envOf W) hy
  refine ⟨y,.agg ?_ fun j hj => ?_,hw⟩
  · have := hr.1;simpa [Value.cells] using this
  · have := hr.2 j hj
    simpa [Value.cells,Array.getD_eq_getD_getElem?,List.getD_eq_getElem?_getD] using this
theorem sok_of {g : Nat} (hg : P.globalNamed "internal/strconv.uint64pow10" = some g) (h : Lib.TabIs P W "internal/strconv.uint64pow10" .u64 Lib.pow10Tab) : Sok P W (stab W) := by
  refine ⟨fun b hb => hb,g,?_,fun w' hw' => ?_⟩
  · unfold Lib.TabIs World.var? at h
    rw [hg] at h
    simp only [Option.bind_some] at h
    split at h
    · rename_i hb;exact (Array.getElem?_eq_some_iff.1 hb).1
    · cases h
  · unfold Lib.TabIs World.var? at h ⊢
    rw [hg] at h ⊢
    simp only [Option.bind_some] at h ⊢
    rw [hw'];exact h
theorem law_calls {τ : TyTab} (hτ : TabOk P τ) {run : RunT} (hrun : RunOk P run) {A : An} {f : FuncId} {fi : FI} (hok : fi.Ok P f) {ps : List PS} {xs : denPS ps} {C : Prop} (hw : C = fnW τ run A fi ps [.bool] xs fun r => r = true) (h : C) (hS : Sok P W (stab W)) {args : Array Value} (hr : Reps P (envOf W) (toVs ps xs) args.toList) :
    Calls P f args W fun e w' => e = .returned (.bool true) ∧ Below W.heap.size W w' := by
  subst hw
  refine (fnW_calls hτ hrun hok h hS hr).mono ?_
  rintro e w' ⟨v,S2,r,rfl,hg,hv,rfl⟩
  have hv' : Rep P ⟨w',S2,fun _ => none⟩ (.d .bool true) v := hv
  refine ⟨?_,hg.os,hg.tape,hg.output,hg.size,fun k hk => hg.frame k hk⟩
  cases hv' with | d h => rw [(List.cons.inj (show [v] = [Value.bool true] from h)).1]
end
end Go.Proofs.YtldikbpclaeajaaGreatDoor
