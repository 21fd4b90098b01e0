/- Part of a proof that a law of the program holds for every input: what the functions answer, in plain Lean. No conditions. -/
import Derived.Below
import Derived.Carry
import Derived.ChangeOld
import Derived.LaidMore
import Derived.Lib.LaidTab
import Derived.OpenShut
import Derived.ProofKit
import Derived.ShutString
import Derived.SizedLaws
import Derived.Stop.Joined
import Derived.WalkKit
import Derived.Test.YtldikbpclaeajaaGreatDoorP13
namespace Go.Proofs.YtldikbpclaeajaaGreatDoor
open Go
set_option linter.unusedVariables false
theorem set_Where_1.spec (c : Cond) : set_Where_1.wp c (fun r => r = set_Where_1.fn (c,())) := rfl
theorem append_B {p q : List Cond} (hp : pieceB p) (hq : pieceB q) (h1 : p.length ≤ 96) (h2 : q.length ≤ 4096) : pieceB (p ++ q) := ⟨by rw [List.length_append];omega,fun c hc => (List.mem_append.1 hc).elim (hp.2 c) (hq.2 c)⟩
theorem getD_map {α β : Type} {l : List α} {f : α → β} {d : α} {e : β} {i : Nat} (h : i < l.length) : (l.map f).getD i e = f (l.getD i d) := by
  simp [List.getD_eq_getElem?_getD,h]
theorem set_Narrow.spec (s : PSet) (l : List Cond) (hp : set_Narrow.pre (s,l,())) : set_Narrow.wp s l (fun r => r = set_Narrow.fn (s,l,())) := by
  obtain ⟨hv,hB,hl4⟩ := hp
  simp only at hv hB hl4
  have hfn : set_Narrow.fn (s,l,()) = ofTid s.1 ((s.2.map (· ++ l)).foldlM tidStep []) := rfl
  have hcat : ∀ p : List Cond,slices_Concat_Sapi_Cond_api_Cond.fn ([p,l],()) = p ++ l := fun p => by simp [slices_Concat_Sapi_Cond_api_Cond.fn]
  simp only [set_Narrow.wp,hfn,hcat]
  have hlen := (setValid.b hv).2.2.1
  have hml : (s.2.map (· ++ l)).length = s.2.length := by simp
  have key := Lp.tid (s.2.map (· ++ l)) [] _ Known.nil (by simp) (by omega) (body := fun y3 R3 => let v0 := List.getD s.2 (Int.toNat y3.1) ([] : List (Cond));cond (decide (y3.1 < ((List.length s.2 : Nat) : Int))) (((0 : Int) ≤ y3.1 ∧ y3.1 < ((List.length s.2 : Nat) : Int)) ∧ (slices_Concat_Sapi_Cond_api_Cond.pre ([v0,l],()) ∧ (set_Tidy.pre (v0 ++ l,()) ∧ cond (((set_Tidy.fn (v0 ++ l,())).2).2 != (0 : Int)) (cond (((set_Tidy.fn (v0 ++ l,())).2).2 != (0 : Int)) ((((0 : Int),([] : List (List (Cond)))),((set_Tidy.fn (v0 ++ l,())).2).2) = ofTid s.1 ((s.2.map (· ++ l)).foldlM tidStep [])) (((s.1,([] : List (List (Cond)))),(0 : Int)) = ofTid s.1 ((s.2.map (· ++ l)).foldlM tidStep []))) (((!(((set_Tidy.fn (v0 ++ l,())).2).1)) = true → ((!(((set_Tidy.fn (v0 ++ l,())).2).1)) = true ∧ set_Name.pre ((set_Tidy.fn (v0 ++ l,())).1,()))) ∧ (((!(((set_Tidy.fn (v0 ++ l,())).2).1)) = true → ((!(((set_Tidy.fn (v0 ++ l,())).2).1)) = true ∧ ((!(((set_Tidy.fn (v0 ++ l,())).2).1)) = true ∧ True))) ∧ ((((set_Tidy.fn (v0 ++ l,())).2).1 = false → (!(((set_Tidy.fn (v0 ++ l,())).2).1)) = true) ∧ cond (((set_Tidy.fn (v0 ++ l,())).2).1 || (Option.getD (y3.2.2 (set_Name.fn ((set_Tidy.fn (v0 ++ l,())).1,()))) false)) (fits IntKind.i64 (y3.1 + (1 : Int)) ∧ R3 ((y3.1 + (1 : Int)),y3.2)) (set_Name.pre ((set_Tidy.fn (v0 ++ l,())).1,()) ∧ ((((List.length y3.2.1 + List.length [(set_Tidy.fn (v0 ++ l,())).1]) * 24) ≤ 140737488355328 ∧ (List.length y3.2.1 + List.length [(set_Tidy.fn (v0 ++ l,())).1]) ≤ 9223372036854775807) ∧ cond (decide ((400 : Int) < (((List.length (y3.2.1 ++ [(set_Tidy.fn (v0 ++ l,())).1])) : Nat) : Int))) ((((0 : Int),([] : List (List (Cond)))),(3 : Int)) = ofTid s.1 ((s.2.map (· ++ l)).foldlM tidStep [])) (fits IntKind.i64 (y3.1 + (1 : Int)) ∧ R3 ((y3.1 + (1 : Int)),((y3.2.1 ++ [(set_Tidy.fn (v0 ++ l,())).1]),mput y3.2.2 (set_Name.fn ((set_Tidy.fn (v0 ++ l,())).1,())) true))))))))))) (((s.1,y3.2.1),(0 : Int)) = ofTid s.1 ((s.2.map (· ++ l)).foldlM tidStep [])))
    (fun i out m R e e2 hf hk hl h1 h2 h3 => by
      rw [hml] at e e2
      rw [getD_map (d := []) e] at h1 h2 h3
      have hm := setValid.piece hv (getD_memL (d := []) e)
      simp only [decide_eq_true e2,Int.toNat_natCast,cond_true]
      refine ⟨⟨by omega,by omega⟩,⟨by simp,by simp only [List.flatten_cons,List.flatten_nil,List.append_nil,List.length_append];omega⟩,tid_body (append_B (setValid.B hv (getD_memL e)) hB hm.1 hl4) hk hl (fun h4 hn => ?_) (fun hs => ⟨hf,h1 hs⟩) (fun hn => ?_) (fun hs => ⟨hf,h2 hs⟩)⟩
      · simp only [set_Tidy.fn,h4,show ((3 : Int) != 0) = true from rfl,cond_true]
        rw [h3 hn];rfl
      · rw [h3 hn];rfl)
    (fun out m R ht hk hl => by
      simp only [hml,Int.lt_irrefl,decide_false,cond_false]
      rw [ht];rfl)
  exact key
theorem any_false {l : List Cond} {f : Cond → Bool} (h : l.any f = false) : ∀ c ∈ l,f c = false := fun c hc => by
  rw [List.any_eq_false] at h;simpa using h c hc
theorem set_Where.spec (s : PSet) (l : List Cond) (hp : set_Where.pre (s,l,())) : set_Where.wp s l (fun r => r = set_Where.fn (s,l,())) := by
  have hfn : set_Where.fn (s,l,()) = whereF s l := rfl
  simp only [set_Where.wp,set_Valid.fn,set_over.fn,hfn,slices_ContainsFunc_Sapi_Cond_api_Cond.fn,set_Where_1.fn,set_Narrow.fn]
  unfold whereF
  cases hv : setValid s with
  | false => simp
  | true =>
    simp only [Bool.not_true,Bool.not_false,Bool.false_or,true_and,forall_const]
    refine ⟨fun c hc => trivial,?_⟩
    cases ha : l.any (fun c => !condValid c) with
    | true => simp
    | false =>
      simp only [cond_false]
      cases ho : overF l s.1 with
      | false => simp
      | true =>
        simp only [Bool.not_true,cond_false]
        have hl : l.length ≤ 4096 := hp
        refine ⟨⟨hv,⟨by show l.length ≤ 1048576;omega,fun c hc => condValid.condB (by simpa using any_false ha c hc)⟩,hl⟩,?_⟩
        simp
theorem over_dims {l : List Cond} {n : Int} (h : overF l n = true) (hn : 0 ≤ n) : ∀ c ∈ l,condValid c = true ∧ c.2.2.1.length = n.toNat := fun c hc => by
  simp only [overF,List.all_eq_true,Bool.and_eq_true,beq_iff_eq] at h
  obtain ⟨h1,h2⟩ := h c hc
  exact ⟨h1,by omega⟩
theorem ref04_Where.spec (s : PSet) (l : List Cond) (hp : ref04_Where.pre (s,l,())) : ref04_Where.wp s l (fun r => r = ref04_Where.fn (s,l,())) := by
  have hl : l.length ≤ 4096 := hp
  have hfn : ref04_Where.fn (s,l,()) = whereF s l := rfl
  simp only [ref04_Where.wp,hfn,ref03_Valid.fn,ref04_Valid.fn,ref04_And.fn,ref04_Made.fn]
  refine Lp.iter l.length (fun i z => (∀ c ∈ l.take i,condValid c = true) ∧ z = ((i : Int),if (l.take i).all (fun c => ((c.2.2.1.length : Int) == s.1)) then 0 else 2)) ⟨by simp,by simp⟩ ?_
  rintro i z hle ⟨hval,rfl⟩ R hR
  by_cases e : i < l.length
  · simp only [decide_eq_true (show (i : Int) < (l.length : Int) by omega),Int.toNat_natCast,cond_true]
    refine ⟨⟨by omega,by omega⟩,?_⟩
    have ht := take_succ_getD dCond e
    cases hc : condValid (l.getD i dCond) with
    | false =>
      have ha : (l.any fun c => !condValid c) = true := List.any_eq_true.2 ⟨_,getD_memL e,by rw [hc];rfl⟩
      simp [whereF,ha]
    | true =>
      have hval' : ∀ c ∈ l.take (i + 1),condValid c = true := fun c hcm => by
        rw [ht] at hcm
        rcases List.mem_append.1 hcm with h | h
        · exact hval c h
        · simp only [List.mem_singleton] at h;subst h;exact hc
      simp only [Bool.not_true,cond_false]
      have e1 : ([l.getD i dCond].all fun c => ((c.2.2.1.length : Int) == s.1)) = (((l.getD i dCond).2.2.1.length : Int) == s.1) := by simp only [List.all_cons,List.all_nil,Bool.and_true]
      by_cases hd : ((l.getD i dCond).2.2.1.length : Int) = s.1
      · rw [show (((l.getD i dCond).2.2.1.length : Int) != s.1) = false by rw [hd];simp]
        simp only [cond_false]
        refine ⟨⟨by omega,by omega⟩,hR e _ ⟨hval',?_⟩⟩
        rw [ht,List.all_append,e1,beq_iff_eq.2 hd,Bool.and_true];rfl
      · rw [bne_iff_ne.2 hd]
        simp only [cond_true]
        refine ⟨⟨by omega,by omega⟩,hR e _ ⟨hval',?_⟩⟩
        rw [ht,List.all_append,e1,beq_eq_false_iff_ne.2 hd,Bool.and_false];rfl
  · have : i = l.length := by omega
    subst this
    rw [List.take_length] at hval
    have ha : (l.any fun c => !condValid c) = false := by rw [List.any_eq_false];intro c hc;simp [hval c hc]
    simp only [Int.lt_irrefl,decide_false,cond_false,List.take_length]
    cases hv : setValid s with
    | false => simp [whereF,hv]
    | true =>
      simp only [Bool.not_true,cond_false]
      have ho : overF l s.1 = l.all fun c => ((c.2.2.1.length : Int) == s.1) := by
        unfold overF
        rw [Bool.eq_iff_iff,List.all_eq_true,List.all_eq_true]
        constructor
        · intro h c hc;have := h c hc;rw [Bool.and_eq_true] at this;exact this.2
        · intro h c hc;rw [hval c hc,h c hc];rfl
      cases hall : l.all fun c => ((c.2.2.1.length : Int) == s.1) with
      | false => simp [whereF,hv,ha,ho,hall]
      | true =>
        simp only [if_true,bne_self_eq_false,cond_false]
        have hwf : whereF s l = ofTid s.1 (tidL (s.2.map (· ++ l))) := by simp [whereF,hv,ha,ho,hall,narrowF]
        have hlen := (setValid.b hv).2.2.1
        have hod := over_dims (ho.trans hall) (setValid.b hv).1
        refine Lp.iter s.2.length (fun j z => z = ((j : Int),(s.2.take j).map (· ++ l))) (by simp) ?_
        rintro j z hj rfl R2 hR2
        by_cases e2 : j < s.2.length
        · simp only [decide_eq_true (show (j : Int) < (s.2.length : Int) by omega),Int.toNat_natCast,cond_true]
          have hm := setValid.piece hv (getD_memL (d := []) e2)
          refine ⟨⟨by omega,by omega⟩,⟨by show (s.2.getD j []).length ≤ _;omega,by show l.length ≤ _;omega⟩,⟨by simp only [List.length_map,List.length_take,List.length_cons,List.length_nil];omega,by simp only [List.length_map,List.length_take,List.length_cons,List.length_nil];omega⟩,⟨by omega,by omega⟩,hR2 e2 _ ?_⟩
          rw [take_succ_getD [] e2,List.map_append];rfl
        · have : j = s.2.length := by omega
          subst this
          simp only [Int.lt_irrefl,decide_false,cond_false,List.take_length]
          refine ⟨⟨by simp only [List.length_map];omega,fun p hp2 => ?_⟩,by rw [hwf]⟩
          obtain ⟨q,hq,rfl⟩ := List.mem_map.1 hp2
          have hm := setValid.piece hv hq
          refine ⟨append_B (setValid.B hv hq) ⟨by omega,fun c hc => condValid.condB (hod c hc).1⟩ hm.1 hl,s.1.toNat,fun c hc => ?_⟩
          rcases List.mem_append.1 hc with h | h
          · exact (setValid.D hv hq).2 c h
          · exact (hod c h).2
theorem cutL_len {C : List Int} {i : Nat} (h : i < C.length) : (cutL C i).length = C.length - 1 := by unfold cutL;simp;omega
theorem cutL_mem {C : List Int} {i : Nat} {n : Int} (h : n ∈ cutL C i) : n ∈ C := by
  unfold cutL at h
  rcases List.mem_append.1 h with h | h
  · exact List.mem_of_mem_take h
  · exact List.mem_of_mem_drop h
theorem getD_in {C : List Int} {i : Nat} {P : Int → Prop} (h : ∀ n ∈ C,P n) (h0 : P 0) : P (C.getD i 0) := by
  by_cases e : i < C.length
  · exact h _ (getD_memL e)
  · rw [List.getD_eq_getElem?_getD,List.getElem?_eq_none (by omega)];exact h0
theorem mul_b {a v : Int} (ha : -1048576 ≤ a ∧ a ≤ 1048576) (hv : -4294967296 ≤ v ∧ v ≤ 4294967296) : -4503599627370496 ≤ v * a ∧ v * a ≤ 4503599627370496 := by
  have h1 : (v * a).natAbs ≤ 4294967296 * 1048576 := by rw [Int.natAbs_mul];exact Nat.mul_le_mul (by omega) (by omega)
  omega
theorem fixC_B {c : Cond} {i : Nat} {v : Int} (h : condValid c = true) (hv : -4294967296 ≤ v ∧ v ≤ 4294967296) : condB (fixC i v c) ∧ (-4503599628419072 ≤ c.2.2.2 + v * c.2.2.1.getD i 0 ∧ c.2.2.2 + v * c.2.2.1.getD i 0 ≤ 4503599628419072) := by
  have hl := linValid.b (condValid.lin h)
  have hk := condValid.kind h
  have hm := mul_b (a := c.2.2.1.getD i 0) (getD_in (P := fun n => -1048576 ≤ n ∧ n ≤ 1048576) hl.2.1 (by omega)) hv
  have hK : -4503599628419072 ≤ c.2.2.2 + v * c.2.2.1.getD i 0 ∧ c.2.2.2 + v * c.2.2.1.getD i 0 ≤ 4503599628419072 := by omega
  refine ⟨⟨?_,?_,fun n hn => ?_,?_⟩,hK⟩
  · rcases hk with ⟨h,_⟩ | ⟨h,_⟩ | ⟨h,h1,h2⟩
    · exact .inl h
    · exact .inr (.inl h)
    · exact .inr (.inr ⟨h,h1,by show c.2.1 ≤ _;omega⟩)
  · have : (cutL c.2.2.1 i).length ≤ c.2.2.1.length := by unfold cutL;simp;omega
    show (cutL c.2.2.1 i).length ≤ _;omega
  · have := hl.2.1 n (cutL_mem hn);unfold intB;omega
  · show intB (c.2.2.2 + v * c.2.2.1.getD i 0);unfold intB;omega
theorem fix_B {p : List Cond} {i : Nat} {v : Int} (h : p.length ≤ 96) (hv : ∀ c ∈ p,condValid c = true) (hb : -4294967296 ≤ v ∧ v ≤ 4294967296) : pieceB (p.map (fixC i v)) := ⟨by rw [List.length_map];omega,fun c hc => by
  obtain ⟨d,hd,rfl⟩ := List.mem_map.1 hc
  exact (fixC_B (hv d hd) hb).1⟩
theorem fix_dims {p : List Cond} {i n : Nat} {v : Int} (h : dims p n) (hi : i < n) : dims (p.map (fixC i v)) (n - 1) := fun c hc => by
  obtain ⟨d,hd,rfl⟩ := List.mem_map.1 hc
  show (cutL d.2.2.1 i).length = _
  rw [cutL_len (by rw [h d hd];exact hi),h d hd]
theorem fixF_err (s : PSet) (i v : Int) (hv : setValid s = true) (h : i < 0 ∨ s.1 ≤ i ∨ v < -4294967296 ∨ 4294967296 < v) : fixF s i v = ((0,[]),6) := by
  unfold fixF;rw [if_neg (by rw [hv];simp),if_pos h]
theorem fixF_ok (s : PSet) (i v : Int) (hv : setValid s = true) (h : ¬ (i < 0 ∨ s.1 ≤ i ∨ v < -4294967296 ∨ 4294967296 < v)) : fixF s i v = ofTid (s.1 - 1) (tidL (s.2.map fun p => p.map (fixC i.toNat v))) := by
  unfold fixF;rw [if_neg (by rw [hv];simp),if_neg h]
theorem set_Fix.spec (s : PSet) (i v : Int) : set_Fix.wp s i v (fun r => r = set_Fix.fn (s,i,v,())) := by
  have hfn : set_Fix.fn (s,i,v,()) = fixF s i v := rfl
  simp only [set_Fix.wp,set_Valid.fn,hfn]
  cases hv : setValid s with
  | false => simp [fixF,hv]
  | true =>
    simp only [Bool.not_true,cond_false]
    obtain ⟨hd0,hd1,hlen,_⟩ := setValid.b hv
    by_cases hbad : i < 0 ∨ s.1 ≤ i ∨ v < -4294967296 ∨ 4294967296 < v
    · rw [fixF_err s i v hv hbad]
      have hb : (((decide (i < (0 : Int)) || decide (s.1 ≤ i)) || decide (v < (-(4294967296 : Int)))) || decide ((4294967296 : Int) < v)) = true := by
        simp only [Bool.or_eq_true,decide_eq_true_iff];omega
      refine ⟨fun h => ⟨h,trivial⟩,fun h => ⟨h,h,trivial⟩,fun h => by rw [h];rfl,fun h => ⟨h,trivial⟩,fun h => by rw [h];rfl,fun h => ⟨h,trivial⟩,fun h => by rw [h];rfl,?_⟩
      rw [hb];simp
    · rw [fixF_ok s i v hv hbad]
      have hi0 : 0 ≤ i := by omega
      have hi1 : i < s.1 := by omega
      have hvb : -4294967296 ≤ v ∧ v ≤ 4294967296 := by omega
      have hb : (((decide (i < (0 : Int)) || decide (s.1 ≤ i)) || decide (v < (-(4294967296 : Int)))) || decide ((4294967296 : Int) < v)) = false := by
        simp only [Bool.or_eq_false_iff,decide_eq_false_iff_not];omega
      refine ⟨fun h => ⟨h,trivial⟩,fun h => ⟨h,h,trivial⟩,fun h => by rw [h];rfl,fun h => ⟨h,trivial⟩,fun h => by rw [h];rfl,fun h => ⟨h,trivial⟩,fun h => by rw [h];rfl,?_⟩
      rw [hb]
      simp only [cond_false]
      refine ⟨⟨by omega,by omega⟩,?_⟩
      obtain ⟨n,rfl⟩ : ∃ n : Nat,i = n := ⟨i.toNat,by omega⟩
      have en : ((n : Int) + 1).toNat = n + 1 := by omega
      simp only [Int.toNat_natCast,en]
      have hml : (s.2.map fun p => p.map (fixC n v)).length = s.2.length := by simp
      have htid : tidL (s.2.map fun p => p.map (fixC n v)) = (s.2.map fun p => p.map (fixC n v)).foldlM tidStep [] := rfl
      rw [htid]
      refine Lp.tid (s.2.map fun p => p.map (fixC n v)) [] _ Known.nil (by simp) (by omega) ?_ ?_
      · intro k out m R e e2 hf hk hl h1 h2 h3
        rw [hml] at e e2
        rw [getD_map (d := []) e] at h1 h2 h3
        have hm := setValid.piece hv (getD_memL (d := []) e)
        have hdim := (setValid.D hv (getD_memL (d := []) e)).2
        simp only [decide_eq_true e2,Int.toNat_natCast,cond_true]
        refine ⟨⟨by omega,by omega⟩,?_⟩
        refine Lp.iter (s.2.getD k []).length (fun j z => z = ((j : Int),((s.2.getD k []).take j).map (fixC n v))) (by simp) ?_
        rintro j z hj rfl R2 hR2
        by_cases e3 : j < (s.2.getD k []).length
        · simp only [decide_eq_true (show (j : Int) < ((s.2.getD k []).length : Int) by omega),Int.toNat_natCast,cond_true]
          have hcm := getD_memL (d := dCond) e3
          have hcv := hm.2 _ hcm
          have hcl := hdim _ hcm
          obtain ⟨hB1,hB2⟩ := fixC_B (i := n) hcv hvb
          have hlb := linValid.b (condValid.lin hcv)
          have hmb := mul_b (a := ((s.2.getD k []).getD j dCond).2.2.1.getD n 0) (getD_in (P := fun n => -1048576 ≤ n ∧ n ≤ 1048576) hlb.2.1 (by omega)) hvb
          refine ⟨⟨by omega,by omega⟩,by omega,⟨by omega,by omega⟩,⟨fun h => by rw [h] at hcl;simp at hcl;omega,by omega,by omega,by omega⟩,⟨by omega,by omega⟩,⟨by omega,by omega⟩,⟨by omega,by omega⟩,⟨by simp only [List.length_map,List.length_take,List.length_cons,List.length_nil];omega,by simp only [List.length_map,List.length_take,List.length_cons,List.length_nil];omega⟩,⟨by omega,by omega⟩,hR2 e3 _ ?_⟩
          rw [take_succ_getD dCond e3,List.map_append];rfl
        · have : j = (s.2.getD k []).length := by omega
          subst this
          simp only [Int.lt_irrefl,decide_false,cond_false,List.take_length]
          refine tid_body (fix_B hm.1 hm.2 hvb) hk hl (fun h4 hn => ?_) (fun hs => ⟨hf,h1 hs⟩) (fun hn => ?_) (fun hs => ⟨hf,h2 hs⟩)
          · simp only [set_Tidy.fn,h4,show ((3 : Int) != 0) = true from rfl,cond_true]
            rw [h3 hn];rfl
          · rw [h3 hn];rfl
      · intro out m R ht hk hl
        simp only [hml,Int.lt_irrefl,decide_false,cond_false]
        rw [ht];rfl
theorem take_eraseStep {C : List Int} {i k : Nat} (h : k < C.length) : cutL (C.take (k + 1)) i = if k = i then cutL (C.take k) i else cutL (C.take k) i ++ [C.getD k 0] := by
  unfold cutL
  rw [take_succ_getD 0 h]
  have hl : (C.take k).length = k := by simp;omega
  by_cases e : k = i
  · rw [if_pos e];subst e
    rw [List.take_append_of_le_length (by omega),List.drop_of_length_le (by simp;omega),List.drop_of_length_le (by omega)]
  · rw [if_neg e]
    by_cases hk : k < i
    · have t1 : (List.take k C ++ [C.getD k 0]).take i = List.take k C ++ [C.getD k 0] := List.take_of_length_le (by simp only [List.length_append,List.length_cons,List.length_nil];omega)
      have t2 : (List.take k C ++ [C.getD k 0]).drop (i + 1) = [] := List.drop_of_length_le (by simp only [List.length_append,List.length_cons,List.length_nil];omega)
      have t3 : (List.take k C).take i = List.take k C := List.take_of_length_le (by omega)
      have t4 : (List.take k C).drop (i + 1) = [] := List.drop_of_length_le (by omega)
      rw [t1,t2,t3,t4,List.append_nil,List.append_nil]
    · rw [List.take_append_of_le_length (by omega),List.drop_append_of_le_length (by omega),List.append_assoc]
theorem ref02_Without.spec (l : Lin) (i : Int) (hp : ref02_Without.pre (l,i,())) : ref02_Without.wp l i (fun r => r = ref02_Without.fn (l,i,())) := by
  obtain ⟨hl,h0,h1⟩ := hp
  simp only at hl h0 h1
  obtain ⟨n,rfl⟩ : ∃ n : Nat,i = n := ⟨i.toNat,by omega⟩
  simp only [ref02_Without.wp,ref02_Without.fn,Int.toNat_natCast]
  refine Lp.iter l.1.length (fun k z => z = ((k : Int),l.2,cutL (l.1.take k) n)) (by simp [cutL]) ?_
  rintro k z hk rfl R hR
  by_cases e : k < l.1.length
  · simp only [decide_eq_true (show (k : Int) < (l.1.length : Int) by omega),Int.toNat_natCast,cond_true]
    refine ⟨⟨by omega,by omega⟩,?_⟩
    have hst := take_eraseStep (i := n) e
    have hcl : (cutL (l.1.take k) n).length ≤ k := by unfold cutL;simp;omega
    by_cases hkn : k = n
    · rw [show (((k : Nat) : Int) != (n : Int)) = false by simp [hkn]]
      rw [if_pos hkn] at hst
      exact ⟨⟨by omega,by omega⟩,hR e _ (by rw [hst];rfl)⟩
    · rw [show (((k : Nat) : Int) != (n : Int)) = true by simp;omega]
      rw [if_neg hkn] at hst
      exact ⟨⟨by simp only [List.length_cons,List.length_nil];omega,by simp only [List.length_cons,List.length_nil];omega⟩,⟨by omega,by omega⟩,hR e _ (by rw [hst];rfl)⟩
  · have : k = l.1.length := by omega
    subst this
    simp only [Int.lt_irrefl,decide_false,cond_false,List.take_length]
theorem ref04_Fix.spec (s : PSet) (i v : Int) : ref04_Fix.wp s i v (fun r => r = ref04_Fix.fn (s,i,v,())) := by
  have hfn : ref04_Fix.fn (s,i,v,()) = fixF s i v := rfl
  simp only [ref04_Fix.wp,ref04_Valid.fn,hfn,ref01_Coord.fn,ref02_Without.fn,ref04_Made.fn]
  cases hv : setValid s with
  | false => simp [fixF,hv]
  | true =>
    simp only [Bool.not_true,cond_false]
    obtain ⟨hd0,hd1,hlen,_⟩ := setValid.b hv
    have hco : Coord v = (decide (-4294967296 ≤ v) && decide (v ≤ 4294967296)) := rfl
    by_cases hbad : i < 0 ∨ s.1 ≤ i ∨ v < -4294967296 ∨ 4294967296 < v
    · rw [fixF_err s i v hv hbad]
      have hb : ((decide (i < (0 : Int)) || decide (s.1 ≤ i)) || (!Coord v)) = true := by
        rw [hco]
        simp only [Bool.or_eq_true,decide_eq_true_iff,Bool.not_eq_true',Bool.and_eq_false_iff,decide_eq_false_iff_not];omega
      refine ⟨fun h => ⟨h,trivial⟩,fun h => ⟨h,h,trivial⟩,fun h => by rw [h];rfl,fun h => ⟨h,trivial⟩,fun h => ⟨h,trivial⟩,fun h => by rw [h];rfl,?_⟩
      rw [hb];simp
    · rw [fixF_ok s i v hv hbad]
      have hi0 : 0 ≤ i := by omega
      have hi1 : i < s.1 := by omega
      have hvb : -4294967296 ≤ v ∧ v ≤ 4294967296 := by omega
      have hb : ((decide (i < (0 : Int)) || decide (s.1 ≤ i)) || (!Coord v)) = false := by
        rw [hco]
        simp only [Bool.or_eq_false_iff,decide_eq_false_iff_not,Bool.not_eq_false',Bool.and_eq_true,decide_eq_true_iff];omega
      refine ⟨fun h => ⟨h,trivial⟩,fun h => ⟨h,h,trivial⟩,fun h => by rw [h];rfl,fun h => ⟨h,trivial⟩,fun h => ⟨h,trivial⟩,fun h => by rw [h];rfl,?_⟩
      rw [hb]
      simp only [cond_false]
      obtain ⟨n,rfl⟩ : ∃ n : Nat,i = n := ⟨i.toNat,by omega⟩
      simp only [Int.toNat_natCast]
      refine Lp.iter s.2.length (fun k z => z = ((k : Int),(s.2.take k).map fun p => p.map (fixC n v))) (by simp) ?_
      rintro k z hk rfl R hR
      by_cases e : k < s.2.length
      · simp only [decide_eq_true (show (k : Int) < (s.2.length : Int) by omega),Int.toNat_natCast,cond_true]
        refine ⟨⟨by omega,by omega⟩,?_⟩
        have hm := setValid.piece hv (getD_memL (d := []) e)
        have hdim := (setValid.D hv (getD_memL (d := []) e)).2
        have hts := take_succ_getD ([] : List Cond) e
        refine Lp.iter (s.2.getD k []).length (fun j z => z = ((j : Int),((s.2.getD k []).take j).map (fixC n v))) (by simp) ?_
        rintro j z hj rfl R2 hR2
        by_cases e3 : j < (s.2.getD k []).length
        · simp only [decide_eq_true (show (j : Int) < ((s.2.getD k []).length : Int) by omega),Int.toNat_natCast,cond_true]
          have hcm := getD_memL (d := dCond) e3
          have hcv := hm.2 _ hcm
          have hcl := hdim _ hcm
          obtain ⟨hB1,hB2⟩ := fixC_B (i := n) hcv hvb
          have hlb := linValid.b (condValid.lin hcv)
          have hmb := mul_b (a := ((s.2.getD k []).getD j dCond).2.2.1.getD n 0) (getD_in (P := fun n => -1048576 ≤ n ∧ n ≤ 1048576) hlb.2.1 (by omega)) hvb
          have hts2 := take_succ_getD dCond e3
          rw [Int.mul_comm] at hmb hB2
          refine ⟨⟨by omega,by omega⟩,⟨by show ((s.2.getD k []).getD j dCond).2.2.1.length ≤ _;omega,by show (0 : Int) ≤ (n : Int);omega,by show (n : Int) < ((((s.2.getD k []).getD j dCond).2.2.1.length : Nat) : Int);omega⟩,⟨by omega,by omega⟩,⟨by omega,by omega⟩,⟨by omega,by omega⟩,⟨by simp only [List.length_map,List.length_take,List.length_cons,List.length_nil];omega,by simp only [List.length_map,List.length_take,List.length_cons,List.length_nil];omega⟩,⟨by omega,by omega⟩,hR2 e3 _ ?_⟩
          rw [hts2,List.map_append]
          simp only [List.map_cons,List.map_nil,fixC,Int.mul_comm v]
          rfl
        · have : j = (s.2.getD k []).length := by omega
          subst this
          simp only [Int.lt_irrefl,decide_false,cond_false,List.take_length]
          refine ⟨⟨by simp only [List.length_map,List.length_take,List.length_cons,List.length_nil];omega,by simp only [List.length_map,List.length_take,List.length_cons,List.length_nil];omega⟩,⟨by omega,by omega⟩,hR e _ ?_⟩
          rw [hts,List.map_append];rfl
      · have : k = s.2.length := by omega
        subst this
        simp only [Int.lt_irrefl,decide_false,cond_false,List.take_length]
        refine ⟨⟨by omega,by omega⟩,⟨by simp only [List.length_map];omega,fun p hp2 => ?_⟩,trivial⟩
        obtain ⟨q,hq,rfl⟩ := List.mem_map.1 hp2
        have hm := setValid.piece hv hq
        exact ⟨fix_B hm.1 hm.2 hvb,s.1.toNat - 1,fix_dims (setValid.D hv hq).2 (by omega)⟩
theorem law04_SetWhere.spec (s : PSet) (l : List Cond) (i v : Int) : law04_SetWhere.wp s l i v (fun r => r = true) := by
  unfold law04_SetWhere.wp
  have e1 : law04_is.fn (((set_Where.fn (s,(l,()))).1),((set_Where.fn (s,(l,()))).2,(((ref04_Where.fn (s,(l,()))).1),((ref04_Where.fn (s,(l,()))).2,())))) = true := is_refl (whereF s l)
  have e2 : law04_is.fn (((set_Fix.fn (s,(i,(v,())))).1),((set_Fix.fn (s,(i,(v,())))).2,(((ref04_Fix.fn (s,(i,(v,())))).1),((ref04_Fix.fn (s,(i,(v,())))).2,())))) = true := is_refl (fixF s i v)
  simp only [e1,e2,law04_awake.fn]
  cases law04_Few.fn ((20 : Int),((60 : Int),([s],()))) with
  | false => simp
  | true =>
    by_cases h : (60 : Int) < (l.length : Int)
    · simp [h]
    · have hw : set_Where.pre (s,(l,())) := by show l.length ≤ 4096;omega
      have hw2 : ref04_Where.pre (s,(l,())) := by show l.length ≤ 4096;omega
      simp [h,hw,hw2]
end Go.Proofs.YtldikbpclaeajaaGreatDoor
namespace Go.Proofs.YtldikbpclaeajaaGreatDoor
open Go Go.ChangeAt Go.ChangeShapes Go.RowKit Go.WideShapes
set_option linter.unusedVariables false
def Wf : (T : Ty) → T.den → Prop
  | .int k,n => (Lit.int k n).wf = true
  | .bool,_ => True
  | .str,s => ByteArray.size s ≤ maxLen
  | .sl T,l => List.length (α := T.den) l ≤ maxLen ∧ ∀ x ∈ (l : List T.den),Wf T x
  | .pair a b,x => Wf a x.1 ∧ Wf b x.2
  | .unit,_ => True
def FitTS (P : Program) (F : TypeId → Ty → Prop) : Nat → List Field → Ty → Prop
  | o,[f],T => f.offset = o ∧ P.cellsOf f.type = T.size ∧ F f.type T
  | o,f :: fs,.pair A B => f.offset = o ∧ P.cellsOf f.type = A.size ∧ F f.type A ∧ FitTS P F (o + A.size) fs B
  | _,_,_ => False
def FitT (P : Program) : Nat → TypeId → Ty → Prop
  | 0,_,_ => False
  | n + 1,t,T => (match T with
    | .int k => P.underlying t = some (.int k)
    | .bool => P.underlying t = some .bool
    | .str => P.underlying t = some .string
    | .sl T => ∃ e,P.underlying t = some (.slice e) ∧ P.cellsOf e = T.size ∧ 0 < T.size ∧ FitT P n e T
    | _ => False) ∨ ∃ fs,P.underlying t = some (.struct fs) ∧ P.cellsOf t = T.size ∧ FitTS P (FitT P n) 0 fs.toList T
section
variable {H : Type} {enc : TypeId × Value → H} {P : Program} {W : World} {held : Bool}
abbrev stab (W : World) : Nat → Prop := fun b => b < W.heap.size
theorem list_of {α : Type} {p : Nat → α → Prop} : ∀ n : Nat,(∀ i,i < n → ∃ y,p i y) → ∃ l : List α,l.length = n ∧ ∀ i y,l[i]? = some y → p i y
  | 0,_ => ⟨[],rfl,fun i y h => by simp at h⟩
  | n + 1,h => by
    obtain ⟨l,hl,hp⟩ := list_of n fun i hi => h i (by omega)
    obtain ⟨y,hy⟩ := h n (by omega)
    refine ⟨l ++ [y],by simp [hl],fun i z hz => ?_⟩
    by_cases e : i < l.length
    · rw [List.getElem?_append_left e] at hz;exact hp i z hz
    · rw [List.getElem?_append_right (by omega)] at hz
      have : i = l.length := by
        have := (List.getElem?_eq_some_iff.1 hz).1
        simp at this;omega
      subst this
      simp at hz
      subst hz
      rw [hl];exact hy
theorem openS {F : TypeId → Ty → Prop} {m : Nat} (hF : ∀ t T, F t T → ∀ cs x, DataW.trod enc P W 0 (fun _ => true) held m t cs = some x → ∃ y : T.den, Cells W (stab W) T y cs ∧ Wf T y) :
    ∀ {fs : List Field} {o : Nat} {T : Ty} {cs : List Value},FitTS P F o fs T → (∀ f ∈ fs,∃ x,DataW.trod enc P W 0 (fun _ => true) held m f.type ((cs.drop f.offset).take (P.cellsOf f.type)) = some x) → cs.length = o + T.size →
      ∃ y : T.den,Cells W (stab W) T y (cs.drop o) ∧ Wf T y
  | [],o,T,cs,h,_,_ => by unfold FitTS at h;exact h.elim
  | [f],o,T,cs,h,hx,hl => by
    have h' : f.offset = o ∧ P.cellsOf f.type = T.size ∧ F f.type T := by unfold FitTS at h;exact h
    obtain ⟨h1,h2,h3⟩ := h'
    obtain ⟨x,hx⟩ := hx f (by simp)
    rw [h1,h2,List.take_of_length_le (by rw [List.length_drop];omega)] at hx
    exact hF _ _ h3 _ _ hx
  | f :: g :: fs,o,T,cs,h,hx,hl => by
    cases T <;> unfold FitTS at h <;> try exact h.elim
    rename_i A B
    obtain ⟨h1,h2,h3,h4⟩ := h
    have hl' : cs.length = o + A.size + B.size := by rw [hl];simp only [Ty.size];omega
    obtain ⟨b,hb,hwb⟩ := openS hF (cs := cs) h4 (fun f hf => hx f (by simp [List.mem_cons.1 hf])) hl'
    obtain ⟨x,hx⟩ := hx f (by simp)
    rw [h1,h2] at hx
    obtain ⟨a,ha,hwa⟩ := hF _ _ h3 _ _ hx
    refine ⟨(a,b),⟨_,_,?_,ha,hb⟩,hwa,hwb⟩
    rw [← List.drop_drop,List.take_append_drop]
theorem cells_at {base : Nat} {a : Addr} {n : Nat} {cs : List Value} (h : W.cells? base a n = some cs) (hn : 0 < n) : a.spot = none ∧ a.block < W.heap.size ∧ cs.length = n ∧ ∀ j u,cs[j]? = some u → W.cell? ⟨a.block,a.off + j,none⟩ = some u := by
  obtain ⟨_,hl,hc⟩ := World.cells?_some h
  have h0 := hc 0 hn
  rw [List.getElem?_eq_getElem (by omega : 0 < cs.length)] at h0
  simp only [Addr.add,if_true,World.cell?] at h0
  have hs : a.spot = none ∧ a.block < W.heap.size := by
    split at h0
    · rename_i hb
      refine ⟨?_,(Array.getElem?_eq_some_iff.1 hb).1⟩
      split at h0
      · cases h0
      · rename_i hs;simpa using hs
    · cases h0
  refine ⟨hs.1,hs.2,hl,fun j u hj => ?_⟩
  have hjl : j < n := by rw [← hl];exact (List.getElem?_eq_some_iff.1 hj).1
  rw [← hj,← hc j hjl]
  obtain ⟨b,off,sp⟩ := a
  simp only at hs
  rw [hs.1]
  unfold Addr.add
  split
  · rename_i e;subst e;rfl
  · rfl
theorem open_T : ∀ (n : Nat) {t : TypeId} {T : Ty},FitT P n t T → ∀ (fuel : Nat) (cs : List Value) (x : DataW H × List MemPlace),DataW.trod enc P W 0 (fun _ => true) held fuel t cs = some x → ∃ y : T.den,Cells W (stab W) T y cs ∧ Wf T y
  | 0,_,_,h,_,_,_,_ => h.elim
  | n + 1,t,T,h,fuel,cs,x,hx => by
    unfold FitT at h
    rcases h with h | ⟨fs,h1,h2,h3⟩
    · cases T with
      | int k =>
        obtain ⟨z,rfl,_,hw⟩ := DataW.trod_int h hx
        exact ⟨z,rfl,hw⟩
      | bool =>
        obtain ⟨z,rfl,_⟩ := DataW.trod_bool h hx
        exact ⟨z,rfl,trivial⟩
      | str =>
        obtain ⟨z,rfl,_,hw⟩ := DataW.trod_string h hx
        exact ⟨z,rfl,hw⟩
      | sl T =>
        obtain ⟨e,h1,h2,h3,h4⟩ := h
        rcases DataW.trod_slice h1 hx with ⟨rfl,_⟩ | ⟨a,len,cap,elems,rest,m,_,rfl,_,_,hl,hm,hlen,hel,_,_⟩
        · exact ⟨[],⟨none,0,rfl,⟨Nat.le_refl _,Nat.zero_le _⟩,fun h => absurd rfl h⟩,Nat.zero_le _,fun x hx => by cases hx⟩
        · have each : ∀ i,i < len → ∃ y : T.den,(a.block < W.heap.size ∧ (len ≠ 0 → a.spot = none) ∧ ∃ cs',Cells W (stab W) T y cs' ∧ ∀ j u,cs'[j]? = some u → W.cell? ⟨a.block,a.off + i * T.size + j,none⟩ = some u) ∧ Wf T y := by
            intro i hi
            have h5 := hel i hi
            rw [List.getElem?_eq_getElem (by omega : i < elems.length),Option.bind_eq_some_iff] at h5
            obtain ⟨cs',h6,h7⟩ := h5
            rw [h2] at h6
            obtain ⟨y,hy,hw⟩ := open_T n h4 _ _ _ h7
            obtain ⟨k1,k2,k3,k4⟩ := cells_at h6 h3
            have hb : (a.add (i * T.size)).block = a.block := by unfold Addr.add;split <;> rfl
            have ho : (a.add (i * T.size)).off = a.off + i * T.size := by
              unfold Addr.add
              split
              · rename_i e;rw [e];rfl
              · rfl
            rw [hb,ho] at k4
            rw [hb] at k2
            refine ⟨y,⟨k2,fun _ => ?_,cs',hy,k4⟩,hw⟩
            have h50 := hel 0 (by omega)
            rw [List.getElem?_eq_getElem (by omega : 0 < elems.length),Option.bind_eq_some_iff] at h50
            obtain ⟨cs0,h60,_⟩ := h50
            rw [h2] at h60
            have := (cells_at h60 h3).1
            simpa [Addr.add] using this
          obtain ⟨l,hll,hlp⟩ := list_of len each
          refine ⟨l,⟨some a,cap,by rw [hll],⟨by rw [hll];exact hl,hm⟩,fun hne => ?_⟩,by show l.length ≤ maxLen;omega,fun y hy => ?_⟩
          · have hpos : 0 < len := by rw [← hll];exact List.length_pos_iff.2 hne
            obtain ⟨y0,⟨hb,hs,_⟩,_⟩ := each 0 hpos
            refine ⟨a.block,a.off,?_,hb,fun i x hi => ?_⟩
            · have := hs (by omega)
              obtain ⟨b,off,sp⟩ := a
              simp only at this
              rw [this]
            · obtain ⟨⟨_,_,cs',h8,h9⟩,_⟩ := hlp i x hi
              exact ⟨cs',h8,h9⟩
          · obtain ⟨i,hi⟩ := List.getElem?_of_mem hy
            exact (hlp i y hi).2
      | pair a b => exact h.elim
      | unit => exact h.elim
    · obtain ⟨xs,m,rfl,_,h4,h5,h6⟩ := DataW.trod_struct h1 hx
      have := openS (m := m) (fun t T hF cs x hx => open_T n hF m cs x hx) (cs := cs) h3 (fun f hf => by
        obtain ⟨i,hi⟩ := List.getElem?_of_mem hf
        have hi' : fs[i]? = some f := by simpa using hi
        have := h6 i f hi'
        have hlt : i < xs.length := by rw [h5];exact (Array.getElem?_eq_some_iff.1 hi').1
        exact ⟨xs[i],by rw [this,List.getElem?_eq_getElem hlt]⟩) (by rw [Nat.zero_add,h4,h2])
      simpa using this
def isPlain : Ty → Bool
  | .pair _ _ => false
  | _ => true
def envOf (W : World) : Env := ⟨W,stab W,fun _ => none⟩
theorem one_slice {r : Reach} {base : Nat} {t e : TypeId} {v : Value} (ht : P.underlying t = some (.slice e)) (h : Value.okWide P W r base t v) : v.cells = #[v] := by obtain ⟨a,l,c,rfl⟩ := okWide_slice ht h;rfl
theorem one_int {r : Reach} {base : Nat} {t : TypeId} {k : IntKind} {v : Value} (ht : P.underlying t = some (.int k)) (h : Value.okWide P W r base t v) : v.cells = #[v] := by obtain ⟨a,rfl⟩ := okWide_int ht h;rfl
theorem one_bool {r : Reach} {base : Nat} {t : TypeId} {v : Value} (ht : P.underlying t = some .bool) (h : Value.okWide P W r base t v) : v.cells = #[v] := by obtain ⟨a,rfl⟩ := okWide_bool ht h;rfl
theorem one_string {r : Reach} {base : Nat} {t : TypeId} {v : Value} (ht : P.underlying t = some .string) (h : Value.okWide P W r base t v) : v.cells = #[v] := by obtain ⟨a,rfl⟩ := okWide_string ht h;rfl
theorem arg_plain {n : Nat} {t : TypeId} {T : Ty} {v : Value} {d : DataW H} {p : List MemPlace} (hf : FitT P n t T) (hp : isPlain T = true) (h : DataW.Trod enc P W 0 (fun _ => true) held t v d p) (hv : v.cells = #[v]) : ∃ y : T.den,Rep P (envOf W) (argV T y) v ∧ Wf T y := by
  obtain ⟨fuel,h⟩ := h
  rw [hv] at h
  obtain ⟨y,hy,hw⟩ := open_T n hf _ _ _ h
  refine ⟨y,?_,hw⟩
  cases T <;> first | exact .d hy | (cases hp;done)
theorem arg_agg {n : Nat} {t : TypeId} {a b : Ty} {v : Value} {d : DataW H} {p : List MemPlace} (hf : FitT P n t (.pair a b)) (h : DataW.Trod enc P W 0 (fun _ => true) held t v d p) {fs : Array Field} {r : Reach} {base : Nat} (ht : P.underlying t = some (.struct fs)) (hk : Value.okWide P W r base t v) :
    ∃ y : (Ty.pair a b).den,Rep P (envOf W) (argV (.pair a b) y) v ∧ Wf (.pair a b) y := by
  obtain ⟨cs,rfl,_⟩ := okWide_struct ht hk
  obtain ⟨fuel,h⟩ := h
  obtain ⟨y,hy,hw⟩ := open_T n hf _ _ _ h
  have hr := flat_rep (P := P) (E := envOf W) hy
  refine ⟨y,.agg ?_ fun j hj => ?_,hw⟩
  · have := hr.1;simpa [Value.cells] using this
  · have := hr.2 j hj
    simpa [Value.cells,Array.getD_eq_getD_getElem?,List.getD_eq_getElem?_getD] using this
theorem sok_of {g : Nat} (hg : P.globalNamed "internal/strconv.uint64pow10" = some g) (h : Lib.TabIs P W "internal/strconv.uint64pow10" .u64 Lib.pow10Tab) : Sok P W (stab W) := by
  refine ⟨fun b hb => hb,g,?_,fun w' hw' => ?_⟩
  · unfold Lib.TabIs World.var? at h
    rw [hg] at h
    simp only [Option.bind_some] at h
    split at h
    · rename_i hb;exact (Array.getElem?_eq_some_iff.1 hb).1
    · cases h
  · unfold Lib.TabIs World.var? at h ⊢
    rw [hg] at h ⊢
    simp only [Option.bind_some] at h ⊢
    rw [hw'];exact h
theorem law_calls {τ : TyTab} (hτ : TabOk P τ) {run : RunT} (hrun : RunOk P run) {A : An} {f : FuncId} {fi : FI} (hok : fi.Ok P f) {ps : List PS} {xs : denPS ps} {C : Prop} (hw : C = fnW τ run A fi ps [.bool] xs fun r => r = true) (h : C) (hS : Sok P W (stab W)) {args : Array Value} (hr : Reps P (envOf W) (toVs ps xs) args.toList) :
    Calls P f args W fun e w' => e = .returned (.bool true) ∧ Below W.heap.size W w' := by
  subst hw
  refine (fnW_calls hτ hrun hok h hS hr).mono ?_
  rintro e w' ⟨v,S2,r,rfl,hg,hv,rfl⟩
  have hv' : Rep P ⟨w',S2,fun _ => none⟩ (.d .bool true) v := hv
  refine ⟨?_,hg.os,hg.tape,hg.output,hg.size,fun k hk => hg.frame k hk⟩
  cases hv' with | d h => rw [(List.cons.inj (show [v] = [Value.bool true] from h)).1]
end
end Go.Proofs.YtldikbpclaeajaaGreatDoor
