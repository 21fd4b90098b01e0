/- Part of a proof that a law of the program holds for every input: what the functions answer, in plain Lean. No conditions. -/
import Derived.Below
import Derived.Carry
import Derived.ChangeOld
import Derived.LaidMore
import Derived.Lib.LaidTab
import Derived.OpenShut
import Derived.ProofKit
import Derived.ShutString
import Derived.SizedLaws
import Derived.Stop.Joined
import Derived.WalkKit
import Derived.Test.YtldikbpclaeajaaGreatDoorP13
namespace Go.Proofs.YtldikbpclaeajaaGreatDoor
open Go
set_option linter.unusedVariables false
theorem turn_fill {α β : Type} {l : List α} {g : α → β} {d : α} {z : β} {j : Nat} (h : j < l.length) : (((l.take j).map g) ++ List.replicate (l.length - j) z).set j (g (l.getD j d)) = (l.take (j + 1)).map g ++ List.replicate (l.length - (j + 1)) z := by
  have hl : ((l.take j).map g).length = j := by rw [List.length_map,List.length_take];omega
  rw [List.set_append_right _ _ (by omega),hl,Nat.sub_self,show l.length - j = (l.length - (j + 1)) + 1 by omega,List.replicate_succ,List.set_cons_zero,take_succ_getD d h,List.map_append,List.append_assoc]
  rfl
theorem turn_flen {α β : Type} {l : List α} {g : α → β} {z : β} {j : Nat} (h : j ≤ l.length) : (((l.take j).map g) ++ List.replicate (l.length - j) z).length = l.length := by
  rw [List.length_append,List.length_map,List.length_take,List.length_replicate];omega
theorem set_Turn_1.spec (x : Lin) (l : List Int) (hp : set_Turn_1.pre (x,l,())) : set_Turn_1.wp x l (fun r => r = set_Turn_1.fn (x,l,())) := by
  obtain ⟨h1,h2,h3⟩ := hp
  simp only at h1 h2 h3
  simp only [set_Turn_1.wp,set_Turn_1.fn]
  refine ⟨⟨by omega,Int.le_refl _,by omega,by omega⟩,?_⟩
  simp only [Int.toNat_natCast,← h2]
  refine Lp.iter l.length (fun j z => z = ((j : Int),(l.take j).map (fun v => x.1.getD v.toNat 0) ++ List.replicate (l.length - j) 0)) (by simp) ?_
  rintro j z hj rfl R hR
  have hfl := turn_flen (g := fun v : Int => x.1.getD v.toNat 0) (z := 0) hj
  by_cases e : j < l.length
  · have hm := h3 _ (getD_memL (d := 0) e)
    simp only [decide_eq_true (show (j : Int) < (l.length : Int) by omega),Int.toNat_natCast,cond_true,hfl]
    refine ⟨⟨by omega,by omega⟩,⟨hm.1,by omega⟩,⟨by omega,by omega⟩,e,⟨by omega,by omega⟩,hR e _ ?_⟩
    rw [turn_fill (g := fun v : Int => x.1.getD v.toNat 0) e]
    rfl
  · have : j = l.length := by omega
    subst this
    simp only [Int.lt_irrefl,decide_false,cond_false,List.take_length,Nat.sub_self,List.replicate_zero,List.append_nil]
    rfl
theorem perm_iff {n : Int} {l : List Int} : permOk n l = true ↔ (∀ v ∈ l,0 ≤ v ∧ v < n) ∧ l.Nodup := by
  unfold permOk;rw [Bool.and_eq_true,decide_eq_true_iff,decide_eq_true_iff]
theorem perm_take {n : Int} {l : List Int} {i : Nat} (h : permOk n l = true) : permOk n (l.take i) = true := by
  rw [perm_iff] at h ⊢
  exact ⟨fun v hv => h.1 v (List.mem_of_mem_take hv),h.2.sublist (List.take_sublist _ _)⟩
theorem perm_step {n : Int} {l : List Int} {i : Nat} (h : permOk n (l.take i) = true) (e : i < l.length) : permOk n (l.take (i + 1)) = true ↔ (0 ≤ l.getD i 0 ∧ l.getD i 0 < n) ∧ l.getD i 0 ∉ l.take i := by
  rw [perm_iff] at h ⊢
  rw [take_succ_getD 0 e,List.nodup_append]
  constructor
  · rintro ⟨h1,_,_,h2⟩
    exact ⟨h1 _ (by simp),fun hm => h2 _ hm _ (by simp) rfl⟩
  · rintro ⟨h1,h2⟩
    refine ⟨fun v hv => ?_,h.2,by simp,fun a ha b hb => ?_⟩
    · rcases List.mem_append.1 hv with hv | hv
      · exact h.1 v hv
      · rw [List.mem_singleton.1 hv];exact h1
    · rw [List.mem_singleton.1 hb];rintro rfl;exact h2 ha
theorem perm_bad {n : Int} {l : List Int} {i : Nat} (h : permOk n (l.take i) = true) (e : i < l.length) (hb : ¬ ((0 ≤ l.getD i 0 ∧ l.getD i 0 < n) ∧ l.getD i 0 ∉ l.take i)) : permOk n l = false := by
  cases hp : permOk n l with
  | false => rfl
  | true => exact absurd ((perm_step h e).1 (perm_take hp)) hb
theorem turnS_ok {s : PSet} {l : List Int} (hv : setValid s = true) (hn : (l.length : Int) = s.1) (hp : permOk s.1 l = true) : turnS s l = (eachF s s.1 (turnL l),0) := by
  unfold turnS;rw [if_neg (by rw [hv];decide),if_neg (by omega),if_neg (by rw [hp];decide)]
theorem turnS_bad {s : PSet} {l : List Int} (hv : setValid s = true) (hn : (l.length : Int) = s.1) (hp : permOk s.1 l = false) : turnS s l = ((0,[]),6) := by
  unfold turnS;rw [if_neg (by rw [hv];decide),if_neg (by omega),if_pos hp]
theorem set_Turn.spec (s : PSet) (l : List Int) (hl : l.length ≤ 9223372036854775807) : set_Turn.wp s l (fun r => r = set_Turn.fn (s,l,())) := by
  have hfn : set_Turn.fn (s,l,()) = turnS s l := rfl
  simp only [set_Turn.wp,hfn,set_Valid.fn]
  cases hv : setValid s with
  | false => simp [turnS,hv]
  | true =>
    obtain ⟨b1,b2,b3,_⟩ := setValid.b hv
    simp only [Bool.not_true,cond_false]
    by_cases hn : (l.length : Int) = s.1
    · rw [show (((List.length l : Nat) : Int) != s.1) = false by rw [hn];simp]
      simp only [cond_false]
      refine Lp.iter l.length (fun i z => z.1 = (i : Int) ∧ z.2.length = 12 ∧ (∀ j : Nat,z.2.getD j false = decide ((j : Int) ∈ l.take i)) ∧ permOk s.1 (l.take i) = true) ⟨rfl,rfl,fun j => ?_,rfl⟩ ?_
      · rw [List.getD_eq_getElem?_getD,List.getElem?_replicate]
        split <;> simp
      rintro i ⟨z1,on⟩ hle ⟨rfl,ho,hon,hperm⟩ R hR
      have ho : on.length = 12 := ho
      by_cases e : i < l.length
      · simp only [decide_eq_true (show (i : Int) < (l.length : Int) by omega),Int.toNat_natCast,cond_true]
        refine ⟨⟨by omega,by omega⟩,fun h => ⟨h,trivial⟩,fun h => ⟨h,h,trivial⟩,fun h => by rw [h];rfl,?_⟩
        by_cases hr : 0 ≤ l.getD i 0 ∧ l.getD i 0 < s.1
        · have e1 : decide (l.getD i 0 < 0) = false := by simp only [decide_eq_false_iff_not];omega
          have e2 : decide (s.1 ≤ l.getD i 0) = false := by simp only [decide_eq_false_iff_not];omega
          simp only [e1,e2,Bool.or_self,Bool.false_or,ho]
          have hc : (((l.getD i 0).toNat : Nat) : Int) = l.getD i 0 := by omega
          have hon' := hon (l.getD i 0).toNat
          rw [hc] at hon'
          refine ⟨fun h => ⟨h,by omega,by omega⟩,fun h => ⟨h,by omega⟩,fun _ => rfl,?_⟩
          have hon' : on.getD (l.getD i 0).toNat false = decide (l.getD i 0 ∈ l.take i) := hon'
          rw [hon']
          by_cases hm : l.getD i 0 ∈ l.take i
          · rw [decide_eq_true hm]
            exact (turnS_bad hv hn (perm_bad hperm e fun h => h.2 hm)).symm
          · rw [decide_eq_false hm]
            simp only [cond_false]
            refine ⟨⟨by omega,by omega⟩,by omega,⟨by omega,by omega⟩,hR e _ ⟨rfl,by rw [List.length_set];exact ho,fun j => ?_,(perm_step hperm e).2 ⟨hr,hm⟩⟩⟩
            show (on.set (l.getD i 0).toNat true).getD j false = _
            rw [List.getD_eq_getElem?_getD,List.getElem?_set,take_succ_getD 0 e]
            split
            · rename_i ej
              rw [if_pos (by omega)]
              have : (j : Int) = l.getD i 0 := by omega
              simp [this]
            · rename_i ej
              have hne : ¬ (j : Int) = l.getD i 0 := by omega
              have := hon j
              rw [List.getD_eq_getElem?_getD] at this
              rw [this]
              simp only [List.mem_append,List.mem_singleton,hne,or_false]
        · have e3 : (decide (l.getD i 0 < 0) || decide (s.1 ≤ l.getD i 0)) = true := by simp only [Bool.or_eq_true,decide_eq_true_iff];omega
          simp only [e3,Bool.not_true,Bool.true_or]
          refine ⟨fun h => (by cases h),fun h => (by cases h),fun h => (by cases h),?_⟩
          exact (turnS_bad hv hn (perm_bad hperm e fun h => hr h.1)).symm
      · have : i = l.length := by omega
        subst this
        rw [List.take_length] at hperm
        simp only [Int.lt_irrefl,decide_false,cond_false]
        refine ⟨⟨b3,fun p hp => ⟨(setValid.piece hv hp).1,fun c hc => ?_⟩⟩,(turnS_ok hv hn hperm).symm⟩
        have hd := (setValid.D hv hp).2 c hc
        refine ⟨by show c.2.2.1.length ≤ 12;omega,by show l.length = c.2.2.1.length;omega,fun v hv' => ?_⟩
        have := (perm_iff.1 hperm).1 v hv'
        exact ⟨this.1,by show v < (c.2.2.1.length : Int);omega⟩
    · rw [bne_iff_ne.2 hn]
      simp [turnS,hv,hn]
theorem ref04_Turn.spec (s : PSet) (l : List Int) (hl : l.length ≤ 9223372036854775807) : ref04_Turn.wp s l (fun r => r = ref04_Turn.fn (s,l,())) := by
  have hfn : ref04_Turn.fn (s,l,()) = turnS s l := rfl
  simp only [ref04_Turn.wp,hfn,ref04_Valid.fn]
  cases hv : setValid s with
  | false => simp [turnS,hv]
  | true =>
    obtain ⟨b1,b2,b3,_⟩ := setValid.b hv
    simp only [Bool.not_true,cond_false]
    by_cases hn : (l.length : Int) = s.1
    · rw [show (((List.length l : Nat) : Int) != s.1) = false by rw [hn];simp]
      simp only [cond_false]
      refine Lp.iter l.length (fun i z => z = (i : Int) ∧ permOk s.1 (l.take i) = true) ⟨rfl,rfl⟩ ?_
      rintro i z hle ⟨rfl,hperm⟩ R hR
      by_cases e : i < l.length
      · simp only [decide_eq_true (show (i : Int) < (l.length : Int) by omega),Int.toNat_natCast,cond_true]
        refine ⟨⟨by omega,by omega⟩,fun h => ⟨h,trivial⟩,fun h => ⟨h,h,trivial⟩,fun h => by rw [h];rfl,?_⟩
        by_cases hr : 0 ≤ l.getD i 0 ∧ l.getD i 0 < s.1
        · have e1 : decide (l.getD i 0 < 0) = false := by simp only [decide_eq_false_iff_not];omega
          have e2 : decide (s.1 ≤ l.getD i 0) = false := by simp only [decide_eq_false_iff_not];omega
          simp only [e1,e2,Bool.or_self,cond_false]
          have hlt : (l.take i).length = i := by rw [List.length_take];omega
          refine ⟨⟨by omega,by omega⟩,?_⟩
          simp only [hlt]
          refine Lp.iter i (fun j z => z = (j : Int) ∧ l.getD i 0 ∉ (l.take i).take j) ⟨rfl,by simp⟩ ?_
          rintro j z hj ⟨rfl,hm⟩ R2 hR2
          by_cases e3 : j < i
          · simp only [decide_eq_true (show (j : Int) < (i : Int) by omega),Int.toNat_natCast,cond_true]
            refine ⟨⟨by omega,by omega⟩,?_⟩
            by_cases eq : l.getD i 0 = (l.take i).getD j 0
            · rw [beq_iff_eq.2 eq]
              refine (turnS_bad hv hn (perm_bad hperm e fun h => h.2 ?_)).symm
              rw [eq];exact getD_memL (by omega)
            · rw [beq_eq_false_iff_ne.2 eq]
              simp only [cond_false]
              refine ⟨⟨by omega,by omega⟩,hR2 e3 _ ⟨rfl,?_⟩⟩
              rw [take_succ_getD 0 (by omega)]
              simp only [List.mem_append,List.mem_singleton,eq,or_false]
              exact hm
          · have : j = i := by omega
            subst this
            simp only [Int.lt_irrefl,decide_false,cond_false]
            rw [List.take_take,Nat.min_self] at hm
            exact ⟨⟨by omega,by omega⟩,hR e _ ⟨rfl,(perm_step hperm e).2 ⟨hr,hm⟩⟩⟩
        · have e3 : (decide (l.getD i 0 < 0) || decide (s.1 ≤ l.getD i 0)) = true := by simp only [Bool.or_eq_true,decide_eq_true_iff];omega
          simp only [e3,cond_true]
          exact (turnS_bad hv hn (perm_bad hperm e fun h => hr h.1)).symm
      · have : i = l.length := by omega
        subst this
        rw [List.take_length] at hperm
        simp only [Int.lt_irrefl,decide_false,cond_false]
        let F : List Cond → List Cond := fun p => p.map fun c => (c.1,c.2.1,turnL l c.2.2)
        refine Lp.iter s.2.length (fun a z => z = ((a : Int),s.1,(s.2.take a).map F)) (by simp) ?_
        rintro a z hle rfl R hR
        by_cases e : a < s.2.length
        · simp only [decide_eq_true (show (a : Int) < (s.2.length : Int) by omega),Int.toNat_natCast,cond_true]
          have hpl := (setValid.piece hv (getD_memL (d := []) e)).1
          have hpd := (setValid.D hv (getD_memL (d := []) e)).2
          refine ⟨⟨by omega,by omega⟩,?_⟩
          refine Lp.iter (s.2.getD a []).length (fun j z => z = ((j : Int),F ((s.2.getD a []).take j))) (by simp [F]) ?_
          rintro j z hj rfl R2 hR2
          by_cases e2 : j < (s.2.getD a []).length
          · simp only [decide_eq_true (show (j : Int) < ((s.2.getD a []).length : Int) by omega),Int.toNat_natCast,cond_true]
            have hd := hpd _ (getD_memL (d := dCond) e2)
            refine ⟨⟨by omega,by omega⟩,⟨by omega,Int.le_refl _,by omega,by omega⟩,?_⟩
            refine Lp.iter l.length (fun b z => z = ((b : Int),(l.take b).map (fun v => (((s.2.getD a []).getD j dCond).2.2.1).getD v.toNat 0) ++ List.replicate (l.length - b) 0)) (by simp) ?_
            rintro b z hb rfl R3 hR3
            have hfl := turn_flen (g := fun v : Int => (((s.2.getD a []).getD j dCond).2.2.1).getD v.toNat 0) (z := 0) hb
            by_cases e3 : b < l.length
            · have hm := (perm_iff.1 hperm).1 _ (getD_memL (d := 0) e3)
              simp only [decide_eq_true (show (b : Int) < (l.length : Int) by omega),Int.toNat_natCast,cond_true,hfl]
              refine ⟨⟨by omega,by omega⟩,⟨hm.1,by omega⟩,⟨by omega,by omega⟩,e3,⟨by omega,by omega⟩,hR3 e3 _ ?_⟩
              rw [turn_fill (g := fun v : Int => (((s.2.getD a []).getD j dCond).2.2.1).getD v.toNat 0) e3]
              rfl
            · have : b = l.length := by omega
              subst this
              simp only [Int.lt_irrefl,decide_false,cond_false,List.take_length,Nat.sub_self,List.replicate_zero,List.append_nil]
              have hF : (F ((s.2.getD a []).take j)).length = j := by show (List.map _ _).length = j;rw [List.length_map,List.length_take];omega
              refine ⟨⟨by rw [hF];simp;omega,by rw [hF];simp;omega⟩,⟨by omega,by omega⟩,hR2 e2 _ ?_⟩
              rw [take_succ_getD dCond e2]
              simp [F,turnL]
          · have : j = (s.2.getD a []).length := by omega
            subst this
            simp only [Int.lt_irrefl,decide_false,cond_false,List.take_length]
            refine ⟨⟨by simp;omega,by simp;omega⟩,⟨by omega,by omega⟩,hR e _ ?_⟩
            rw [take_succ_getD [] e,List.map_append]
            rfl
        · have : a = s.2.length := by omega
          subst this
          simp only [Int.lt_irrefl,decide_false,cond_false,List.take_length]
          exact (turnS_ok hv hn hperm).symm
    · rw [bne_iff_ne.2 hn]
      simp [turnS,hv,hn]
theorem law04_SetTurns.spec (s : PSet) (i k : Int) (l : List Int) : law04_SetTurns.wp s i k l (fun r => r = true) := by
  unfold law04_SetTurns.wp
  intro v0 v1 v2 v3 v4 v5 v6
  have ea : law04_awake.fn () = true := rfl
  have e3 : v3 = true := is_refl (roomS s i k)
  have e6 : v6 = true := is_refl (turnS s l)
  rw [e3,e6]
  refine ⟨fun h => ⟨h,trivial⟩,fun h => ⟨h,trivial⟩,fun h => by rw [h];rfl,?_⟩
  cases (!v0) || decide ((1000 : Int) < ((List.length l : Nat) : Int)) with
  | true => exact ea
  | false => exact ⟨fun h => ⟨h,h,h,h,trivial⟩,fun h => h,fun h => h,ea⟩
end Go.Proofs.YtldikbpclaeajaaGreatDoor
namespace Go.Proofs.YtldikbpclaeajaaGreatDoor
open Go Go.ChangeAt Go.ChangeShapes Go.RowKit Go.WideShapes
set_option linter.unusedVariables false
def Wf : (T : Ty) → T.den → Prop
  | .int k,n => (Lit.int k n).wf = true
  | .bool,_ => True
  | .str,s => ByteArray.size s ≤ maxLen
  | .sl T,l => List.length (α := T.den) l ≤ maxLen ∧ ∀ x ∈ (l : List T.den),Wf T x
  | .pair a b,x => Wf a x.1 ∧ Wf b x.2
  | .unit,_ => True
def FitTS (P : Program) (F : TypeId → Ty → Prop) : Nat → List Field → Ty → Prop
  | o,[f],T => f.offset = o ∧ P.cellsOf f.type = T.size ∧ F f.type T
  | o,f :: fs,.pair A B => f.offset = o ∧ P.cellsOf f.type = A.size ∧ F f.type A ∧ FitTS P F (o + A.size) fs B
  | _,_,_ => False
def FitT (P : Program) : Nat → TypeId → Ty → Prop
  | 0,_,_ => False
  | n + 1,t,T => (match T with
    | .int k => P.underlying t = some (.int k)
    | .bool => P.underlying t = some .bool
    | .str => P.underlying t = some .string
    | .sl T => ∃ e,P.underlying t = some (.slice e) ∧ P.cellsOf e = T.size ∧ 0 < T.size ∧ FitT P n e T
    | _ => False) ∨ ∃ fs,P.underlying t = some (.struct fs) ∧ P.cellsOf t = T.size ∧ FitTS P (FitT P n) 0 fs.toList T
section
variable {H : Type} {enc : TypeId × Value → H} {P : Program} {W : World} {held : Bool}
abbrev stab (W : World) : Nat → Prop := fun b => b < W.heap.size
theorem list_of {α : Type} {p : Nat → α → Prop} : ∀ n : Nat,(∀ i,i < n → ∃ y,p i y) → ∃ l : List α,l.length = n ∧ ∀ i y,l[i]? = some y → p i y
  | 0,_ => ⟨[],rfl,fun i y h => by simp at h⟩
  | n + 1,h => by
    obtain ⟨l,hl,hp⟩ := list_of n fun i hi => h i (by omega)
    obtain ⟨y,hy⟩ := h n (by omega)
    refine ⟨l ++ [y],by simp [hl],fun i z hz => ?_⟩
    by_cases e : i < l.length
    · rw [List.getElem?_append_left e] at hz;exact hp i z hz
    · rw [List.getElem?_append_right (by omega)] at hz
      have : i = l.length := by
        have := (List.getElem?_eq_some_iff.1 hz).1
        simp at this;omega
      subst this
      simp at hz
      subst hz
      rw [hl];exact hy
theorem openS {F : TypeId → Ty → Prop} {m : Nat} (hF : ∀ t T, F t T → ∀ cs x, DataW.trod enc P W 0 (fun _ => true) held m t cs = some x → ∃ y : T.den, Cells W (stab W) T y cs ∧ Wf T y) :
    ∀ {fs : List Field} {o : Nat} {T : Ty} {cs : List Value},FitTS P F o fs T → (∀ f ∈ fs,∃ x,DataW.trod enc P W 0 (fun _ => true) held m f.type ((cs.drop f.offset).take (P.cellsOf f.type)) = some x) → cs.length = o + T.size →
      ∃ y : T.den,Cells W (stab W) T y (cs.drop o) ∧ Wf T y
  | [],o,T,cs,h,_,_ => by unfold FitTS at h;exact h.elim
  | [f],o,T,cs,h,hx,hl => by
    have h' : f.offset = o ∧ P.cellsOf f.type = T.size ∧ F f.type T := by unfold FitTS at h;exact h
    obtain ⟨h1,h2,h3⟩ := h'
    obtain ⟨x,hx⟩ := hx f (by simp)
    rw [h1,h2,List.take_of_length_le (by rw [List.length_drop];omega)] at hx
    exact hF _ _ h3 _ _ hx
  | f :: g :: fs,o,T,cs,h,hx,hl => by
    cases T <;> unfold FitTS at h <;> try exact h.elim
    rename_i A B
    obtain ⟨h1,h2,h3,h4⟩ := h
    have hl' : cs.length = o + A.size + B.size := by rw [hl];simp only [Ty.size];omega
    obtain ⟨b,hb,hwb⟩ := openS hF (cs := cs) h4 (fun f hf => hx f (by simp [List.mem_cons.1 hf])) hl'
    obtain ⟨x,hx⟩ := hx f (by simp)
    rw [h1,h2] at hx
    obtain ⟨a,ha,hwa⟩ := hF _ _ h3 _ _ hx
    refine ⟨(a,b),⟨_,_,?_,ha,hb⟩,hwa,hwb⟩
    rw [← List.drop_drop,List.take_append_drop]
theorem cells_at {base : Nat} {a : Addr} {n : Nat} {cs : List Value} (h : W.cells? base a n = some cs) (hn : 0 < n) : a.spot = none ∧ a.block < W.heap.size ∧ cs.length = n ∧ ∀ j u,cs[j]? = some u → W.cell? ⟨a.block,a.off + j,none⟩ = some u := by
  obtain ⟨_,hl,hc⟩ := World.cells?_some h
  have h0 := hc 0 hn
  rw [List.getElem?_eq_getElem (by omega : 0 < cs.length)] at h0
  simp only [Addr.add,if_true,World.cell?] at h0
  have hs : a.spot = none ∧ a.block < W.heap.size := by
    split at h0
    · rename_i hb
      refine ⟨?_,(Array.getElem?_eq_some_iff.1 hb).1⟩
      split at h0
      · cases h0
      · rename_i hs;simpa using hs
    · cases h0
  refine ⟨hs.1,hs.2,hl,fun j u hj => ?_⟩
  have hjl : j < n := by rw [← hl];exact (List.getElem?_eq_some_iff.1 hj).1
  rw [← hj,← hc j hjl]
  obtain ⟨b,off,sp⟩ := a
  simp only at hs
  rw [hs.1]
  unfold Addr.add
  split
  · rename_i e;subst e;rfl
  · rfl
theorem open_T : ∀ (n : Nat) {t : TypeId} {T : Ty},FitT P n t T → ∀ (fuel : Nat) (cs : List Value) (x : DataW H × List MemPlace),DataW.trod enc P W 0 (fun _ => true) held fuel t cs = some x → ∃ y : T.den,Cells W (stab W) T y cs ∧ Wf T y
  | 0,_,_,h,_,_,_,_ => h.elim
  | n + 1,t,T,h,fuel,cs,x,hx => by
    unfold FitT at h
    rcases h with h | ⟨fs,h1,h2,h3⟩
    · cases T with
      | int k =>
        obtain ⟨z,rfl,_,hw⟩ := DataW.trod_int h hx
        exact ⟨z,rfl,hw⟩
      | bool =>
        obtain ⟨z,rfl,_⟩ := DataW.trod_bool h hx
        exact ⟨z,rfl,trivial⟩
      | str =>
        obtain ⟨z,rfl,_,hw⟩ := DataW.trod_string h hx
        exact ⟨z,rfl,hw⟩
      | sl T =>
        obtain ⟨e,h1,h2,h3,h4⟩ := h
        rcases DataW.trod_slice h1 hx with ⟨rfl,_⟩ | ⟨a,len,cap,elems,rest,m,_,rfl,_,_,hl,hm,hlen,hel,_,_⟩
        · exact ⟨[],⟨none,0,rfl,⟨Nat.le_refl _,Nat.zero_le _⟩,fun h => absurd rfl h⟩,Nat.zero_le _,fun x hx => by cases hx⟩
        · have each : ∀ i,i < len → ∃ y : T.den,(a.block < W.heap.size ∧ (len ≠ 0 → a.spot = none) ∧ ∃ cs',Cells W (stab W) T y cs' ∧ ∀ j u,cs'[j]? = some u → W.cell? ⟨a.block,a.off + i * T.size + j,none⟩ = some u) ∧ Wf T y := by
            intro i hi
            have h5 := hel i hi
            rw [List.getElem?_eq_getElem (by omega : i < elems.length),Option.bind_eq_some_iff] at h5
            obtain ⟨cs',h6,h7⟩ := h5
            rw [h2] at h6
            obtain ⟨y,hy,hw⟩ := open_T n h4 _ _ _ h7
            obtain ⟨k1,k2,k3,k4⟩ := cells_at h6 h3
            have hb : (a.add (i * T.size)).block = a.block := by unfold Addr.add;split <;> rfl
            have ho : (a.add (i * T.size)).off = a.off + i * T.size := by
              unfold Addr.add
              split
              · rename_i e;rw [e];rfl
              · rfl
            rw [hb,ho] at k4
            rw [hb] at k2
            refine ⟨y,⟨k2,fun _ => ?_,cs',hy,k4⟩,hw⟩
            have h50 := hel 0 (by omega)
            rw [List.getElem?_eq_getElem (by omega : 0 < elems.length),Option.bind_eq_some_iff] at h50
            obtain ⟨cs0,h60,_⟩ := h50
            rw [h2] at h60
            have := (cells_at h60 h3).1
            simpa [Addr.add] using this
          obtain ⟨l,hll,hlp⟩ := list_of len each
          refine ⟨l,⟨some a,cap,by rw [hll],⟨by rw [hll];exact hl,hm⟩,fun hne => ?_⟩,by show l.length ≤ maxLen;omega,fun y hy => ?_⟩
          · have hpos : 0 < len := by rw [← hll];exact List.length_pos_iff.2 hne
            obtain ⟨y0,⟨hb,hs,_⟩,_⟩ := each 0 hpos
            refine ⟨a.block,a.off,?_,hb,fun i x hi => ?_⟩
            · have := hs (by omega)
              obtain ⟨b,off,sp⟩ := a
              simp only at this
              rw [this]
            · obtain ⟨⟨_,_,cs',h8,h9⟩,_⟩ := hlp i x hi
              exact ⟨cs',h8,h9⟩
          · obtain ⟨i,hi⟩ := List.getElem?_of_mem hy
            exact (hlp i y hi).2
      | pair a b => exact h.elim
      | unit => exact h.elim
    · obtain ⟨xs,m,rfl,_,h4,h5,h6⟩ := DataW.trod_struct h1 hx
      have := openS (m := m) (fun t T hF cs x hx => open_T n hF m cs x hx) (cs := cs) h3 (fun f hf => by
        obtain ⟨i,hi⟩ := List.getElem?_of_mem hf
        have hi' : fs[i]? = some f := by simpa using hi
        have := h6 i f hi'
        have hlt : i < xs.length := by rw [h5];exact (Array.getElem?_eq_some_iff.1 hi').1
        exact ⟨xs[i],by rw [this,List.getElem?_eq_getElem hlt]⟩) (by rw [Nat.zero_add,h4,h2])
      simpa using this
def isPlain : Ty → Bool
  | .pair _ _ => false
  | _ => true
def envOf (W : World) : Env := ⟨W,stab W,fun _ => none⟩
theorem one_slice {r : Reach} {base : Nat} {t e : TypeId} {v : Value} (ht : P.underlying t = some (.slice e)) (h : Value.okWide P W r base t v) : v.cells = #[v] := by obtain ⟨a,l,c,rfl⟩ := okWide_slice ht h;rfl
theorem one_int {r : Reach} {base : Nat} {t : TypeId} {k : IntKind} {v : Value} (ht : P.underlying t = some (.int k)) (h : Value.okWide P W r base t v) : v.cells = #[v] := by obtain ⟨a,rfl⟩ := okWide_int ht h;rfl
theorem one_bool {r : Reach} {base : Nat} {t : TypeId} {v : Value} (ht : P.underlying t = some .bool) (h : Value.okWide P W r base t v) : v.cells = #[v] := by obtain ⟨a,rfl⟩ := okWide_bool ht h;rfl
theorem one_string {r : Reach} {base : Nat} {t : TypeId} {v : Value} (ht : P.underlying t = some .string) (h : Value.okWide P W r base t v) : v.cells = #[v] := by obtain ⟨a,rfl⟩ := okWide_string ht h;rfl
theorem arg_plain {n : Nat} {t : TypeId} {T : Ty} {v : Value} {d : DataW H} {p : List MemPlace} (hf : FitT P n t T) (hp : isPlain T = true) (h : DataW.Trod enc P W 0 (fun _ => true) held t v d p) (hv : v.cells = #[v]) : ∃ y : T.den,Rep P (envOf W) (argV T y) v ∧ Wf T y := by
  obtain ⟨fuel,h⟩ := h
  rw [hv] at h
  obtain ⟨y,hy,hw⟩ := open_T n hf _ _ _ h
  refine ⟨y,?_,hw⟩
  cases T <;> first | exact .d hy | (cases hp;done)
theorem arg_agg {n : Nat} {t : TypeId} {a b : Ty} {v : Value} {d : DataW H} {p : List MemPlace} (hf : FitT P n t (.pair a b)) (h : DataW.Trod enc P W 0 (fun _ => true) held t v d p) {fs : Array Field} {r : Reach} {base : Nat} (ht : P.underlying t = some (.struct fs)) (hk : Value.okWide P W r base t v) :
    ∃ y : (Ty.pair a b).den,Rep P (envOf W) (argV (.pair a b) y) v ∧ Wf (.pair a b) y := by
  obtain ⟨cs,rfl,_⟩ := okWide_struct ht hk
  obtain ⟨fuel,h⟩ := h
  obtain ⟨y,hy,hw⟩ := open_T n hf _ _ _ h
  have hr := flat_rep (P := P) (E := envOf W) hy
  refine ⟨y,.agg ?_ fun j hj => ?_,hw⟩
  · have := hr.1;simpa [Value.cells] using this
  · have := hr.2 j hj
    simpa [Value.cells,Array.getD_eq_getD_getElem?,List.getD_eq_getElem?_getD] using this
theorem sok_of {g : Nat} (hg : P.globalNamed "internal/strconv.uint64pow10" = some g) (h : Lib.TabIs P W "internal/strconv.uint64pow10" .u64 Lib.pow10Tab) : Sok P W (stab W) := by
  refine ⟨fun b hb => hb,g,?_,fun w' hw' => ?_⟩
  · unfold Lib.TabIs World.var? at h
    rw [hg] at h
    simp only [Option.bind_some] at h
    split at h
    · rename_i hb;exact (Array.getElem?_eq_some_iff.1 hb).1
    · cases h
  · unfold Lib.TabIs World.var? at h ⊢
    rw [hg] at h ⊢
    simp only [Option.bind_some] at h ⊢
    rw [hw'];exact h
theorem law_calls {τ : TyTab} (hτ : TabOk P τ) {run : RunT} (hrun : RunOk P run) {A : An} {f : FuncId} {fi : FI} (hok : fi.Ok P f) {ps : List PS} {xs : denPS ps} {C : Prop} (hw : C = fnW τ run A fi ps [.bool] xs fun r => r = true) (h : C) (hS : Sok P W (stab W)) {args : Array Value} (hr : Reps P (envOf W) (toVs ps xs) args.toList) :
    Calls P f args W fun e w' => e = .returned (.bool true) ∧ Below W.heap.size W w' := by
  subst hw
  refine (fnW_calls hτ hrun hok h hS hr).mono ?_
  rintro e w' ⟨v,S2,r,rfl,hg,hv,rfl⟩
  have hv' : Rep P ⟨w',S2,fun _ => none⟩ (.d .bool true) v := hv
  refine ⟨?_,hg.os,hg.tape,hg.output,hg.size,fun k hk => hg.frame k hk⟩
  cases hv' with | d h => rw [(List.cons.inj (show [v] = [Value.bool true] from h)).1]
end
end Go.Proofs.YtldikbpclaeajaaGreatDoor
