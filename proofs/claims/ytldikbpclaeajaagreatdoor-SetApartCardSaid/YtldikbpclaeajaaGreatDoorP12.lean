/- Part of a proof that a law of the program holds for every input: what the functions answer, in plain Lean. No conditions. -/
import Derived.Below
import Derived.Carry
import Derived.ChangeOld
import Derived.LaidMore
import Derived.Lib.LaidTab
import Derived.OpenShut
import Derived.ProofKit
import Derived.ShutString
import Derived.SizedLaws
import Derived.Stop.Joined
import Derived.WalkKit
import Derived.Test.YtldikbpclaeajaaGreatDoorP11
namespace Go.Proofs.YtldikbpclaeajaaGreatDoor
open Go
set_option linter.unusedVariables false
def PD (n : Nat) (l : List (List Cond)) : Prop := PP l ∧ ∀ p ∈ l,dims p n
theorem PD.at {n : Nat} {l : List (List Cond)} (h : PD n l) {p : List Cond} (hp : p ∈ l) : validP p ∧ dims p n := ⟨h.1.v hp,h.2 p hp⟩
theorem cutTid_one {a b : List Cond} {n : Nat} (ha : validP a) (hda : dims a n) (hb : validP b) (hbd : dims b n) {out o1 : List (List Cond)} (h : cutTid b out a = some o1) (hd : ∀ p ∈ out, dims p n) (x : List Int) :
    (∀ p ∈ o1,dims p n) ∧ inS o1 x = (inS out x || (inP a x && !inP b x)) := by
  unfold cutTid at h
  split at h
  · cases h
  · rename_i h0
    have h0 : (cutF a b).2 = 0 := by simpa using h0
    have hB : ∀ p ∈ (cutF a b).1,pieceB p ∧ dims p n := fun p hp => ⟨(cutF_B ha hb).2 p hp,cutF_dims hda hb hbd p hp⟩
    exact ⟨tidM_dims h hd hB,by rw [tidM_in (n := n) x hB h,cutF_in ha hb hda hbd x h0]⟩
theorem cutTidM_in {b : List Cond} {n : Nat} (hb : validP b) (hbd : dims b n) (x : List Int) : ∀ {l out out' : List (List Cond)}, (∀ a ∈ l, validP a ∧ dims a n) → (∀ p ∈ out, dims p n) → l.foldlM (cutTid b) out = some out' →
    (∀ p ∈ out',dims p n) ∧ inS out' x = (inS out x || (inS l x && !inP b x))
  | [],out,out',_,hd,h => by cases h;exact ⟨hd,by simp [inS]⟩
  | a :: l,out,out',hl,hd,h => by
    rw [List.foldlM_cons] at h
    obtain ⟨o1,h1,h2⟩ := Option.bind_eq_some_iff.1 h
    obtain ⟨ha,hda⟩ := hl a (by simp)
    obtain ⟨k1,k2⟩ := cutTid_one ha hda hb hbd h1 hd x
    obtain ⟨k3,k4⟩ := cutTidM_in hb hbd x (fun q hq => hl q (List.mem_cons_of_mem _ hq)) k1 h2
    refine ⟨k3,?_⟩
    rw [k4,k2]
    have e2 : inS (a :: l) x = (inP a x || inS l x) := by simp [inS]
    rw [e2]
    cases inS out x <;> cases inP a x <;> cases inS l x <;> cases inP b x <;> rfl
theorem minStep_in {cur cur' : List (List Cond)} {b : List Cond} {n : Nat} (hb : validP b) (hbd : dims b n) (hc : PD n cur) (x : List Int) (h : minStep cur b = some cur') : PD n cur' ∧ inS cur' x = (inS cur x && !inP b x) := by
  obtain ⟨k1,k2⟩ := cutTidM_in hb hbd x (l := cur) (out := []) (fun a ha => hc.at ha) (by simp) h
  exact ⟨⟨minStep_PP h hb hc.1,k1⟩,by rw [k2];simp [inS]⟩
theorem minM_in {n : Nat} (x : List Int) : ∀ {l cur cur' : List (List Cond)},PD n cur → (∀ b ∈ l,validP b ∧ dims b n) → l.foldlM minStep cur = some cur' → PD n cur' ∧ inS cur' x = (inS cur x && !inS l x)
  | [],cur,cur',hc,_,h => by cases h;exact ⟨hc,by simp [inS]⟩
  | b :: l,cur,cur',hc,hl,h => by
    rw [List.foldlM_cons] at h
    obtain ⟨o1,h1,h2⟩ := Option.bind_eq_some_iff.1 h
    obtain ⟨hb,hbd⟩ := hl b (by simp)
    obtain ⟨k1,k2⟩ := minStep_in hb hbd hc x h1
    obtain ⟨k3,k4⟩ := minM_in x k1 (fun q hq => hl q (List.mem_cons_of_mem _ hq)) h2
    refine ⟨k3,?_⟩
    rw [k4,k2]
    have e2 : inS (b :: l) x = (inP b x || inS l x) := by simp [inS]
    rw [e2]
    cases inS cur x <;> cases inS l x <;> cases inP b x <;> rfl
theorem normF_PD {s : PSet} (h : (normF s).2 = 0) : PD s.1.toNat (normF s).1.2 := ⟨(normF_PP h).1,normF_dims (normF_in [] h).2.2 h⟩
theorem minusF_in {a b : PSet} (h : (minusF a b).2 = 0) : (setValid a = true ∧ setValid b = true ∧ a.1 = b.1) ∧ PD a.1.toNat (minusF a b).1.2 ∧ (minusF a b).1.1 = a.1 ∧ ∀ x,inS (minusF a b).1.2 x = (inS a.2 x && !inS b.2 x) := by
  unfold minusF at h ⊢
  split at h
  · rename_i h0;exact absurd h h0
  · rename_i h0
    obtain ⟨ha,hb,he⟩ := bothErr_ok (by simpa using h0)
    rw [if_neg h0]
    split at h
    · cases h
    · rename_i h1
      rw [if_neg h1]
      have n1 : (normF a).2 = 0 := Classical.byContradiction fun h => h1 (.inl h)
      have n2 : (normF b).2 = 0 := Classical.byContradiction fun h => h1 (.inr h)
      obtain ⟨out,h2,h3⟩ := ofTid_some h
      rw [h3]
      have hb2 := normF_PD n2
      have key := fun x => minM_in x (normF_PD n1) (fun b' hb' => (by rw [he];exact hb2.at hb')) h2
      refine ⟨⟨ha,hb,he⟩,(key []).1,rfl,fun x => ?_⟩
      rw [(key x).2,(normF_in x n1).1,(normF_in x n2).1]
theorem setValid_PD {n : Int} {l : List (List Cond)} (h0 : 0 ≤ n) (h1 : n ≤ 12) (h : PD n.toNat l) : setValid (n,l) = true := by
  obtain ⟨⟨k1,k2⟩,k3⟩ := h
  simp only [setValid,Bool.and_eq_true,decide_eq_true_iff,List.all_eq_true,overF]
  refine ⟨⟨⟨h0,h1⟩,by omega⟩,fun p hp => ⟨by have := (k2 p hp).1;omega,fun c hc => ⟨(k2 p hp).2 c hc,?_⟩⟩⟩
  have := k3 p hp c hc
  rw [beq_iff_eq,this];omega
theorem PD_atOk {n : Nat} {l : List (List Cond)} (h : PD n l) {x : List Int} (hx : x.length = n) (hc : x.all Coord = true) : ∀ p ∈ l,∀ c ∈ p,atOk c x := fun p hp c hcp =>
  ⟨(h.1.2 p hp).2 c hcp,by rw [h.2 p hp c hcp,hx],List.all_eq_true.1 hc⟩
theorem setValid_PDof {s : PSet} (h : setValid s = true) : PD s.1.toNat s.2 := by
  have hb := setValid.b h
  exact ⟨⟨hb.2.2.1,fun p hp => setValid.piece h hp⟩,fun p hp => (setValid.D h hp).2⟩
theorem hasF_in {s : PSet} {x : List Int} (h : (hasF s x).2 = 0) : setValid s = true ∧ x.length = s.1.toNat ∧ x.all Coord = true ∧ (hasF s x).1 = inS s.2 x := by
  unfold hasF at h ⊢
  split at h
  · cases h
  · rename_i h0
    split at h
    · cases h
    · rename_i h1
      split at h
      · cases h
      · rename_i h2
        have hv : setValid s = true := by simpa using h0
        have hl : x.length = s.1.toNat := by omega
        have hc : x.all Coord = true := by simpa using h2
        refine ⟨hv,hl,hc,?_⟩
        rw [if_neg h0,if_neg h1,if_neg h2]
        show (s.2.any fun q => !q.any fun c => !(holdsF c x).1) = _
        rw [Bool.eq_iff_iff,List.any_eq_true,inS_iff]
        have hat := PD_atOk (setValid_PDof hv) hl hc
        constructor
        · rintro ⟨p,hp,h⟩
          refine ⟨p,hp,inP_iff.2 fun c hcp => ?_⟩
          simp only [Bool.not_eq_true',List.any_eq_false] at h
          have := h c hcp
          rw [dotF_ok (hat p hp c hcp)] at this
          simpa using this
        · rintro ⟨p,hp,h⟩
          refine ⟨p,hp,?_⟩
          simp only [Bool.not_eq_true',List.any_eq_false]
          intro c hcp
          rw [dotF_ok (hat p hp c hcp)]
          simpa using inP_iff.1 h c hcp
theorem whole_in (x : List Int) : inS [[]] x = true := by simp [inS,inP]
theorem law04_SetApart.spec (b : PSet) (x : List Int) : law04_SetApart.wp b x (fun r => r = true) := by
  unfold law04_SetApart.wp
  have eH : set_Has.fn (b,(x,())) = hasF b x := rfl
  have eM : ∀ a b : PSet,set_Minus.fn (a,(b,())) = minusF a b := fun _ _ => rfl
  simp only [eH,eM,law04_awake.fn]
  generalize law04_Few.fn ((6 : Int),((8 : Int),([b],()))) = few
  cases few with
  | false => simp
  | true =>
    simp only [Bool.not_true,cond_false]
    by_cases hn : b.1 < 0 ∨ 12 < b.1
    · have hW : set_Whole.fn (b.1,()) = ((0,[]),6) := if_pos hn
      simp [hW]
    · have hW : set_Whole.fn (b.1,()) = ((b.1,[[]]),0) := if_neg hn
      simp only [hW,bne_self_eq_false,Bool.not_false,Bool.false_or,true_and,forall_const]
      by_cases hH : (hasF b x).2 = 0
      · by_cases hM : (minusF (b.1,[[]]) b).2 = 0
        · obtain ⟨hv,hl,hc,hin⟩ := hasF_in hH
          obtain ⟨_,hPD,hM1,hMi⟩ := minusF_in hM
          simp only [hH,hM,bne_self_eq_false,Bool.not_false,Bool.false_or,cond_false,true_and,forall_const]
          have hB : hasF b x = (inS b.2 x,0) := by rw [← hin,← hH]
          have hmi : ∀ y,inS (minusF (b.1,[[]]) b).1.2 y = !inS b.2 y := fun y => by rw [hMi y,whole_in];rfl
          have hpre : ∀ {n : Int} {s : PSet},n = b.1 → PD n.toNat s.2 → ref04_Is.pre (s,(x,())) := fun {n s} e h => by subst e;exact PD_atOk h hl hc
          have hIs : ∀ s : PSet,ref04_Is.fn (s,(x,())) = inS s.2 x := fun _ => rfl
          have hIn : ∀ p : List Cond,ref04_In.fn (p,(x,())) = inP p x := fun _ => rfl
          simp only [hIs,hIn,hB,hmi]
          refine ⟨hpre rfl hPD,?_⟩
          have e0 : ((!inS b.2 x) == inS b.2 x) = false := by cases inS b.2 x <;> rfl
          rw [e0]
          simp only [cond_false]
          have hself : (minusF b b).2 = 0 → inS (minusF b b).1.2 x = false := fun h => by rw [(minusF_in h).2.2.2];cases inS b.2 x <;> rfl
          have hagain : (minusF (b.1,[[]]) (minusF (b.1,[[]]) b).1).2 = 0 → inS (minusF (b.1,[[]]) (minusF (b.1,[[]]) b).1).1.2 x = inS b.2 x := fun h => by rw [(minusF_in h).2.2.2,whole_in,hmi];cases inS b.2 x <;> rfl
          have hm := hmi x
          have hp1 : ∀ p ∈ (minusF (b.1,[[]]) b).1.2,ref04_In.pre (p,(x,())) := fun p hp => PD_atOk hPD hl hc p hp
          have hlen := hPD.1.1
          have q1 : (minusF b b).2 = 0 → ref04_Is.pre ((minusF b b).1,(x,())) := fun h => hpre rfl (minusF_in h).2.1
          have q2 : (minusF (b.1,[[]]) (minusF (b.1,[[]]) b).1).2 = 0 → ref04_Is.pre ((minusF (b.1,[[]]) (minusF (b.1,[[]]) b).1).1,(x,())) := fun h => hpre rfl (minusF_in h).2.1
          clear hM hPD hM1 hMi hmi hB hin hH eH eM hpre hIs hIn
          generalize minusF (b.1,[[]]) (minusF (b.1,[[]]) b).1 = M2 at *
          generalize minusF b b = M1 at *
          generalize (minusF (b.1,[[]]) b).1.2 = m at *
          have fin : ∀ k : Int,(0 < k ↔ inS m x = true) → (decide (0 < k) == !inS b.2 x) = true := fun k hk => by
            rw [beq_iff_eq,← hm,Bool.eq_iff_iff,decide_eq_true_iff,hk]
          refine Lp.iter m.length (fun i z => ∃ k : Int,z = ((i : Int),k) ∧ 0 ≤ k ∧ k ≤ i ∧ (0 < k ↔ inS (m.take i) x = true)) ⟨0,rfl,Int.le_refl _,Int.le_refl _,by simp [inS]⟩ ?_
          rintro i z hi ⟨k,rfl,h0,h1,h2⟩ R hR
          by_cases e : i < m.length
          · simp only [decide_eq_true (show (i : Int) < (m.length : Int) by omega),Int.toNat_natCast,cond_true]
            refine ⟨⟨by omega,by omega⟩,hp1 _ (getD_memL e),?_⟩
            have hf1 : fits IntKind.i64 (k + 1) := ⟨by omega,by omega⟩
            have hf2 : fits IntKind.i64 ((i : Int) + 1) := ⟨by omega,by omega⟩
            have ht : inS (m.take (i + 1)) x = (inS (m.take i) x || inP (m.getD i []) x) := by rw [take_succ_getD [] e,inS_append];simp [inS]
            cases hq : inP (m.getD i []) x with
            | true => exact ⟨hf1,hf2,hR e _ ⟨k + 1,rfl,by omega,by omega,by rw [ht,hq,Bool.or_true];simp;omega⟩⟩
            | false => exact ⟨hf2,hR e _ ⟨k,rfl,h0,by omega,by rw [ht,hq,Bool.or_false];exact h2⟩⟩
          · have hie : i = m.length := by omega
            subst hie
            rw [List.take_length] at h2
            have hfin := fin k h2
            simp only [decide_eq_false (show ¬ (m.length : Int) < (m.length : Int) by omega),cond_false,hfin,true_and,forall_const,Bool.and_true]
            refine ⟨fun h => ⟨h,h,q1 (by simpa using h)⟩,?_⟩
            have a1 : (M1.2 == 0 && inS M1.1.2 x) = false := by
              by_cases h : M1.2 = 0
              · rw [hself h,Bool.and_false]
              · simp [h]
            have a2 : (M2.2 == 0 && inS M2.1.2 x != inS b.2 x) = false := by
              by_cases h : M2.2 = 0
              · rw [hagain h];simp
              · simp [h]
            rw [a1,a2]
            simp only [cond_false]
            by_cases h12 : (m.length : Int) ≤ 12
            · simp only [decide_eq_true h12,cond_true]
              exact ⟨fun h => h,fun h => ⟨h,h,q2 (by simpa using h)⟩,fun h => ⟨h,h,trivial⟩,fun h => h,trivial⟩
            · simp [h12]
        · simp [hH,hM]
      · simp [hH]
end Go.Proofs.YtldikbpclaeajaaGreatDoor
namespace Go.Proofs.YtldikbpclaeajaaGreatDoor
open Go Go.ChangeAt Go.ChangeShapes Go.RowKit Go.WideShapes
set_option linter.unusedVariables false
def Wf : (T : Ty) → T.den → Prop
  | .int k,n => (Lit.int k n).wf = true
  | .bool,_ => True
  | .str,s => ByteArray.size s ≤ maxLen
  | .sl T,l => List.length (α := T.den) l ≤ maxLen ∧ ∀ x ∈ (l : List T.den),Wf T x
  | .pair a b,x => Wf a x.1 ∧ Wf b x.2
  | .unit,_ => True
def FitTS (P : Program) (F : TypeId → Ty → Prop) : Nat → List Field → Ty → Prop
  | o,[f],T => f.offset = o ∧ P.cellsOf f.type = T.size ∧ F f.type T
  | o,f :: fs,.pair A B => f.offset = o ∧ P.cellsOf f.type = A.size ∧ F f.type A ∧ FitTS P F (o + A.size) fs B
  | _,_,_ => False
def FitT (P : Program) : Nat → TypeId → Ty → Prop
  | 0,_,_ => False
  | n + 1,t,T => (match T with
    | .int k => P.underlying t = some (.int k)
    | .bool => P.underlying t = some .bool
    | .str => P.underlying t = some .string
    | .sl T => ∃ e,P.underlying t = some (.slice e) ∧ P.cellsOf e = T.size ∧ 0 < T.size ∧ FitT P n e T
    | _ => False) ∨ ∃ fs,P.underlying t = some (.struct fs) ∧ P.cellsOf t = T.size ∧ FitTS P (FitT P n) 0 fs.toList T
section
variable {H : Type} {enc : TypeId × Value → H} {P : Program} {W : World} {held : Bool}
abbrev stab (W : World) : Nat → Prop := fun b => b < W.heap.size
theorem list_of {α : Type} {p : Nat → α → Prop} : ∀ n : Nat,(∀ i,i < n → ∃ y,p i y) → ∃ l : List α,l.length = n ∧ ∀ i y,l[i]? = some y → p i y
  | 0,_ => ⟨[],rfl,fun i y h => by simp at h⟩
  | n + 1,h => by
    obtain ⟨l,hl,hp⟩ := list_of n fun i hi => h i (by omega)
    obtain ⟨y,hy⟩ := h n (by omega)
    refine ⟨l ++ [y],by simp [hl],fun i z hz => ?_⟩
    by_cases e : i < l.length
    · rw [List.getElem?_append_left e] at hz;exact hp i z hz
    · rw [List.getElem?_append_right (by omega)] at hz
      have : i = l.length := by
        have := (List.getElem?_eq_some_iff.1 hz).1
        simp at this;omega
      subst this
      simp at hz
      subst hz
      rw [hl];exact hy
theorem openS {F : TypeId → Ty → Prop} {m : Nat} (hF : ∀ t T, F t T → ∀ cs x, DataW.trod enc P W 0 (fun _ => true) held m t cs = some x → ∃ y : T.den, Cells W (stab W) T y cs ∧ Wf T y) :
    ∀ {fs : List Field} {o : Nat} {T : Ty} {cs : List Value},FitTS P F o fs T → (∀ f ∈ fs,∃ x,DataW.trod enc P W 0 (fun _ => true) held m f.type ((cs.drop f.offset).take (P.cellsOf f.type)) = some x) → cs.length = o + T.size →
      ∃ y : T.den,Cells W (stab W) T y (cs.drop o) ∧ Wf T y
  | [],o,T,cs,h,_,_ => by unfold FitTS at h;exact h.elim
  | [f],o,T,cs,h,hx,hl => by
    have h' : f.offset = o ∧ P.cellsOf f.type = T.size ∧ F f.type T := by unfold FitTS at h;exact h
    obtain ⟨h1,h2,h3⟩ := h'
    obtain ⟨x,hx⟩ := hx f (by simp)
    rw [h1,h2,List.take_of_length_le (by rw [List.length_drop];omega)] at hx
    exact hF _ _ h3 _ _ hx
  | f :: g :: fs,o,T,cs,h,hx,hl => by
    cases T <;> unfold FitTS at h <;> try exact h.elim
    rename_i A B
    obtain ⟨h1,h2,h3,h4⟩ := h
    have hl' : cs.length = o + A.size + B.size := by rw [hl];simp only [Ty.size];omega
    obtain ⟨b,hb,hwb⟩ := openS hF (cs := cs) h4 (fun f hf => hx f (by simp [List.mem_cons.1 hf])) hl'
    obtain ⟨x,hx⟩ := hx f (by simp)
    rw [h1,h2] at hx
    obtain ⟨a,ha,hwa⟩ := hF _ _ h3 _ _ hx
    refine ⟨(a,b),⟨_,_,?_,ha,hb⟩,hwa,hwb⟩
    rw [← List.drop_drop,List.take_append_drop]
theorem cells_at {base : Nat} {a : Addr} {n : Nat} {cs : List Value} (h : W.cells? base a n = some cs) (hn : 0 < n) : a.spot = none ∧ a.block < W.heap.size ∧ cs.length = n ∧ ∀ j u,cs[j]? = some u → W.cell? ⟨a.block,a.off + j,none⟩ = some u := by
  obtain ⟨_,hl,hc⟩ := World.cells?_some h
  have h0 := hc 0 hn
  rw [List.getElem?_eq_getElem (by omega : 0 < cs.length)] at h0
  simp only [Addr.add,if_true,World.cell?] at h0
  have hs : a.spot = none ∧ a.block < W.heap.size := by
    split at h0
    · rename_i hb
      refine ⟨?_,(Array.getElem?_eq_some_iff.1 hb).1⟩
      split at h0
      · cases h0
      · rename_i hs;simpa using hs
    · cases h0
  refine ⟨hs.1,hs.2,hl,fun j u hj => ?_⟩
  have hjl : j < n := by rw [← hl];exact (List.getElem?_eq_some_iff.1 hj).1
  rw [← hj,← hc j hjl]
  obtain ⟨b,off,sp⟩ := a
  simp only at hs
  rw [hs.1]
  unfold Addr.add
  split
  · rename_i e;subst e;rfl
  · rfl
theorem open_T : ∀ (n : Nat) {t : TypeId} {T : Ty},FitT P n t T → ∀ (fuel : Nat) (cs : List Value) (x : DataW H × List MemPlace),DataW.trod enc P W 0 (fun _ => true) held fuel t cs = some x → ∃ y : T.den,Cells W (stab W) T y cs ∧ Wf T y
  | 0,_,_,h,_,_,_,_ => h.elim
  | n + 1,t,T,h,fuel,cs,x,hx => by
    unfold FitT at h
    rcases h with h | ⟨fs,h1,h2,h3⟩
    · cases T with
      | int k =>
        obtain ⟨z,rfl,_,hw⟩ := DataW.trod_int h hx
        exact ⟨z,rfl,hw⟩
      | bool =>
        obtain ⟨z,rfl,_⟩ := DataW.trod_bool h hx
        exact ⟨z,rfl,trivial⟩
      | str =>
        obtain ⟨z,rfl,_,hw⟩ := DataW.trod_string h hx
        exact ⟨z,rfl,hw⟩
      | sl T =>
        obtain ⟨e,h1,h2,h3,h4⟩ := h
        rcases DataW.trod_slice h1 hx with ⟨rfl,_⟩ | ⟨a,len,cap,elems,rest,m,_,rfl,_,_,hl,hm,hlen,hel,_,_⟩
        · exact ⟨[],⟨none,0,rfl,⟨Nat.le_refl _,Nat.zero_le _⟩,fun h => absurd rfl h⟩,Nat.zero_le _,fun x hx => by cases hx⟩
        · have each : ∀ i,i < len → ∃ y : T.den,(a.block < W.heap.size ∧ (len ≠ 0 → a.spot = none) ∧ ∃ cs',Cells W (stab W) T y cs' ∧ ∀ j u,cs'[j]? = some u → W.cell? ⟨a.block,a.off + i * T.size + j,none⟩ = some u) ∧ Wf T y := by
            intro i hi
            have h5 := hel i hi
            rw [List.getElem?_eq_getElem (by omega : i < elems.length),Option.bind_eq_some_iff] at h5
            obtain ⟨cs',h6,h7⟩ := h5
            rw [h2] at h6
            obtain ⟨y,hy,hw⟩ := open_T n h4 _ _ _ h7
            obtain ⟨k1,k2,k3,k4⟩ := cells_at h6 h3
            have hb : (a.add (i * T.size)).block = a.block := by unfold Addr.add;split <;> rfl
            have ho : (a.add (i * T.size)).off = a.off + i * T.size := by
              unfold Addr.add
              split
              · rename_i e;rw [e];rfl
              · rfl
            rw [hb,ho] at k4
            rw [hb] at k2
            refine ⟨y,⟨k2,fun _ => ?_,cs',hy,k4⟩,hw⟩
            have h50 := hel 0 (by omega)
            rw [List.getElem?_eq_getElem (by omega : 0 < elems.length),Option.bind_eq_some_iff] at h50
            obtain ⟨cs0,h60,_⟩ := h50
            rw [h2] at h60
            have := (cells_at h60 h3).1
            simpa [Addr.add] using this
          obtain ⟨l,hll,hlp⟩ := list_of len each
          refine ⟨l,⟨some a,cap,by rw [hll],⟨by rw [hll];exact hl,hm⟩,fun hne => ?_⟩,by show l.length ≤ maxLen;omega,fun y hy => ?_⟩
          · have hpos : 0 < len := by rw [← hll];exact List.length_pos_iff.2 hne
            obtain ⟨y0,⟨hb,hs,_⟩,_⟩ := each 0 hpos
            refine ⟨a.block,a.off,?_,hb,fun i x hi => ?_⟩
            · have := hs (by omega)
              obtain ⟨b,off,sp⟩ := a
              simp only at this
              rw [this]
            · obtain ⟨⟨_,_,cs',h8,h9⟩,_⟩ := hlp i x hi
              exact ⟨cs',h8,h9⟩
          · obtain ⟨i,hi⟩ := List.getElem?_of_mem hy
            exact (hlp i y hi).2
      | pair a b => exact h.elim
      | unit => exact h.elim
    · obtain ⟨xs,m,rfl,_,h4,h5,h6⟩ := DataW.trod_struct h1 hx
      have := openS (m := m) (fun t T hF cs x hx => open_T n hF m cs x hx) (cs := cs) h3 (fun f hf => by
        obtain ⟨i,hi⟩ := List.getElem?_of_mem hf
        have hi' : fs[i]? = some f := by simpa using hi
        have := h6 i f hi'
        have hlt : i < xs.length := by rw [h5];exact (Array.getElem?_eq_some_iff.1 hi').1
        exact ⟨xs[i],by rw [this,List.getElem?_eq_getElem hlt]⟩) (by rw [Nat.zero_add,h4,h2])
      simpa using this
def isPlain : Ty → Bool
  | .pair _ _ => false
  | _ => true
def envOf (W : World) : Env := ⟨W,stab W,fun _ => none⟩
theorem one_slice {r : Reach} {base : Nat} {t e : TypeId} {v : Value} (ht : P.underlying t = some (.slice e)) (h : Value.okWide P W r base t v) : v.cells = #[v] := by obtain ⟨a,l,c,rfl⟩ := okWide_slice ht h;rfl
theorem one_int {r : Reach} {base : Nat} {t : TypeId} {k : IntKind} {v : Value} (ht : P.underlying t = some (.int k)) (h : Value.okWide P W r base t v) : v.cells = #[v] := by obtain ⟨a,rfl⟩ := okWide_int ht h;rfl
theorem one_bool {r : Reach} {base : Nat} {t : TypeId} {v : Value} (ht : P.underlying t = some .bool) (h : Value.okWide P W r base t v) : v.cells = #[v] := by obtain ⟨a,rfl⟩ := okWide_bool ht h;rfl
theorem one_string {r : Reach} {base : Nat} {t : TypeId} {v : Value} (ht : P.underlying t = some .string) (h : Value.okWide P W r base t v) : v.cells = #[v] := by obtain ⟨a,rfl⟩ := okWide_string ht h;rfl
theorem arg_plain {n : Nat} {t : TypeId} {T : Ty} {v : Value} {d : DataW H} {p : List MemPlace} (hf : FitT P n t T) (hp : isPlain T = true) (h : DataW.Trod enc P W 0 (fun _ => true) held t v d p) (hv : v.cells = #[v]) : ∃ y : T.den,Rep P (envOf W) (argV T y) v ∧ Wf T y := by
  obtain ⟨fuel,h⟩ := h
  rw [hv] at h
  obtain ⟨y,hy,hw⟩ := open_T n hf _ _ _ h
  refine ⟨y,?_,hw⟩
  cases T <;> first | exact .d hy | (cases hp;done)
theorem arg_agg {n : Nat} {t : TypeId} {a b : Ty} {v : Value} {d : DataW H} {p : List MemPlace} (hf : FitT P n t (.pair a b)) (h : DataW.Trod enc P W 0 (fun _ => true) held t v d p) {fs : Array Field} {r : Reach} {base : Nat} (ht : P.underlying t = some (.struct fs)) (hk : Value.okWide P W r base t v) :
    ∃ y : (Ty.pair a b).den,Rep P (envOf W) (argV (.pair a b) y) v ∧ Wf (.pair a b) y := by
  obtain ⟨cs,rfl,_⟩ := okWide_struct ht hk
  obtain ⟨fuel,h⟩ := h
  obtain ⟨y,hy,hw⟩ := open_T n hf _ _ _ h
  have hr := flat_rep (P := P) (E := envOf W) hy
  refine ⟨y,.agg ?_ fun j hj => ?_,hw⟩
  · have := hr.1;simpa [Value.cells] using this
  · have := hr.2 j hj
    simpa [Value.cells,Array.getD_eq_getD_getElem?,List.getD_eq_getElem?_getD] using this
theorem sok_of {g : Nat} (hg : P.globalNamed "internal/strconv.uint64pow10" = some g) (h : Lib.TabIs P W "internal/strconv.uint64pow10" .u64 Lib.pow10Tab) : Sok P W (stab W) := by
  refine ⟨fun b hb => hb,g,?_,fun w' hw' => ?_⟩
  · unfold Lib.TabIs World.var? at h
    rw [hg] at h
    simp only [Option.bind_some] at h
    split at h
    · rename_i hb;exact (Array.getElem?_eq_some_iff.1 hb).1
    · cases h
  · unfold Lib.TabIs World.var? at h ⊢
    rw [hg] at h ⊢
    simp only [Option.bind_some] at h ⊢
    rw [hw'];exact h
theorem law_calls {τ : TyTab} (hτ : TabOk P τ) {run : RunT} (hrun : RunOk P run) {A : An} {f : FuncId} {fi : FI} (hok : fi.Ok P f) {ps : List PS} {xs : denPS ps} {C : Prop} (hw : C = fnW τ run A fi ps [.bool] xs fun r => r = true) (h : C) (hS : Sok P W (stab W)) {args : Array Value} (hr : Reps P (envOf W) (toVs ps xs) args.toList) :
    Calls P f args W fun e w' => e = .returned (.bool true) ∧ Below W.heap.size W w' := by
  subst hw
  refine (fnW_calls hτ hrun hok h hS hr).mono ?_
  rintro e w' ⟨v,S2,r,rfl,hg,hv,rfl⟩
  have hv' : Rep P ⟨w',S2,fun _ => none⟩ (.d .bool true) v := hv
  refine ⟨?_,hg.os,hg.tape,hg.output,hg.size,fun k hk => hg.frame k hk⟩
  cases hv' with | d h => rw [(List.cons.inj (show [v] = [Value.bool true] from h)).1]
end
end Go.Proofs.YtldikbpclaeajaaGreatDoor
