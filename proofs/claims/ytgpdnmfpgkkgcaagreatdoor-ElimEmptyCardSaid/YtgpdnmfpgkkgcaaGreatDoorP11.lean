/- Part of a proof that a law of the program holds for every input: what the functions answer, in plain Lean. No conditions. -/
import Derived.Lib.ItoaLen
import Derived.Test.YtgpdnmfpgkkgcaaGreatDoorK10
namespace Go.Proofs.YtgpdnmfpgkkgcaaGreatDoor
open Go
set_option linter.unusedVariables false
theorem Lp.iter {σ:Type} {body:σ→(σ→Prop)→Prop} (n:Nat) (I:Nat→σ→Prop) {x:σ} (hx:I 0 x) (h:∀ i y,i≤n→I i y→∀ R:σ→Prop,(i < n→∀ y',I (i+1) y'→R y')→body y R):Lp body x:=by
 intro R hR
 have key:∀ k i y,i+k=n→I i y→R y:=by
  intro k
  induction k with
  | zero=>exact fun i y e hi=>hR _ (h i y (by omega) hi R fun hlt=>by omega)
  | succ k ih=>exact fun i y e hi=>hR _ (h i y (by omega) hi R fun _ y' hy'=>ih (i+1) y' (by omega) hy')
 exact key n 0 x (by omega) hx
theorem ZX {α:Type} {l:List α} {d:α} {i:Nat} (h:i < l.length):l.getD i d=l[i]:=by
 rw [List.getD_eq_getElem?_getD,List.getElem?_eq_getElem h];rfl
theorem ZqN {α:Type} {l:List α} {d:α} {p:α→Bool} {i:Nat} (hi:i < l.length) (h:p (l.getD i d)=false):l.all p=false:=by
 rw [List.getD_eq_getElem?_getD,List.getElem?_eq_getElem hi] at h
 rw [List.all_eq_false]
 exact ⟨l[i],List.getElem_mem hi,by simpa using h⟩
theorem ZsV {α:Type} {l:List α} {d:α} {p:α→Bool} (h:∀ j,j < l.length→p (l.getD j d)=true):l.all p=true:=by
 rw [List.all_eq_true]
 intro x hx
 obtain ⟨i,hi,rfl⟩:=List.mem_iff_getElem.1 hx
 have:=h i hi
 rwa [List.getD_eq_getElem?_getD,List.getElem?_eq_getElem hi] at this
theorem Lp.all {α : Type} {body : Int → (Int → Prop) → Prop} (l : List α) (d : α) (p : α → Bool) (hl : l.length ≤ 9223372036854775807)
 (h:∀ (i:Nat) (R:Int→Prop),i < l.length→(i:Int) < (l.length:Int)→Zr .i64 ((i:Int)+1)→(p (l.getD i d)=true→R ((i:Int)+1))→(p (l.getD i d)=false→l.all p=false)→body (i:Int) R)
 (h2:∀ R:Int→Prop,l.all p=true→body (l.length:Int) R):Lp body 0:=by
 refine Lp.iter l.length (fun i y=>y=(i:Int)∧∀ j,j < i→p (l.getD j d)=true) ⟨rfl,fun j hj=>absurd hj (by omega)⟩ ?_
 rintro i y hle ⟨rfl,hi⟩ R hR
 by_cases e:i < l.length
 ·refine h i R e (by omega) ⟨by omega,by omega⟩ (fun hp=>hR e _ ⟨by omega,fun j hj=>?_⟩) (fun hp=>ZqN e hp)
  by_cases ej:j=i
  ·subst ej;exact hp
  ·exact hi j (by omega)
 ·have:i=l.length:=by omega
  subst this
  exact h2 R (ZsV hi)
theorem Lp.foldl {α τ : Type} {body : Int × τ → (Int × τ → Prop) → Prop} (l : List α) (d : α) (f : τ → α → τ) (a : τ) (hl : l.length ≤ 9223372036854775807)
 (h:∀ (i:Nat) (t:τ) (R:Int×τ→Prop),i < l.length→(i:Int) < (l.length:Int)→Zr .i64 ((i:Int)+1)→t=(l.take i).foldl f a→R ((i:Int)+1,f t (l.getD i d))→body ((i:Int),t) R)
 (h2:∀ R:Int×τ→Prop,body ((l.length:Int),l.foldl f a) R):Lp body (0,a):=by
 refine Lp.iter l.length (fun i y=>y=((i:Int),(l.take i).foldl f a)) rfl ?_
 rintro i y hle rfl R hR
 by_cases e:i < l.length
 ·refine h i _ R e (by omega) ⟨by omega,by omega⟩ rfl ?_
  refine hR e _ ?_
  have:l.take (i+1)=l.take i++[l.getD i d]:=by
   rw [List.getD_eq_getElem?_getD,List.getElem?_eq_getElem e];simp
  rw [this,List.foldl_append]
  rfl
 ·have:i=l.length:=by omega
  subst this
  rw [List.take_length]
  exact h2 R
theorem Zj {α:Type} {l:List α} {d:α} {i:Nat} (h:i < l.length):l.getD i d∈l:=by
 rw [ZX h];exact List.getElem_mem h
theorem Lp.foldO {α τ : Type} {body : Int × τ → (Int × τ → Prop) → Prop} (l : List α) (d : α) (f : τ → α → Option τ) (a : τ) (hl : l.length ≤ 9223372036854775807)
 (h:∀ (i:Nat) (t:τ) (R:Int×τ→Prop),i < l.length→(i:Int) < (l.length:Int)→Zr .i64 ((i:Int)+1)→(l.take i).foldlM f a=some t→(∀ t',f t (l.getD i d)=some t'→R ((i:Int)+1,t'))→(f t (l.getD i d)=none→l.foldlM f a=none)→body ((i:Int),t) R)
 (h2:∀ (t:τ) (R:Int×τ→Prop),l.foldlM f a=some t→body ((l.length:Int),t) R):Lp body (0,a):=by
 refine Lp.iter l.length (fun i y=>∃ t,y=((i:Int),t)∧(l.take i).foldlM f a=some t) ⟨a,rfl,rfl⟩ ?_
 rintro i y hle ⟨t,rfl,ht⟩ R hR
 by_cases e:i < l.length
 ·have hs:l.take (i+1)=l.take i++[l.getD i d]:=by
   rw [List.getD_eq_getElem?_getD,List.getElem?_eq_getElem e];simp
  refine h i t R e (by omega) ⟨by omega,by omega⟩ ht (fun t' ht'=>hR e _ ⟨t',rfl,?_⟩) (fun hn=>?_)
  ·rw [hs,List.foldlM_append,ht]
   show (f t (l.getD i d)).bind _=_
   rw [ht'];rfl
  ·have h3:l=l.take i++(l.getD i d::l.drop (i+1)):=by
    rw [List.getD_eq_getElem?_getD,List.getElem?_eq_getElem e]
    simp
   rw [h3,List.foldlM_append,ht]
   simp only [Option.bind_eq_bind,Option.bind_some,List.foldlM_cons]
   have e4:(l.take i++l.getD i d::l.drop (i+1)).getD i d=l.getD i d:=by rw [← h3]
   rw [hn];rfl
 ·have:i=l.length:=by omega
  subst this
  rw [List.take_length] at ht
  exact h2 t R ht
theorem Lp.fill {α β : Type} {body : Int × List β → (Int × List β → Prop) → Prop} (l : List α) (d : α) (z : β) (f : α → β) (hl : l.length ≤ 9223372036854775807)
 (h:∀ (i:Nat) (out:List β) (R:Int×List β→Prop),i < l.length→(i:Int) < (l.length:Int)→Zr .i64 ((i:Int)+1)→out.length=l.length→R ((i:Int)+1,out.set i (f (l.getD i d)))→body ((i:Int),out) R)
 (h2:∀ R:Int×List β→Prop,body ((l.length:Int),l.map f) R):Lp body (0,List.replicate l.length z):=by
 refine Lp.iter l.length (fun i y=>y=((i:Int),(l.take i).map f++List.replicate (l.length - i) z)) (by simp) ?_
 rintro i y hle rfl R hR
 by_cases e:i < l.length
 ·refine h i _ R e (by omega) ⟨by omega,by omega⟩ (by simp;omega) (hR e _ ?_)
  congr 1
  have h1:l.length - i=(l.length - (i+1))+1:=by omega
  rw [h1,List.replicate_succ,List.set_append_right _ _ (by simp;omega)]
  have h3:i - ((l.take i).map f).length=0:=by simp;omega
  rw [h3,List.set_cons_zero,ZX e]
  have h4:l.take (i+1)=l.take i++[l[i]]:=by simp
  rw [h4,List.map_append,List.append_assoc]
  rfl
 ·have:i=l.length:=by omega
  subst this
  simp only [List.take_length,Nat.sub_self,List.replicate_zero,List.append_nil]
  exact h2 R
abbrev Lin:=List Int×Int
abbrev Zc:=Int×Int×List Int×Int
abbrev ZcB:=Int×List (List Zc)
abbrev Za:Zc:=(0,0,[],0)
def Fit (n:Int):Bool:=decide (-1048576≤n)&&decide (n≤1048576)
def ZaL (l:Lin):Bool:=l.1.all Fit&&(decide ((l.1.length:Int)≤12)&&Fit l.2)
def Zi (c:Zc):Bool:=if c.1=0∨c.1=1 then c.2.1 == 0&&ZaL c.2.2 else if c.1=2 then (decide (1≤c.2.1)&&decide (c.2.1≤512))&&ZaL c.2.2 else false
def Zkw (p:List Zc) (n:Int):Bool:=p.all fun c=>Zi c&&((c.2.2.1.length:Int) == n)
def Zz (s:ZcB):Bool:=decide (0≤s.1)&&decide (s.1≤12)&&decide ((s.2.length:Int)≤400)&&s.2.all fun p=>decide ((p.length:Int)≤96)&&Zkw p s.1
abbrev Zbj.fn (x:Int×Unit):Bool:=Fit x.1
abbrev Za1.fn (x:Lin×Unit):Bool:=ZaL x.1
abbrev ZH.fn (x:Zc×Unit):Bool:=Zi x.1
abbrev Zbn.fn (x:List Zc×Int×Unit):Bool:=Zkw x.1 x.2.1
abbrev ZaS.fn (x:ZcB×Unit):Bool:=Zz x.1
abbrev ZaO.fn (x:Int×Unit):Bool:=Fit x.1
abbrev ZaB.fn (x:Lin×Unit):Bool:=ZaL x.1
abbrev Zan.fn (x:Zc×Unit):Bool:=Zi x.1
abbrev Z9.fn (x:ZcB×Unit):Bool:=Zz x.1
abbrev ZaU.fn (x:Lin×Lin×Unit):Bool:=decide (x.1=x.2.1)
abbrev ZaG.fn (x:Zc×Zc×Unit):Bool:=decide (x.1=x.2.1)
abbrev ZF.fn (x:List Zc×List Zc×Unit):Bool:=decide (x.1=x.2.1)
abbrev ZaI.fn (x:ZcB×ZcB×Unit):Bool:=decide (x.1=x.2.1)
def Zbh (l:List Int):Nat:=l.foldl (fun g n=>Nat.gcd g n.natAbs) 0
abbrev Zba.fn (x:Int×Unit):Int:=if x.1 < 0 then IntKind.wrap .u64 (-IntKind.wrap .u64 x.1) else IntKind.wrap .u64 x.1
abbrev Z8.fn (x:Int×Int×Unit):Int:=if x.2.1≤0 then x.1 else if x.1 < 0 then x.2.1 else (Nat.gcd x.1.toNat x.2.1.toNat:Nat)
abbrev ZaD.fn (x:Int×Int×Unit):Int:=Z8.fn (x.1,Zba.fn (x.2.1,()),())
abbrev ZA.fn (x:List Int×Int×((Int×Int→Prop)×(Int×Int→Int))×Unit):Int:=x.1.foldl (fun g n=>x.2.2.1.2 (g,n)) x.2.1
abbrev ZA.pre (x:List Int×Int×((Int×Int→Prop)×(Int×Int→Int))×Unit):Prop:=∀ g,∀ n∈x.1,x.2.2.1.1 (g,n)
def ZcM (l:List Int):Prop:=∀ n∈l,-9223372036854775807≤n∧n≤9223372036854775807
abbrev Zbb.fn (x:List Int×Unit):Int×Int:=((Zbh x.1:Nat),0)
abbrev Zbb.pre (x:List Int×Unit):Prop:=ZcM x.1
abbrev ZaR.fn (x:List Int×Unit):Int×Int:=Zbb.fn x
abbrev ZaR.pre (x:List Int×Unit):Prop:=ZcM x.1
abbrev Zar.fn (x:Int×Int×Unit):Int×Int:=if x.2.1 < 1 then (0,1) else (x.1 / x.2.1,0)
abbrev Zar.pre (x:Int×Int×Unit):Prop:=-9223372036854775807≤x.1∧x.1≤9223372036854775807
abbrev Za9.fn (x:Int×Int×Unit):Int×Int:=if x.2.1 < 1 then (0,1) else (x.1 % x.2.1,0)
abbrev Za9.pre (x:Int×Int×Unit):Prop:=x.2.1≤9223372036854775807
abbrev Zad.fn (x:Int×Int×Unit):Int×Int:=Zar.fn x
abbrev Zad.pre (x:Int×Int×Unit):Prop:=Zar.pre x
abbrev ZaE.fn (x:Int×Int×Unit):Int×Int:=Za9.fn x
abbrev ZaE.pre (x:Int×Int×Unit):Prop:=Za9.pre x
abbrev Za4.fn (x:Int×Unit):Int:=Zba.fn x
set_option maxRecDepth 4000
def Zbj.wp (x0:Int) (Q:Bool→Prop):Prop:=((decide ((-(1048576:Int))≤x0)=true→(decide ((-(1048576:Int))≤x0)=true∧True))∧((decide ((-(1048576:Int))≤x0)=true→decide ((-(1048576:Int))≤x0)=true)∧Q (decide ((-(1048576:Int))≤x0)&&decide (x0≤(1048576:Int)))))
def Za1.wp (x0:Lin) (Q:Bool→Prop):Prop:=Lp (σ:=Int) (fun y2 R2=>cond (decide (y2 < ((List.length x0.1:Nat):Int))) (((0:Int)≤y2∧y2 < ((List.length x0.1:Nat):Int))∧cond (!(Zbj.fn ((List.getD x0.1 (Int.toNat y2) (0:Int)),()))) (Q false) (Zr IntKind.i64 (y2+(1:Int))∧R2 (y2+(1:Int)))) ((decide (((List.length x0.1:Nat):Int)≤(12:Int))=true→(decide (((List.length x0.1:Nat):Int)≤(12:Int))=true∧True))∧((decide (((List.length x0.1:Nat):Int)≤(12:Int))=true→(decide (((List.length x0.1:Nat):Int)≤(12:Int))=true∧True))∧((decide (((List.length x0.1:Nat):Int)≤(12:Int))=true→decide (((List.length x0.1:Nat):Int)≤(12:Int))=true)∧Q (decide (((List.length x0.1:Nat):Int)≤(12:Int))&&Zbj.fn (x0.2,())))))) (0:Int)
def ZH.wp (x0:Zc) (Q:Bool→Prop):Prop:=let v0:=Za1.fn (x0.2.2,());cond (x0.1 == (0:Int)) (cond (x0.1 == (0:Int)) (((x0.2.1 == (0:Int))=true→((x0.2.1 == (0:Int))=true∧True))∧(((x0.2.1 == (0:Int))=true→((x0.2.1 == (0:Int))=true∧True))∧(((x0.2.1 == (0:Int))=true→(x0.2.1 == (0:Int))=true)∧Q ((x0.2.1 == (0:Int))&&v0)))) (cond (x0.1 == (2:Int)) ((decide ((1:Int)≤x0.2.1)=true→(decide ((1:Int)≤x0.2.1)=true∧True))∧((decide ((1:Int)≤x0.2.1)=true→(decide ((1:Int)≤x0.2.1)=true∧True))∧((decide ((1:Int)≤x0.2.1)=true→decide ((1:Int)≤x0.2.1)=true)∧(((decide ((1:Int)≤x0.2.1)&&decide (x0.2.1≤(512:Int)))=true→((decide ((1:Int)≤x0.2.1)&&decide (x0.2.1≤(512:Int)))=true∧True))∧(((decide ((1:Int)≤x0.2.1)&&decide (x0.2.1≤(512:Int)))=true→((decide ((1:Int)≤x0.2.1)&&decide (x0.2.1≤(512:Int)))=true∧True))∧(((decide ((1:Int)≤x0.2.1)&&decide (x0.2.1≤(512:Int)))=true→(decide ((1:Int)≤x0.2.1)&&decide (x0.2.1≤(512:Int)))=true)∧Q ((decide ((1:Int)≤x0.2.1)&&decide (x0.2.1≤(512:Int)))&&v0))))))) (Q false))) (cond (x0.1 == (1:Int)) (((x0.2.1 == (0:Int))=true→((x0.2.1 == (0:Int))=true∧True))∧(((x0.2.1 == (0:Int))=true→((x0.2.1 == (0:Int))=true∧True))∧(((x0.2.1 == (0:Int))=true→(x0.2.1 == (0:Int))=true)∧Q ((x0.2.1 == (0:Int))&&v0)))) (cond (x0.1 == (2:Int)) ((decide ((1:Int)≤x0.2.1)=true→(decide ((1:Int)≤x0.2.1)=true∧True))∧((decide ((1:Int)≤x0.2.1)=true→(decide ((1:Int)≤x0.2.1)=true∧True))∧((decide ((1:Int)≤x0.2.1)=true→decide ((1:Int)≤x0.2.1)=true)∧(((decide ((1:Int)≤x0.2.1)&&decide (x0.2.1≤(512:Int)))=true→((decide ((1:Int)≤x0.2.1)&&decide (x0.2.1≤(512:Int)))=true∧True))∧(((decide ((1:Int)≤x0.2.1)&&decide (x0.2.1≤(512:Int)))=true→((decide ((1:Int)≤x0.2.1)&&decide (x0.2.1≤(512:Int)))=true∧True))∧(((decide ((1:Int)≤x0.2.1)&&decide (x0.2.1≤(512:Int)))=true→(decide ((1:Int)≤x0.2.1)&&decide (x0.2.1≤(512:Int)))=true)∧Q ((decide ((1:Int)≤x0.2.1)&&decide (x0.2.1≤(512:Int)))&&v0))))))) (Q false)))
def Zbn.wp (x0:List Zc) (x1:Int) (Q:Bool→Prop):Prop:=Lp (σ:=Int) (fun y3 R3=>let v0:=List.getD x0 (Int.toNat y3) Za;cond (decide (y3 < ((List.length x0:Nat):Int))) (((0:Int)≤y3∧y3 < ((List.length x0:Nat):Int))∧(((!(!(ZH.fn (v0,()))))=true→((!(!(ZH.fn (v0,()))))=true∧True))∧(((!(!(ZH.fn (v0,()))))=true→((!(!(ZH.fn (v0,()))))=true∧True))∧(((!(!(ZH.fn (v0,()))))=true→((!(!(ZH.fn (v0,()))))=true∧True))∧(((!(!(ZH.fn (v0,()))))=true→((!(!(ZH.fn (v0,()))))=true∧((!(!(ZH.fn (v0,()))))=true∧True)))∧(((!(ZH.fn (v0,())))=false→(!(!(ZH.fn (v0,()))))=true)∧cond ((!(ZH.fn (v0,())))||(((List.length v0.2.2.1:Nat):Int) != x1)) (Q false) (Zr IntKind.i64 (y3+(1:Int))∧R3 (y3+(1:Int))))))))) (Q true)) (0:Int)
def ZaS.wp (x0:Int×(List (List Zc))) (Q:Bool→Prop):Prop:=(((!(decide (x0.1 < (0:Int))))=true→((!(decide (x0.1 < (0:Int))))=true∧True))∧(((!(decide (x0.1 < (0:Int))))=true→((!(decide (x0.1 < (0:Int))))=true∧True))∧((decide (x0.1 < (0:Int))=false→(!(decide (x0.1 < (0:Int))))=true)∧(((!(decide (x0.1 < (0:Int))||decide ((12:Int) < x0.1)))=true→((!(decide (x0.1 < (0:Int))||decide ((12:Int) < x0.1)))=true∧True))∧(((!(decide (x0.1 < (0:Int))||decide ((12:Int) < x0.1)))=true→((!(decide (x0.1 < (0:Int))||decide ((12:Int) < x0.1)))=true∧True))∧(((!(decide (x0.1 < (0:Int))||decide ((12:Int) < x0.1)))=true→((!(decide (x0.1 < (0:Int))||decide ((12:Int) < x0.1)))=true∧True))∧(((decide (x0.1 < (0:Int))||decide ((12:Int) < x0.1))=false→(!(decide (x0.1 < (0:Int))||decide ((12:Int) < x0.1)))=true)∧cond ((decide (x0.1 < (0:Int))||decide ((12:Int) < x0.1))||decide ((400:Int) < ((List.length x0.2:Nat):Int))) (Q false) (Lp (σ:=Int) (fun y2 R2=>let v0:=List.getD x0.2 (Int.toNat y2) ([]:List (Zc));cond (decide (y2 < ((List.length x0.2:Nat):Int))) (((0:Int)≤y2∧y2 < ((List.length x0.2:Nat):Int))∧(((!(decide ((96:Int) < ((List.length v0:Nat):Int))))=true→((!(decide ((96:Int) < ((List.length v0:Nat):Int))))=true∧True))∧(((!(decide ((96:Int) < ((List.length v0:Nat):Int))))=true→((!(decide ((96:Int) < ((List.length v0:Nat):Int))))=true∧((!(decide ((96:Int) < ((List.length v0:Nat):Int))))=true∧True)))∧(((!(decide ((96:Int) < ((List.length v0:Nat):Int))))=true→((!(decide ((96:Int) < ((List.length v0:Nat):Int))))=true∧True))∧((decide ((96:Int) < ((List.length v0:Nat):Int))=false→(!(decide ((96:Int) < ((List.length v0:Nat):Int))))=true)∧cond (decide ((96:Int) < ((List.length v0:Nat):Int))||(!(Zbn.fn (v0,(x0.1,()))))) (Q false) (Zr IntKind.i64 (y2+(1:Int))∧R2 (y2+(1:Int)))))))) (Q true)) (0:Int)))))))))
def ZaO.wp (x0:Int) (Q:Bool→Prop):Prop:=((decide ((-(1048576:Int))≤x0)=true→(decide ((-(1048576:Int))≤x0)=true∧True))∧((decide ((-(1048576:Int))≤x0)=true→decide ((-(1048576:Int))≤x0)=true)∧Q (decide ((-(1048576:Int))≤x0)&&decide (x0≤(1048576:Int)))))
def ZaB.wp (x0:Lin) (Q:Bool→Prop):Prop:=Lp (σ:=Int) (fun y2 R2=>cond (decide (y2 < ((List.length x0.1:Nat):Int))) (((0:Int)≤y2∧y2 < ((List.length x0.1:Nat):Int))∧cond (!(ZaO.fn ((List.getD x0.1 (Int.toNat y2) (0:Int)),()))) (Q false) (Zr IntKind.i64 (y2+(1:Int))∧R2 (y2+(1:Int)))) ((decide (((List.length x0.1:Nat):Int)≤(12:Int))=true→(decide (((List.length x0.1:Nat):Int)≤(12:Int))=true∧True))∧((decide (((List.length x0.1:Nat):Int)≤(12:Int))=true→(decide (((List.length x0.1:Nat):Int)≤(12:Int))=true∧True))∧((decide (((List.length x0.1:Nat):Int)≤(12:Int))=true→decide (((List.length x0.1:Nat):Int)≤(12:Int))=true)∧Q (decide (((List.length x0.1:Nat):Int)≤(12:Int))&&(ZaO.fn (x0.2,()))))))) (0:Int)
def Zan.wp (x0:Zc) (Q:Bool→Prop):Prop:=cond (!(ZaB.fn (x0.2.2,()))) (Q false) (cond (x0.1 == (2:Int)) ((decide ((1:Int)≤x0.2.1)=true→(decide ((1:Int)≤x0.2.1)=true∧True))∧((decide ((1:Int)≤x0.2.1)=true→(decide ((1:Int)≤x0.2.1)=true∧True))∧((decide ((1:Int)≤x0.2.1)=true→decide ((1:Int)≤x0.2.1)=true)∧Q (decide ((1:Int)≤x0.2.1)&&decide (x0.2.1≤(512:Int)))))) (((!(x0.1 == (0:Int)))=true→((!(x0.1 == (0:Int)))=true∧True))∧(((!(x0.1 == (0:Int)))=true→((!(x0.1 == (0:Int)))=true∧True))∧(((x0.1 == (0:Int))=false→(!(x0.1 == (0:Int)))=true)∧((((x0.1 == (0:Int))||(x0.1 == (1:Int)))=true→(((x0.1 == (0:Int))||(x0.1 == (1:Int)))=true∧True))∧((((x0.1 == (0:Int))||(x0.1 == (1:Int)))=true→(((x0.1 == (0:Int))||(x0.1 == (1:Int)))=true∧True))∧((((x0.1 == (0:Int))||(x0.1 == (1:Int)))=true→((x0.1 == (0:Int))||(x0.1 == (1:Int)))=true)∧Q (((x0.1 == (0:Int))||(x0.1 == (1:Int)))&&(x0.2.1 == (0:Int))))))))))
def Z9.wp (x0:Int×(List (List Zc))) (Q:Bool→Prop):Prop:=(((!(decide (x0.1 < (0:Int))))=true→((!(decide (x0.1 < (0:Int))))=true∧True))∧(((!(decide (x0.1 < (0:Int))))=true→((!(decide (x0.1 < (0:Int))))=true∧True))∧((decide (x0.1 < (0:Int))=false→(!(decide (x0.1 < (0:Int))))=true)∧(((!(decide (x0.1 < (0:Int))||decide ((12:Int) < x0.1)))=true→((!(decide (x0.1 < (0:Int))||decide ((12:Int) < x0.1)))=true∧True))∧(((!(decide (x0.1 < (0:Int))||decide ((12:Int) < x0.1)))=true→((!(decide (x0.1 < (0:Int))||decide ((12:Int) < x0.1)))=true∧True))∧(((!(decide (x0.1 < (0:Int))||decide ((12:Int) < x0.1)))=true→((!(decide (x0.1 < (0:Int))||decide ((12:Int) < x0.1)))=true∧True))∧(((decide (x0.1 < (0:Int))||decide ((12:Int) < x0.1))=false→(!(decide (x0.1 < (0:Int))||decide ((12:Int) < x0.1)))=true)∧cond ((decide (x0.1 < (0:Int))||decide ((12:Int) < x0.1))||decide ((400:Int) < ((List.length x0.2:Nat):Int))) (Q false) (Lp (σ:=Int) (fun y2 R2=>let v0:=List.getD x0.2 (Int.toNat y2) ([]:List (Zc));cond (decide (y2 < ((List.length x0.2:Nat):Int))) (((0:Int)≤y2∧y2 < ((List.length x0.2:Nat):Int))∧cond (decide ((96:Int) < ((List.length v0:Nat):Int))) (Q false) (Lp (σ:=Int) (fun y4 R4=>let v1:=List.getD v0 (Int.toNat y4) Za;let v2:=Zan.fn (v1,());cond (decide (y4 < ((List.length v0:Nat):Int))) (((0:Int)≤y4∧y4 < ((List.length v0:Nat):Int))∧(((!(!v2))=true→((!(!v2))=true∧True))∧(((!(!v2))=true→((!(!v2))=true∧True))∧(((!(!v2))=true→((!(!v2))=true∧True))∧(((!(!v2))=true→((!(!v2))=true∧True))∧(((!(!v2))=true→((!(!v2))=true∧((!(!v2))=true∧True)))∧(((!v2)=false→(!(!v2))=true)∧cond ((!v2)||(((List.length v1.2.2.1:Nat):Int) != x0.1)) (Q false) (Zr IntKind.i64 (y4+(1:Int))∧R4 (y4+(1:Int)))))))))) (Zr IntKind.i64 (y2+(1:Int))∧R2 (y2+(1:Int)))) (0:Int))) (Q true)) (0:Int)))))))))
def ZaU.wp (x0:Lin) (x1:Lin) (Q:Bool→Prop):Prop:=(((!(((List.length x0.1:Nat):Int) != ((List.length x1.1:Nat):Int)))=true→((!(((List.length x0.1:Nat):Int) != ((List.length x1.1:Nat):Int)))=true∧True))∧(((!(((List.length x0.1:Nat):Int) != ((List.length x1.1:Nat):Int)))=true→((!(((List.length x0.1:Nat):Int) != ((List.length x1.1:Nat):Int)))=true∧True))∧(((!(((List.length x0.1:Nat):Int) != ((List.length x1.1:Nat):Int)))=true→((!(((List.length x0.1:Nat):Int) != ((List.length x1.1:Nat):Int)))=true∧((!(((List.length x0.1:Nat):Int) != ((List.length x1.1:Nat):Int)))=true∧True)))∧(((((List.length x0.1:Nat):Int) != ((List.length x1.1:Nat):Int))=false→(!(((List.length x0.1:Nat):Int) != ((List.length x1.1:Nat):Int)))=true)∧cond ((((List.length x0.1:Nat):Int) != ((List.length x1.1:Nat):Int))||(x0.2 != x1.2)) (Q false) (Lp (σ:=Int) (fun y3 R3=>cond (decide (y3 < ((List.length x0.1:Nat):Int))) (((0:Int)≤y3∧y3 < ((List.length x0.1:Nat):Int))∧(((0:Int)≤y3∧y3 < ((List.length x1.1:Nat):Int))∧cond ((List.getD x0.1 (Int.toNat y3) (0:Int)) != (List.getD x1.1 (Int.toNat y3) (0:Int))) (Q false) (Zr IntKind.i64 (y3+(1:Int))∧R3 (y3+(1:Int))))) (Q true)) (0:Int))))))
def ZaG.wp (x0:Zc) (x1:Zc) (Q:Bool→Prop):Prop:=(((x0.1 == x1.1)=true→((x0.1 == x1.1)=true∧True))∧(((x0.1 == x1.1)=true→((x0.1 == x1.1)=true∧True))∧(((x0.1 == x1.1)=true→((x0.1 == x1.1)=true∧((x0.1 == x1.1)=true∧True)))∧(((x0.1 == x1.1)=true→(x0.1 == x1.1)=true)∧((((x0.1 == x1.1)&&(x0.2.1 == x1.2.1))=true→(((x0.1 == x1.1)&&(x0.2.1 == x1.2.1))=true∧True))∧((((x0.1 == x1.1)&&(x0.2.1 == x1.2.1))=true→(((x0.1 == x1.1)&&(x0.2.1 == x1.2.1))=true∧True))∧((((x0.1 == x1.1)&&(x0.2.1 == x1.2.1))=true→(((x0.1 == x1.1)&&(x0.2.1 == x1.2.1))=true∧(((x0.1 == x1.1)&&(x0.2.1 == x1.2.1))=true∧True)))∧((((x0.1 == x1.1)&&(x0.2.1 == x1.2.1))=true→((x0.1 == x1.1)&&(x0.2.1 == x1.2.1))=true)∧Q (((x0.1 == x1.1)&&(x0.2.1 == x1.2.1))&&(ZaU.fn (x0.2.2,(x1.2.2,()))))))))))))
def ZF.wp (x0:List Zc) (x1:List Zc) (Q:Bool→Prop):Prop:=cond (((List.length x0:Nat):Int) != ((List.length x1:Nat):Int)) (Q false) (Lp (σ:=Int) (fun y3 R3=>cond (decide (y3 < ((List.length x0:Nat):Int))) (((0:Int)≤y3∧y3 < ((List.length x0:Nat):Int))∧(((0:Int)≤y3∧y3 < ((List.length x1:Nat):Int))∧cond (!(ZaG.fn ((List.getD x0 (Int.toNat y3) Za),((List.getD x1 (Int.toNat y3) Za),())))) (Q false) (Zr IntKind.i64 (y3+(1:Int))∧R3 (y3+(1:Int))))) (Q true)) (0:Int))
def ZaI.wp (x0:Int×(List (List Zc))) (x1:Int×(List (List Zc))) (Q:Bool→Prop):Prop:=(((!(x0.1 != x1.1))=true→((!(x0.1 != x1.1))=true∧True))∧(((!(x0.1 != x1.1))=true→((!(x0.1 != x1.1))=true∧True))∧(((!(x0.1 != x1.1))=true→((!(x0.1 != x1.1))=true∧True))∧(((!(x0.1 != x1.1))=true→((!(x0.1 != x1.1))=true∧True))∧(((!(x0.1 != x1.1))=true→((!(x0.1 != x1.1))=true∧((!(x0.1 != x1.1))=true∧True)))∧(((x0.1 != x1.1)=false→(!(x0.1 != x1.1))=true)∧cond ((x0.1 != x1.1)||(((List.length x0.2:Nat):Int) != ((List.length x1.2:Nat):Int))) (Q false) (Lp (σ:=Int) (fun y3 R3=>cond (decide (y3 < ((List.length x0.2:Nat):Int))) (((0:Int)≤y3∧y3 < ((List.length x0.2:Nat):Int))∧(((0:Int)≤y3∧y3 < ((List.length x1.2:Nat):Int))∧cond (!(ZF.fn ((List.getD x0.2 (Int.toNat y3) ([]:List (Zc))),((List.getD x1.2 (Int.toNat y3) ([]:List (Zc))),())))) (Q false) (Zr IntKind.i64 (y3+(1:Int))∧R3 (y3+(1:Int))))) (Q true)) (0:Int))))))))
def Zba.wp (x0:Int) (Q:Int→Prop):Prop:=let v0:=IntKind.wrap IntKind.u64 x0;cond (decide (x0 < (0:Int))) (Q (IntKind.wrap IntKind.u64 (-v0))) (Q v0)
def Z8.wp (x0:Int) (x1:Int) (Q:Int→Prop):Prop:=Lp (σ:=Int×Int) (fun y3 R3=>cond (decide ((0:Int) < y3.1)) (y3.1≠(0:Int)∧R3 (Int.tmod y3.2 y3.1,y3.1)) (Q y3.2)) (x1,x0)
def ZaD.wp (x0:Int) (x1:Int) (Q:Int→Prop):Prop:=Q (Z8.fn (x0,(Zba.fn (x1,()),())))
def ZA.wp (x0:List Int) (x1:Int) (x2:(Int×Int→Prop)×(Int×Int→Int)) (Q:Int→Prop):Prop:=Lp (σ:=Int×Int) (fun y4 R4=>let v0:=List.getD x0 (Int.toNat y4.1) (0:Int);cond (decide (y4.1 < ((List.length x0:Nat):Int))) (((0:Int)≤y4.1∧y4.1 < ((List.length x0:Nat):Int))∧(x2.1 (y4.2,v0)∧(Zr IntKind.i64 (y4.1+(1:Int))∧R4 ((y4.1+(1:Int)),x2.2 (y4.2,v0))))) (Q y4.2)) ((0:Int),x1)
def Zbb.wp (x0:List Int) (Q:Int×Int→Prop):Prop:=let v0:=ZA.fn (x0,((0:Int),((fun (a2:Int×Int)=>True,fun (a2:Int×Int)=>ZaD.fn (a2.1,(a2.2,()))),())));(ZA.pre (x0,((0:Int),((fun (a2:Int×Int)=>True,fun (a2:Int×Int)=>ZaD.fn (a2.1,(a2.2,()))),())))∧cond (decide ((9223372036854775807:Int) < v0)) (Q ((0:Int),(3:Int))) (Zr IntKind.i64 v0∧Q (v0,(0:Int))))
def Zar.wp (x0:Int) (x1:Int) (Q:Int×Int→Prop):Prop:=cond (decide (x1 < (1:Int))) (Q ((0:Int),(1:Int))) ((x1≠(0:Int)∧Zr IntKind.i64 (Int.tdiv x0 x1))∧(x1≠(0:Int)∧cond (decide (Int.tmod x0 x1 < (0:Int))) (Zr IntKind.i64 (Int.tdiv x0 x1 - (1:Int))∧Q ((Int.tdiv x0 x1 - (1:Int)),(0:Int))) (Q (Int.tdiv x0 x1,(0:Int)))))
def Za9.wp (x0:Int) (x1:Int) (Q:Int×Int→Prop):Prop:=cond (decide (x1 < (1:Int))) (Q ((0:Int),(1:Int))) (x1≠(0:Int)∧cond (decide (Int.tmod x0 x1 < (0:Int))) (Zr IntKind.i64 (Int.tmod x0 x1+x1)∧Q ((Int.tmod x0 x1+x1),(0:Int))) (Q (Int.tmod x0 x1,(0:Int))))
def ZaR.wp (x0:List Int) (Q:Int×Int→Prop):Prop:=Lp (σ:=Int×Int) (fun y2 R2=>cond (decide (y2.1 < ((List.length x0:Nat):Int))) (((0:Int)≤y2.1∧y2.1 < ((List.length x0:Nat):Int))∧Lp (σ:=Int×Int) (fun y4 R4=>cond (y4.1 != (0:Int)) (y4.1≠(0:Int)∧R4 (Int.tmod y4.2 y4.1,y4.1)) (Zr IntKind.i64 (y2.1+(1:Int))∧R2 ((y2.1+(1:Int)),y4.2))) (Za4.fn ((List.getD x0 (Int.toNat y2.1) (0:Int)),()),y2.2)) (cond (y2.2 == (9223372036854775808:Int)) (Q ((0:Int),(3:Int))) (Zr IntKind.i64 y2.2∧Q (y2.2,(0:Int))))) ((0:Int),(0:Int))
def Zad.wp (x0:Int) (x1:Int) (Q:Int×Int→Prop):Prop:=cond (decide (x1 < (1:Int))) (Q ((0:Int),(1:Int))) ((x1≠(0:Int)∧Zr IntKind.i64 (Int.tdiv x0 x1))∧(x1≠(0:Int)∧cond (decide (Int.tmod x0 x1 < (0:Int))) (Zr IntKind.i64 (Int.tdiv x0 x1 - (1:Int))∧Q ((Int.tdiv x0 x1 - (1:Int)),(0:Int))) (Q (Int.tdiv x0 x1,(0:Int)))))
def ZaE.wp (x0:Int) (x1:Int) (Q:Int×Int→Prop):Prop:=cond (decide (x1 < (1:Int))) (Q ((0:Int),(1:Int))) (x1≠(0:Int)∧cond (decide (Int.tmod x0 x1 < (0:Int))) (Zr IntKind.i64 (Int.tmod x0 x1+x1)∧Q ((Int.tmod x0 x1+x1),(0:Int))) (Q (Int.tmod x0 x1,(0:Int))))
def Za4.wp (x0:Int) (Q:Int→Prop):Prop:=let v0:=IntKind.wrap IntKind.u64 x0;cond (decide (x0 < (0:Int))) (Q (IntKind.wrap IntKind.u64 (-v0))) (Q v0)
theorem Zbj.spec (x:Int):Zbj.wp x (fun r=>r=Zbj.fn (x,())):=by simp [Zbj.wp,Zbj.fn,Fit]
theorem ZaO.spec (x:Int):ZaO.wp x (fun r=>r=ZaO.fn (x,())):=by simp [ZaO.wp,ZaO.fn,Fit]
theorem Za1.spec (x:Lin) (hl:x.1.length≤9223372036854775807):Za1.wp x (fun r=>r=Za1.fn (x,())):=by
 refine Lp.all x.1 0 Fit hl (fun i R hi hi' hf ht hff=>?_) (fun R h=>?_)
 ·rw [decide_eq_true hi']
  refine ⟨⟨by omega,hi'⟩,?_⟩
  rw [Int.toNat_natCast]
  show cond (!Fit (x.1.getD i 0)) _ _
  cases h:Fit (x.1.getD i 0) with
  | true=>exact ⟨hf,ht h⟩
  | false=>simp [Za1.fn,ZaL,hff h]
 ·simp [Za1.fn,Zbj.fn,ZaL,h]
theorem ZaB.spec (x:Lin) (hl:x.1.length≤9223372036854775807):ZaB.wp x (fun r=>r=ZaB.fn (x,())):=by
 refine Lp.all x.1 0 Fit hl (fun i R hi hi' hf ht hff=>?_) (fun R h=>?_)
 ·rw [decide_eq_true hi']
  refine ⟨⟨by omega,hi'⟩,?_⟩
  rw [Int.toNat_natCast]
  show cond (!Fit (x.1.getD i 0)) _ _
  cases h:Fit (x.1.getD i 0) with
  | true=>exact ⟨hf,ht h⟩
  | false=>simp [ZaB.fn,ZaL,hff h]
 ·simp [ZaB.fn,ZaO.fn,ZaL,h]
theorem ZH.spec (x:Zc):ZH.wp x (fun r=>r=ZH.fn (x,())):=by
 obtain ⟨k,m,l⟩:=x
 by_cases h0:k=0
 ·subst h0;simp [ZH.wp,ZH.fn,Zi,Za1.fn]
 by_cases h1:k=1
 ·subst h1;simp [ZH.wp,ZH.fn,Zi,Za1.fn]
 by_cases h2:k=2
 ·subst h2;simp [ZH.wp,ZH.fn,Zi,Za1.fn]
 simp [ZH.wp,ZH.fn,Zi,Za1.fn,h0,h1,h2]
theorem Zan.spec (x:Zc):Zan.wp x (fun r=>r=Zan.fn (x,())):=by
 obtain ⟨k,m,l⟩:=x
 simp only [Zan.wp,Zan.fn,Zi,ZaB.fn]
 cases hl:ZaL l<;>by_cases h0:k=0
 all_goals first | (subst h0;simp;done) | skip
 all_goals by_cases h1:k=1
 all_goals first | (subst h1;simp;done) | skip
 all_goals by_cases h2:k=2
 all_goals first | (subst h2;simp;done) | skip
 all_goals simp [h0,h1,h2]
theorem Zbn.spec (x:List Zc) (n:Int) (hl:x.length≤9223372036854775807):Zbn.wp x n (fun r=>r=Zbn.fn (x,n,())):=by
 refine Lp.all x Za (fun c=>Zi c&&((c.2.2.1.length:Int) == n)) hl (fun i R hi hi' hf ht hff=>?_) (fun R h=>?_)
 ·simp only [decide_eq_true hi',Int.toNat_natCast,ZH.fn]
  refine ⟨⟨by omega,hi'⟩,?_⟩
  have ht':Zi (x.getD i Za)=true→(((x.getD i Za).2.2.1.length:Int) == n)=true→R ((i:Int)+1):=fun h1 h2=>ht (by rw [h1,h2];rfl)
  have hff':(Zi (x.getD i Za)&&(((x.getD i Za).2.2.1.length:Int) == n))=false→Zbn.fn (x,n,())=false:=fun h=>hff h
  revert ht' hff'
  generalize x.getD i Za=c
  intro ht' hff'
  cases h1:Zi c with
  | false=>simp [hff' (by rw [h1];rfl)]
  | true =>
    cases h2:((c.2.2.1.length:Int) == n) with
    | true=>simp [bne,h2,hf,ht' h1 h2]
    | false=>simp [bne,h2,hff' (by rw [h1,h2];rfl)]
 ·simp [Zbn.fn,Zkw,h]
theorem ZaS.spec (x:ZcB) (hl:x.2.length≤9223372036854775807):ZaS.wp x (fun r=>r=ZaS.fn (x,())):=by
 obtain ⟨n,ps⟩:=x
 simp only [ZaS.wp,ZaS.fn]
 have hg:∀ b:Bool,(b=true→b=true∧True):=fun b h=>⟨h,trivial⟩
 have hn:∀ b:Bool,(b=false→(!b)=true):=fun b h=>by rw [h];rfl
 refine ⟨hg _,hg _,hn _,hg _,hg _,hg _,hn _,?_⟩
 by_cases h1:n < 0
 ·simp [h1,Zz,show ¬ 0≤n by omega]
 by_cases h2:12 < n
 ·simp [h1,h2,Zz,show ¬ n≤12 by omega]
 by_cases h3:(400:Int) < (ps.length:Int)
 ·simp only [decide_eq_true h3,Bool.or_true,cond_true]
  simp [Zz,show ¬ ((ps.length:Int)≤400) by omega]
 rw [decide_eq_false h1,decide_eq_false h2,decide_eq_false h3]
 have hv:∀ b,ps.all (fun p=>decide ((p.length:Int)≤96)&&Zkw p n)=b→Zz (n,ps)=b:=fun b h=>by
  simp only [Zz,h]
  rw [decide_eq_true (show (0:Int)≤n by omega),decide_eq_true (show n≤12 by omega),decide_eq_true (show (ps.length:Int)≤400 by omega)]
  rfl
 refine Lp.all ps [] (fun p=>decide ((p.length:Int)≤96)&&Zkw p n) hl (fun i R hi hi' hf ht hff=>?_) (fun R h=>?_)
 ·simp only [decide_eq_true hi',Int.toNat_natCast,Zbn.fn]
  refine ⟨⟨by omega,hi'⟩,?_⟩
  by_cases h4:(96:Int) < ((ps.getD i []).length:Int)
  ·simp only [decide_eq_true h4]
   have:=hv false (hff (by rw [decide_eq_false (show ¬ (((ps.getD i []).length:Int)≤96) by omega)];rfl))
   simp [this]
  ·simp only [decide_eq_false h4]
   cases h5:Zkw (ps.getD i []) n with
   | true =>
     have:=ht (by rw [h5,decide_eq_true (show (((ps.getD i []).length:Int)≤96) by omega)];rfl)
     simp [hf,this]
   | false =>
     have:=hv false (hff (by rw [h5,Bool.and_false]))
     simp [this]
 ·simp [hv true h]
theorem Zoy {α:Type} {a b:List α} {d:α} (hl:a.length=b.length) (h:∀ j,j < a.length→a.getD j d=b.getD j d):a=b:=by
 apply List.ext_getElem hl
 intro i h1 h2
 have:=h i h1
 rwa [ZX h1,ZX h2] at this
theorem ZaU.spec (x y:Lin) (hl:x.1.length≤9223372036854775807):ZaU.wp x y (fun r=>r=ZaU.fn (x,y,())):=by
 obtain ⟨c,k⟩:=x
 obtain ⟨d,m⟩:=y
 simp only [ZaU.wp,ZaU.fn]
 have hg:∀ b:Bool,(b=true→b=true∧True):=fun b h=>⟨h,trivial⟩
 refine ⟨hg _,hg _,fun h=>⟨h,h,trivial⟩,fun h=>by rw [h];rfl,?_⟩
 by_cases h1:c.length=d.length
 ·by_cases h2:k=m
  ·subst h2
   simp only [h1,bne_self_eq_false,Bool.or_false,cond_false]
   rw [show ((d.length:Nat):Int)=(c.length:Int) by omega]
   refine Lp.iter c.length (fun i y=>y=(i:Int)∧∀ j,j < i→c.getD j 0=d.getD j 0) ⟨rfl,fun j hj=>absurd hj (by omega)⟩ ?_
   rintro i y hle ⟨rfl,hi⟩ R hR
   by_cases e:i < c.length
   ·rw [decide_eq_true (show (i:Int) < (c.length:Int) by omega)]
    refine ⟨⟨by omega,by omega⟩,⟨by omega,by omega⟩,?_⟩
    rw [Int.toNat_natCast]
    by_cases h3:c.getD i 0=d.getD i 0
    ·rw [h3]
     simp only [bne_self_eq_false,cond_false]
     have hlc:c.length≤9223372036854775807:=hl
     refine ⟨⟨by omega,by omega⟩,hR e _ ⟨by omega,fun j hj=>?_⟩⟩
     by_cases ej:j=i
     ·subst ej;exact h3
     ·exact hi j (by omega)
    ·rw [bne_iff_ne.2 h3]
     refine (decide_eq_false fun h=>h3 ?_).symm
     rw [Prod.mk.injEq] at h
     rw [h.1]
   ·have:i=c.length:=by omega
    subst this
    simp only [Int.lt_irrefl,decide_false,cond_false]
    exact (decide_eq_true (by rw [Zoy h1 hi])).symm
  ·simp only [bne_iff_ne.2 h2,Bool.or_true,cond_true]
   exact (decide_eq_false fun h=>h2 (by rw [Prod.mk.injEq] at h;exact h.2)).symm
 ·simp only [bne_iff_ne.2 (show ((c.length:Nat):Int)≠(d.length:Int) by omega),Bool.true_or,cond_true]
  exact (decide_eq_false fun h=>h1 (by rw [Prod.mk.injEq] at h;rw [h.1])).symm
theorem ZaG.spec (x y:Zc):ZaG.wp x y (fun r=>r=ZaG.fn (x,y,())):=by
 obtain ⟨k,m,l⟩:=x
 obtain ⟨k',m',l'⟩:=y
 simp only [ZaG.wp,ZaG.fn,ZaU.fn]
 by_cases h1:k=k'<;>by_cases h2:m=m'<;>simp [h1,h2,Prod.ext_iff]
theorem Zjg {α : Type} {d : α} [DecidableEq α] {a b : List α} {Q : Bool → Prop} {body : Int → (Int → Prop) → Prop} (hl : a.length ≤ 9223372036854775807) (h1 : a.length = b.length) (hQ : Q (decide (a = b)))
 (h:∀ (i:Nat) (R:Int→Prop),i < a.length→i < b.length→Zr .i64 ((i:Int)+1)→(a.getD i d=b.getD i d→R ((i:Int)+1))→(a.getD i d≠b.getD i d→Q false)→body (i:Int) R) (h2:∀ R:Int→Prop,Q true→body (a.length:Int) R):Lp body 0:=by
 refine Lp.iter a.length (fun i y=>y=(i:Int)∧∀ j,j < i→a.getD j d=b.getD j d) ⟨rfl,fun j hj=>absurd hj (by omega)⟩ ?_
 rintro i y hle ⟨rfl,hi⟩ R hR
 by_cases e:i < a.length
 ·refine h i R e (by omega) ⟨by omega,by omega⟩ (fun he=>hR e _ ⟨by omega,fun j hj=>?_⟩) (fun hne=>?_)
  ·by_cases ej:j=i
   ·subst ej;exact he
   ·exact hi j (by omega)
  ·rwa [decide_eq_false (fun h=>hne (by rw [h]))] at hQ
 ·have:i=a.length:=by omega
  subst this
  refine h2 R ?_
  rwa [decide_eq_true (Zoy h1 hi)] at hQ
theorem ZF.spec (x y:List Zc) (hl:x.length≤9223372036854775807):ZF.wp x y (fun r=>r=ZF.fn (x,y,())):=by
 simp only [ZF.wp]
 by_cases h1:x.length=y.length
 ·rw [h1]
  simp only [bne_self_eq_false,cond_false]
  rw [← h1]
  refine Zjg (d:=Za) hl h1 (Q:=fun r=>r=ZF.fn (x,y,())) rfl (fun i R hi hi2 hf ht hff=>?_) (fun R h=>?_)
  ·rw [decide_eq_true (show (i:Int) < (x.length:Int) by omega)]
   refine ⟨⟨by omega,by omega⟩,⟨by omega,by omega⟩,?_⟩
   simp only [Int.toNat_natCast,ZaG.fn]
   by_cases e:x.getD i Za=y.getD i Za
   ·rw [decide_eq_true e];exact ⟨hf,ht e⟩
   ·rw [decide_eq_false e];exact hff e
  ·simp only [Int.lt_irrefl,decide_false,cond_false];exact h
 ·rw [bne_iff_ne.2 (show ((x.length:Nat):Int)≠(y.length:Int) by omega)]
  exact (decide_eq_false fun h=>h1 (congrArg List.length h)).symm
theorem ZaI.spec (x y:ZcB) (hl:x.2.length≤9223372036854775807):ZaI.wp x y (fun r=>r=ZaI.fn (x,y,())):=by
 obtain ⟨n,a⟩:=x
 obtain ⟨m,b⟩:=y
 simp only [ZaI.wp]
 have hg:∀ b:Bool,(b=true→b=true∧True):=fun b h=>⟨h,trivial⟩
 refine ⟨hg _,hg _,hg _,hg _,fun h=>⟨h,h,trivial⟩,fun h=>by rw [h];rfl,?_⟩
 by_cases h0:n=m
 ·by_cases h1:a.length=b.length
  ·subst h0
   simp only [h1,bne_self_eq_false,Bool.or_false,cond_false]
   rw [← h1]
   refine Zjg (d:=[]) (a:=a) (b:=b) hl h1 (Q:=fun r=>r=ZaI.fn ((n,a),(n,b),())) (by simp [ZaI.fn]) (fun i R hi hi2 hf ht hff=>?_) (fun R h=>?_)
   ·rw [decide_eq_true (show (i:Int) < (a.length:Int) by omega)]
    refine ⟨⟨by omega,by omega⟩,⟨by omega,by omega⟩,?_⟩
    simp only [Int.toNat_natCast,ZF.fn]
    by_cases e:a.getD i []=b.getD i []
    ·rw [decide_eq_true e];exact ⟨hf,ht e⟩
    ·rw [decide_eq_false e];exact hff e
   ·simp only [Int.lt_irrefl,decide_false,cond_false];exact h
  ·simp only [bne_iff_ne.2 (show ((a.length:Nat):Int)≠(b.length:Int) by omega),Bool.or_true,cond_true]
   exact (decide_eq_false fun h=>h1 (by rw [Prod.mk.injEq] at h;rw [h.2])).symm
 ·simp only [bne_iff_ne.2 h0,Bool.true_or,cond_true]
  exact (decide_eq_false fun h=>h0 (by rw [Prod.mk.injEq] at h;rw [h.1])).symm
theorem Zba.spec (n:Int):Zba.wp n (fun r=>r=Zba.fn (n,())):=by
 simp only [Zba.wp,Zba.fn]
 by_cases h:n < 0<;>simp [h]
theorem Za4.spec (n:Int):Za4.wp n (fun r=>r=Za4.fn (n,())):=by
 simp only [Za4.wp,Za4.fn,Zba.fn]
 by_cases h:n < 0<;>simp [h]
theorem Zq1 (n:Int):IntKind.wrap .u64 n=n % 18446744073709551616:=by simp [IntKind.wrap,IntKind.bits,IntKind.signed]
theorem Zqn {n:Int} (h:-9223372036854775807≤n) (h2:n≤9223372036854775807):Zba.fn (n,())=(n.natAbs:Int):=by
 simp only [Zba.fn,Zq1]
 split
 ·have h3:n % 18446744073709551616=n+18446744073709551616:=by omega
  rw [h3];omega
 ·rw [Int.emod_eq_of_lt (by omega) (by omega)];omega
theorem Zoz {a b:Int} (ha:0≤a) (hb:0 < b):Nat.gcd b.toNat (a.tmod b).toNat=Nat.gcd a.toNat b.toNat:=by
 obtain ⟨m,rfl⟩:∃ m:Nat,a=m:=⟨a.toNat,by omega⟩
 obtain ⟨k,rfl⟩:∃ k:Nat,b=k:=⟨b.toNat,by omega⟩
 rw [Int.tmod_eq_emod_of_nonneg ha,← Int.natCast_emod,Int.toNat_natCast,Int.toNat_natCast,Int.toNat_natCast,Nat.gcd_comm m k,Nat.gcd_rec k m,Nat.gcd_comm]
theorem Z8.spec (a b:Int):Z8.wp a b (fun r=>r=Z8.fn (a,b,())):=by
 simp only [Z8.wp]
 refine Lp.wf (fun y=>Z8.fn (y.2,y.1,())=Z8.fn (a,b,())) (fun y=>y.1.toNat) (fun y hy R hR=>?_) rfl
 obtain ⟨b',a'⟩:=y
 simp only at hy ⊢
 by_cases h:0 < b'
 ·rw [decide_eq_true h]
  have hlt:=Int.tmod_lt_of_pos a' h
  refine ⟨by omega,hR _ ?_ (by omega)⟩
  rw [← hy]
  simp only [Z8.fn]
  rw [if_neg (show ¬ b'≤0 by omega)]
  by_cases ha:a' < 0
  ·rw [if_pos ha,if_pos (show a'.tmod b'≤0 from by
    have:=Int.tmod_nonneg b' (show 0≤-a' by omega)
    rw [Int.neg_tmod] at this
    omega)]
  ·rw [if_neg ha]
   have h0:=Int.tmod_nonneg b' (show 0≤a' by omega)
   have:=Zoz (show 0≤a' by omega) h
   by_cases hz:a'.tmod b'≤0
   ·rw [if_pos hz]
    have e:a'.tmod b'=0:=by omega
    rw [e] at this
    simp only [Int.toNat_zero,Nat.gcd_zero_right] at this
    rw [← this];omega
   ·rw [if_neg hz,if_neg (show ¬ b' < 0 by omega),this]
 ·rw [decide_eq_false h]
  rw [← hy]
  simp only [Z8.fn]
  rw [if_pos (show b'≤0 by omega)]
  rfl
theorem ZaD.fn_eq (a n:Int) (ha:0≤a) (h:-9223372036854775807≤n) (h2:n≤9223372036854775807):ZaD.fn (a,n,())=(Nat.gcd a.toNat n.natAbs:Nat):=by
 simp only [ZaD.fn,Zqn h h2,Z8.fn]
 split
 ·have:n.natAbs=0:=by omega
  rw [this];simp;omega
 ·rw [if_neg (by omega)];simp
theorem ZaD.spec (a b:Int):ZaD.wp a b (fun r=>r=ZaD.fn (a,b,())):=rfl
theorem ZA.spec (l:List Int) (a:Int) (f:(Int×Int→Prop)×(Int×Int→Int)) (hl:l.length≤9223372036854775807) (hp:ZA.pre (l,a,f,())):ZA.wp l a f (fun r=>r=ZA.fn (l,a,f,())):=by
 refine Lp.foldl l 0 (fun g n=>f.2 (g,n)) a hl (fun i t R hi hi' hf ht hR=>?_) (fun R=>?_)
 ·simp only [decide_eq_true hi',Int.toNat_natCast]
  exact ⟨⟨by omega,hi'⟩,hp _ _ (Zj hi),hf,hR⟩
 ·simp only [Int.lt_irrefl,decide_false,cond_false]
theorem Zie {l:List Int} (h:ZcM l):∀ g:Nat,l.foldl (fun g n=>ZaD.fn (g,n,())) (g:Int)=((l.foldl (fun g n=>Nat.gcd g n.natAbs) g:Nat):Int):=by
 induction l with
 | nil=>exact fun g=>rfl
 | cons n l ih =>
   intro g
   have hn:=h n (by simp)
   simp only [List.foldl_cons]
   rw [ZaD.fn_eq _ _ (by omega) hn.1 hn.2]
   exact ih (fun m hm=>h m (by simp [hm])) _
theorem Zkb {l:List Int}:∀ g:Nat,0 < g→l.foldl (fun g n=>Nat.gcd g n.natAbs) g≤g:=by
 induction l with
 | nil=>exact fun g _=>Nat.le_refl _
 | cons n l ih =>
   intro g hg
   simp only [List.foldl_cons]
   exact Nat.le_trans (ih _ (Nat.gcd_pos_of_pos_left _ hg)) (Nat.gcd_le_left _ hg)
theorem ZkO {l:List Int} (h:ZcM l):Zbh l≤9223372036854775807:=by
 unfold Zbh
 have key:∀ l:List Int,ZcM l→l.foldl (fun g n=>Nat.gcd g n.natAbs) 0≤9223372036854775807:=by
  intro l
  induction l with
  | nil=>exact fun _=>by simp
  | cons n l ih =>
    intro h
    have hn:=h n (by simp)
    simp only [List.foldl_cons,Nat.gcd_zero_left]
    by_cases e:n.natAbs=0
    ·rw [e];exact ih (fun m hm=>h m (by simp [hm]))
    ·exact Nat.le_trans (Zkb _ (by omega)) (by omega)
 exact key l h
theorem Zbb.spec (l:List Int) (hp:Zbb.pre (l,())):Zbb.wp l (fun r=>r=Zbb.fn (l,())):=by
 have hle:Zbh l≤9223372036854775807:=ZkO hp
 have e:ZA.fn (l,0,(fun _=>True,fun a=>ZaD.fn (a.1,a.2,())),())=(Zbh l:Int):=Zie hp 0
 simp only [Zbb.wp]
 refine ⟨fun _ _ _=>trivial,?_⟩
 rw [e,decide_eq_false (show ¬ (9223372036854775807:Int) < (Zbh l:Int) by omega)]
 exact ⟨⟨by omega,by omega⟩,rfl⟩
theorem Zit {a b:Int} (hb:0 < b):(a.tmod b < 0→a.tdiv b - 1=a / b∧a.tmod b+b=a % b)∧(¬ a.tmod b < 0→a.tdiv b=a / b∧a.tmod b=a % b):=by
 have h1:=Int.emod_nonneg a (show b≠0 by omega)
 have h2:=Int.emod_lt_of_pos a hb
 rw [Int.tmod_eq_emod,Int.tdiv_eq_ediv]
 split
 ·exact ⟨fun h=>by omega,fun _=>⟨by omega,by omega⟩⟩
 ·rw [Int.sign_eq_one_of_pos hb]
  exact ⟨fun _=>⟨by omega,by omega⟩,fun h=>by omega⟩
theorem Zo7 {a b:Int} (hb:0 < b) (h:-9223372036854775807≤a) (h2:a≤9223372036854775807):-9223372036854775807≤a / b∧a / b≤9223372036854775807:=by
 constructor
 ·rw [Int.le_ediv_iff_mul_le hb]
  have:=Int.mul_le_mul_of_nonneg_left (show (1:Int)≤b by omega) (show (0:Int)≤9223372036854775807 by omega)
  rw [show (-9223372036854775807:Int)=-(9223372036854775807) from rfl,Int.neg_mul]
  omega
 ·refine Int.le_of_lt_add_one ?_
  rw [Int.ediv_lt_iff_lt_mul hb]
  have:=Int.mul_le_mul_of_nonneg_left (show (1:Int)≤b by omega) (show (0:Int)≤9223372036854775808 by omega)
  omega
theorem Zn8 {a b:Int} (hp:Zar.pre (a,b,())) {Q:Int×Int→Prop} (h:Q (Zar.fn (a,b,()))):cond (decide (b < (1:Int))) (Q ((0:Int),(1:Int))) ((b≠(0:Int)∧Zr IntKind.i64 (Int.tdiv a b))∧(b≠(0:Int)∧cond (decide (Int.tmod a b < (0:Int))) (Zr IntKind.i64 (Int.tdiv a b - (1:Int))∧Q ((Int.tdiv a b - (1:Int)),(0:Int))) (Q (Int.tdiv a b,(0:Int))))):=by
 simp only [Zar.fn] at h
 by_cases h1:b < 1
 ·rw [decide_eq_true h1];rwa [if_pos h1] at h
 ·rw [decide_eq_false h1]
  rw [if_neg h1] at h
  have hb:-9223372036854775807≤a / b∧a / b≤9223372036854775807:=Zo7 (b:=b) (by omega) hp.1 hp.2
  have hf:=Zit (a:=a) (b:=b) (by omega)
  have hq:Zr IntKind.i64 (a.tdiv b):=by
   by_cases h2:a.tmod b < 0
   ·have h5:=(hf.1 h2).1
    have ha:a < 0:=Int.not_le.1 fun h=>by have:=Int.tmod_nonneg b h;omega
    have:=Int.ediv_neg_of_neg_of_pos ha (show 0 < b by omega)
    exact ⟨by omega,by omega⟩
   ·have:=(hf.2 h2).1;exact ⟨by omega,by omega⟩
  refine ⟨⟨by omega,hq⟩,by omega,?_⟩
  by_cases h2:a.tmod b < 0
  ·rw [decide_eq_true h2]
   have:=(hf.1 h2).1
   rw [← this] at h
   exact ⟨⟨by omega,by omega⟩,h⟩
  ·rw [decide_eq_false h2]
   rw [← (hf.2 h2).1] at h
   exact h
theorem Zar.spec (a b:Int) (hp:Zar.pre (a,b,())):Zar.wp a b (fun r=>r=Zar.fn (a,b,())):=Zn8 (Q:=fun r=>r=Zar.fn (a,b,())) hp rfl
theorem Zad.spec (a b:Int) (hp:Zad.pre (a,b,())):Zad.wp a b (fun r=>r=Zad.fn (a,b,())):=Zn8 (Q:=fun r=>r=Zad.fn (a,b,())) hp rfl
theorem ZtT {a b:Int} (hp:Za9.pre (a,b,())) {Q:Int×Int→Prop} (h:Q (Za9.fn (a,b,()))):cond (decide (b < (1:Int))) (Q ((0:Int),(1:Int))) (b≠(0:Int)∧cond (decide (Int.tmod a b < (0:Int))) (Zr IntKind.i64 (Int.tmod a b+b)∧Q ((Int.tmod a b+b),(0:Int))) (Q (Int.tmod a b,(0:Int)))):=by
 simp only [Za9.fn] at h
 have hp:b≤9223372036854775807:=hp
 by_cases h1:b < 1
 ·rw [decide_eq_true h1];rwa [if_pos h1] at h
 ·rw [decide_eq_false h1]
  rw [if_neg h1] at h
  have hf:=Zit (a:=a) (b:=b) (by omega)
  have h3:=Int.emod_nonneg a (show b≠0 by omega)
  have h4:=Int.emod_lt_of_pos a (show 0 < b by omega)
  refine ⟨by omega,?_⟩
  by_cases h2:a.tmod b < 0
  ·rw [decide_eq_true h2]
   have:=(hf.1 h2).2
   rw [← this] at h
   exact ⟨⟨by omega,by omega⟩,h⟩
  ·rw [decide_eq_false h2]
   rw [← (hf.2 h2).2] at h
   exact h
theorem Za9.spec (a b:Int) (hp:Za9.pre (a,b,())):Za9.wp a b (fun r=>r=Za9.fn (a,b,())):=ZtT (Q:=fun r=>r=Za9.fn (a,b,())) hp rfl
theorem ZaE.spec (a b:Int) (hp:ZaE.pre (a,b,())):ZaE.wp a b (fun r=>r=ZaE.fn (a,b,())):=ZtT (Q:=fun r=>r=ZaE.fn (a,b,())) hp rfl
theorem ZaR.spec (l:List Int) (hl:l.length≤9223372036854775807) (hp:ZaR.pre (l,())):ZaR.wp l (fun r=>r=ZaR.fn (l,())):=by
 have e:=Zie hp 0
 have hle:Zbh l≤9223372036854775807:=ZkO hp
 refine Lp.foldl l 0 (fun g n=>ZaD.fn (g,n,())) 0 hl (fun i t R hi hi' hf ht hR=>?_) (fun R=>?_)
 ·simp only [decide_eq_true hi',Int.toNat_natCast]
  refine ⟨⟨by omega,hi'⟩,?_⟩
  have hn:=hp _ (Zj (d:=0) hi)
  have h0:0≤t:=by
   have:=Zie (l:=l.take i) (fun m hm=>hp m (List.mem_of_mem_take hm)) 0
   rw [ht,show (0:Int)=((0:Nat):Int) from rfl,this];omega
  rw [ZaD.fn_eq _ _ h0 hn.1 hn.2] at hR
  show Lp _ (Zba.fn (l.getD i 0,()),t)
  rw [Zqn hn.1 hn.2]
  revert hR
  generalize (l.getD i 0).natAbs=m
  intro hR
  refine Lp.wf (fun y=>0≤y.1∧0≤y.2∧Nat.gcd y.2.toNat y.1.toNat=Nat.gcd t.toNat m) (fun y=>y.1.toNat) (fun y hy R2 hR2=>?_) ⟨by simp,h0,by simp⟩
  obtain ⟨b',a'⟩:=y
  obtain ⟨h1,h2,h3⟩:=hy
  simp only at h1 h2 h3 ⊢
  by_cases hz:b'=0
  ·subst hz
   simp only [bne_self_eq_false,cond_false]
   refine ⟨hf,?_⟩
   rw [← h3] at hR
   simp only [Int.toNat_zero,Nat.gcd_zero_right,Int.toNat_of_nonneg h2] at hR
   exact hR
  ·rw [bne_iff_ne.2 hz]
   have hlt:=Int.tmod_lt_of_pos a' (show 0 < b' by omega)
   have h0':=Int.tmod_nonneg b' h2
   exact ⟨hz,hR2 _ ⟨h0',h1,by rw [Zoz h2 (by omega)];exact h3⟩ (by show (a'.tmod b').toNat < b'.toNat;omega)⟩
 ·simp only [Int.lt_irrefl,decide_false,cond_false]
  have e':l.foldl (fun g n=>ZaD.fn (g,n,())) 0=(Zbh l:Int):=e
  rw [e']
  have:((Zbh l:Int) == 9223372036854775808)=false:=by
   rw [beq_eq_false_iff_ne];omega
  rw [this]
  exact ⟨⟨by omega,by omega⟩,rfl⟩
def Zfd (n:Int):Prop:=-2305843009213693952≤n∧n≤2305843009213693952
def linB (l:Lin):Prop:=l.1.length≤1048576∧(∀ n∈l.1,Zfd n)∧Zfd l.2
def Zpw (c:Zc):Prop:=c.1=0∨c.1=1∨(c.1=2∧1≤c.2.1∧c.2.1≤2305843009213693952)
def condB (c:Zc):Prop:=Zpw c∧linB c.2.2
def Za2 (p:List Zc):Prop:=p.length≤1048576∧∀ c∈p,condB c
def ZcK (b:Bool):Zc×Int:=(Za,if b then 1 else -1)
def geF (c:Zc):Zc×Int:=if Zbh c.2.2.1=0 then ZcK (decide (0≤c.2.2.2)) else ((0,0,c.2.2.1.map (·.tdiv (Zbh c.2.2.1)),c.2.2.2 / (Zbh c.2.2.1:Int)),0)
def Zbc:List Int→Bool
 | []=>false
 | n::l=>if n=0 then Zbc l else decide (n < 0)
def Zbm (c:Zc):Int:=if Zbc c.2.2.1 then -(Zbh c.2.2.1:Int) else (Zbh c.2.2.1:Int)
def eqF (c:Zc):Zc×Int:=if Zbh c.2.2.1=0∨c.2.2.2.tmod (Zbh c.2.2.1)≠0 then ZcK (decide (Zbh c.2.2.1=0)&&(c.2.2.2 == 0)) else ((1,0,c.2.2.1.map (·.tdiv (Zbm c)),c.2.2.2.tdiv (Zbm c)),0)
def Zb7 (c:Zc):Nat:=Zbh (c.2.1::c.2.2.1.map (· % c.2.1))
def ZkN (c:Zc):Zc×Int:=if (c.2.2.2 % c.2.1).tmod (Zb7 c)≠0 then ZcK false else if c.2.1=Zb7 c then ZcK true else ((2,c.2.1.tdiv (Zb7 c),(c.2.2.1.map (· % c.2.1)).map (·.tdiv (Zb7 c)),(c.2.2.2 % c.2.1).tdiv (Zb7 c)),0)
def ZbE (c:Zc):Zc×Int:=if c.1=0 then geF c else if c.1=1 then eqF c else ZkN c
abbrev Zw.fn (x:Zc×Int×Unit):List Int:=x.1.2.2.1.map (·.tdiv x.2.1)
abbrev Zw.pre (x:Zc×Int×Unit):Prop:=x.2.1≠0∧x.1.2.2.1.length≤1048576∧ZcM x.1.2.2.1
abbrev ZaN.fn (x:Bool×Unit):Zc×Int:=ZcK x.1
abbrev Zau.fn (x:Bool×Unit):Zc×Int:=ZcK x.1
abbrev ZP.fn (x:Zc×Unit):Zc×Int:=geF x.1
abbrev ZP.pre (x:Zc×Unit):Prop:=linB x.1.2.2
abbrev ZO.fn (x:Zc×Unit):Zc×Int:=eqF x.1
abbrev ZO.pre (x:Zc×Unit):Prop:=linB x.1.2.2
abbrev ZG.fn (x:Zc×Unit):Zc×Int:=ZkN x.1
abbrev ZG.pre (x:Zc×Unit):Prop:=linB x.1.2.2∧1≤x.1.2.1∧x.1.2.1≤2305843009213693952
abbrev ZaK.fn (x:Zc×Unit):Zc×Int:=ZbE x.1
abbrev ZaK.pre (x:Zc×Unit):Prop:=condB x.1
def Zha (a b:Int):Int:=if a < b then -1 else if b < a then 1 else 0
def ZcY:List Int→List Int→Int
 | [],[]=>0
 | [],_::_=>-1
 | _::_,[]=>1
 | x::a,y::b=>if Zha x y=0 then ZcY a b else Zha x y
def orL:List Int→Int
 | []=>0
 | n::l=>if n=0 then orL l else n
def Zcc (k:Int):Int:=if k=0 then 1 else if k=1 then 0 else 2
def Zhu (a b:Zc):Int:=orL [Zha (Zcc a.1) (Zcc b.1),Zha a.2.1 b.2.1,ZcY a.2.2.1 b.2.2.1,Zha a.2.2.2 b.2.2.2]
abbrev Z3.fn (x:Int×Unit):Bool:=false
abbrev ZD.fn (x:Int×Int×Unit):Int:=Zha x.1 x.2.1
abbrev Za7.fn (x:List Int×Unit):Int:=orL x.1
abbrev Zn.fn (x:List Int×List Int×Unit):Int:=ZcY x.1 x.2.1
def Zf3 (k:Int):Prop:=k=0∨k=1∨k=2
abbrev Zao.fn (x:Zc×Zc×Unit):Int:=Zhu x.1 x.2.1
abbrev Zao.pre (x:Zc×Zc×Unit):Prop:=Zf3 x.1.1∧Zf3 x.2.1.1
abbrev ZaW.fn (x:Zc×Unit):Bool:=!Zi x.1
abbrev Zai.fn (x:Zc×Zc×Unit):Bool:=Zhu x.1 x.2.1 == 0
abbrev Zai.pre (x:Zc×Zc×Unit):Prop:=Zf3 x.1.1∧Zf3 x.2.1.1
def Zpr {α:Type} (f:α→Bool):List α→Int→Int
 | [],_=>-1
 | x::l,i=>if f x then i else Zpr f l (i+1)
abbrev Ze.fn (x:List Zc×((Zc→Prop)×(Zc→Bool))×Unit):Int:=Zpr x.2.1.2 x.1 0
abbrev Ze.pre (x:List Zc×((Zc→Prop)×(Zc→Bool))×Unit):Prop:=∀ c∈x.1,x.2.1.1 c
abbrev Zd.fn (x:List Zc×((Zc→Prop)×(Zc→Bool))×Unit):Bool:=x.1.any x.2.1.2
abbrev Zd.pre (x:List Zc×((Zc→Prop)×(Zc→Bool))×Unit):Prop:=∀ c∈x.1,x.2.1.1 c
def Zw.wp (x0:Zc) (x1:Int) (Q:(List Int)→Prop):Prop:=(((0:Int)≤((List.length x0.2.2.1:Nat):Int)∧(((List.length x0.2.2.1:Nat):Int)≤((List.length x0.2.2.1:Nat):Int)∧((((List.length x0.2.2.1:Nat):Int)*((8:Nat):Int))≤(140737488355328:Int)∧((List.length x0.2.2.1:Nat):Int)≤(9223372036854775807:Int))))∧Lp (σ:=Int×List Int) (fun y3 R3=>let v2:=List.getD x0.2.2.1 (Int.toNat y3.1) (0:Int);cond (decide (y3.1 < ((List.length x0.2.2.1:Nat):Int))) (((0:Int)≤y3.1∧y3.1 < ((List.length x0.2.2.1:Nat):Int))∧((x1≠(0:Int)∧Zr IntKind.i64 (Int.tdiv v2 x1))∧(((0:Int)≤y3.1∧y3.1 < ((List.length y3.2:Nat):Int))∧(Int.toNat y3.1 < List.length y3.2∧(Zr IntKind.i64 (y3.1+(1:Int))∧R3 ((y3.1+(1:Int)),(List.set y3.2 (Int.toNat y3.1) (Int.tdiv v2 x1)))))))) (Q y3.2)) ((0:Int),(List.replicate (Int.toNat ((List.length x0.2.2.1:Nat):Int)) (0:Int))))
def ZaN.wp (x0:Bool) (Q:Zc×Int→Prop):Prop:=cond x0 (Q (Za,(1:Int))) (Q (Za,(-(1:Int))))
def ZP.wp (x0:Zc) (Q:Zc×Int→Prop):Prop:=let v0:=Zbb.fn (x0.2.2.1,());(Zbb.pre (x0.2.2.1,())∧cond (v0.1 == (0:Int)) (Q (ZaN.fn (decide ((0:Int)≤x0.2.2.2),()))) (Zar.pre (x0.2.2.2,(v0.1,()))∧(Zw.pre (x0,(v0.1,()))∧Q (((0:Int),((0:Int),((Zw.fn (x0,(v0.1,()))),(Zar.fn (x0.2.2.2,(v0.1,()))).1))),(0:Int)))))
def ZO.wp (x0:Zc) (Q:Zc×Int→Prop):Prop:=let v0:=Zbb.fn (x0.2.2.1,());let v3:=Int.tdiv x0.2.2.2 (-v0.1);let v5:=Zw.fn (x0,(v0.1,()));(Zbb.pre (x0.2.2.1,())∧(((!(v0.1 == (0:Int)))=true→((!(v0.1 == (0:Int)))=true∧True))∧(((!(v0.1 == (0:Int)))=true→((!(v0.1 == (0:Int)))=true∧True))∧(((!(v0.1 == (0:Int)))=true→((!(v0.1 == (0:Int)))=true∧True))∧(((!(v0.1 == (0:Int)))=true→((!(v0.1 == (0:Int)))=true∧((!(v0.1 == (0:Int)))=true∧v0.1≠(0:Int))))∧(((!(v0.1 == (0:Int)))=true→((!(v0.1 == (0:Int)))=true∧True))∧(((v0.1 == (0:Int))=false→(!(v0.1 == (0:Int)))=true)∧cond ((v0.1 == (0:Int))||(Int.tmod x0.2.2.2 v0.1 != (0:Int))) (((v0.1 == (0:Int))=true→((v0.1 == (0:Int))=true∧True))∧(((v0.1 == (0:Int))=true→((v0.1 == (0:Int))=true∧True))∧(((v0.1 == (0:Int))=true→((v0.1 == (0:Int))=true∧True))∧(((v0.1 == (0:Int))=true→((v0.1 == (0:Int))=true∧True))∧(((v0.1 == (0:Int))=true→(v0.1 == (0:Int))=true)∧Q (ZaN.fn (((v0.1 == (0:Int))&&(x0.2.2.2 == (0:Int))),()))))))) (Lp (σ:=Int) (fun y2 R2=>let v2:=List.getD x0.2.2.1 (Int.toNat y2) (0:Int);cond (decide (y2 < ((List.length x0.2.2.1:Nat):Int))) (((0:Int)≤y2∧y2 < ((List.length x0.2.2.1:Nat):Int))∧cond (v2 != (0:Int)) (cond (decide (v2 < (0:Int))) (Zr IntKind.i64 (-v0.1)∧(Zw.pre (x0,((-v0.1),()))∧(((-v0.1)≠(0:Int)∧Zr IntKind.i64 v3)∧Q (((1:Int),((0:Int),((Zw.fn (x0,((-v0.1),()))),v3))),(0:Int))))) (Zw.pre (x0,(v0.1,()))∧((v0.1≠(0:Int)∧Zr IntKind.i64 (Int.tdiv x0.2.2.2 v0.1))∧Q (((1:Int),((0:Int),(v5,Int.tdiv x0.2.2.2 v0.1))),(0:Int))))) (Zr IntKind.i64 (y2+(1:Int))∧R2 (y2+(1:Int)))) (Zw.pre (x0,(v0.1,()))∧((v0.1≠(0:Int)∧Zr IntKind.i64 (Int.tdiv x0.2.2.2 v0.1))∧Q (((1:Int),((0:Int),(v5,Int.tdiv x0.2.2.2 v0.1))),(0:Int))))) (0:Int)))))))))
def ZG.wp (x0:Zc) (Q:Zc×Int→Prop):Prop:=let v7:=Za9.fn (x0.2.2.2,(x0.2.1,()));(((0:Int)≤((List.length x0.2.2.1:Nat):Int)∧(((List.length x0.2.2.1:Nat):Int)≤((List.length x0.2.2.1:Nat):Int)∧((((List.length x0.2.2.1:Nat):Int)*((8:Nat):Int))≤(140737488355328:Int)∧((List.length x0.2.2.1:Nat):Int)≤(9223372036854775807:Int))))∧Lp (σ:=Int×Int×List Int) (fun y2 R2=>let v2:=List.getD x0.2.2.1 (Int.toNat y2.1) (0:Int);let v4:=List.set y2.2.2 (Int.toNat y2.1) (Za9.fn (v2,(x0.2.1,()))).1;let v5:=List.getD v4 (Int.toNat y2.1) (0:Int);cond (decide (y2.1 < ((List.length x0.2.2.1:Nat):Int))) (((0:Int)≤y2.1∧y2.1 < ((List.length x0.2.2.1:Nat):Int))∧(Za9.pre (v2,(x0.2.1,()))∧(((0:Int)≤y2.1∧y2.1 < ((List.length y2.2.2:Nat):Int))∧(Int.toNat y2.1 < List.length y2.2.2∧(((0:Int)≤y2.1∧y2.1 < ((List.length v4:Nat):Int))∧(Int.toNat y2.1 < List.length v4∧(Zbb.pre ([y2.2.1,v5],())∧(Zr IntKind.i64 (y2.1+(1:Int))∧R2 ((y2.1+(1:Int)),((Zbb.fn ([y2.2.1,v5],())).1,v4)))))))))) (Za9.pre (x0.2.2.2,(x0.2.1,()))∧(y2.2.1≠(0:Int)∧cond (Int.tmod v7.1 y2.2.1 != (0:Int)) (Q (ZaN.fn (false,()))) (cond (x0.2.1 == y2.2.1) (Q ((((ZaN.fn (true,())).1).1,((((ZaN.fn (true,())).1).2).1,((((ZaN.fn (true,())).1).2).2))),(ZaN.fn (true,())).2)) (Zw.pre (((0:Int),((0:Int),(y2.2.2,v7.1))),(y2.2.1,()))∧((y2.2.1≠(0:Int)∧Zr IntKind.i64 (Int.tdiv v7.1 y2.2.1))∧((y2.2.1≠(0:Int)∧Zr IntKind.i64 (Int.tdiv x0.2.1 y2.2.1))∧Q (((2:Int),(Int.tdiv x0.2.1 y2.2.1,((Zw.fn (((0:Int),((0:Int),(y2.2.2,v7.1))),(y2.2.1,()))),Int.tdiv v7.1 y2.2.1))),(0:Int))))))))) ((0:Int),(x0.2.1,(List.replicate (Int.toNat ((List.length x0.2.2.1:Nat):Int)) (0:Int)))))
def ZaK.wp (x0:Zc) (Q:Zc×Int→Prop):Prop:=cond (decide (x0.1=(0:Int))) (ZP.pre (((0:Int),x0.2),())∧Q (ZP.fn (((0:Int),x0.2),()))) (cond (decide (x0.1=(1:Int))) (ZO.pre (((1:Int),x0.2),())∧Q (ZO.fn (((1:Int),x0.2),()))) (cond (decide (x0.1=(2:Int))) (ZG.pre (((2:Int),x0.2),())∧Q (ZG.fn (((2:Int),x0.2),()))) False))
def Z3.wp (x0:Int) (Q:Bool→Prop):Prop:=Q (x0 != x0)
def ZD.wp (x0:Int) (x1:Int) (Q:Int→Prop):Prop:=let v1:=Z3.fn (x1,());cond (Z3.fn (x0,())) (cond v1 (Q (0:Int)) (Q (-(1:Int)))) (cond v1 (Q (1:Int)) (cond (decide (x0 < x1)) (Q (-(1:Int))) (cond (decide (x1 < x0)) (Q (1:Int)) (Q (0:Int)))))
def Za7.wp (x0:List Int) (Q:Int→Prop):Prop:=Lp (σ:=Int) (fun y2 R2=>let v0:=List.getD x0 (Int.toNat y2) (0:Int);cond (decide (y2 < ((List.length x0:Nat):Int))) (((0:Int)≤y2∧y2 < ((List.length x0:Nat):Int))∧cond (v0 != (0:Int)) (Q v0) (Zr IntKind.i64 (y2+(1:Int))∧R2 (y2+(1:Int)))) (Q (0:Int))) (0:Int)
def Zn.wp (x0:List Int) (x1:List Int) (Q:Int→Prop):Prop:=Lp (σ:=Int) (fun y3 R3=>let v2:=ZD.fn ((List.getD x0 (Int.toNat y3) (0:Int)),((List.getD x1 (Int.toNat y3) (0:Int)),()));cond (decide (y3 < ((List.length x0:Nat):Int))) (((0:Int)≤y3∧y3 < ((List.length x0:Nat):Int))∧cond (decide (((List.length x1:Nat):Int)≤y3)) (Q (1:Int)) (((0:Int)≤y3∧y3 < ((List.length x1:Nat):Int))∧cond (v2 != (0:Int)) (Q v2) (Zr IntKind.i64 (y3+(1:Int))∧R3 (y3+(1:Int))))) (cond (decide (((List.length x0:Nat):Int) < ((List.length x1:Nat):Int))) (Q (-(1:Int))) (Q (0:Int)))) (0:Int)
def Zao.wp (x0:Zc) (x1:Zc) (Q:Int→Prop):Prop:=let v1:=[(1:Int),(0:Int),(2:Int)];(3=List.length (List.replicate 3 (0:Int))∧(((0:Int)≤x0.1∧x0.1 < ((3:Nat):Int))∧(Int.toNat x0.1 < List.length v1∧(((0:Int)≤x1.1∧x1.1 < ((3:Nat):Int))∧(Int.toNat x1.1 < List.length v1∧Q (Za7.fn ([(ZD.fn ((List.getD v1 (Int.toNat x0.1) (0:Int)),((List.getD v1 (Int.toNat x1.1) (0:Int)),()))),(ZD.fn (x0.2.1,(x1.2.1,()))),(Zn.fn (x0.2.2.1,(x1.2.2.1,()))),(ZD.fn (x0.2.2.2,(x1.2.2.2,())))],())))))))
def ZaW.wp (x0:Zc) (Q:Bool→Prop):Prop:=Q (!(ZH.fn (x0,())))
def Zai.wp (x0:Zc) (x1:Zc) (Q:Bool→Prop):Prop:=(Zao.pre (x0,(x1,()))∧Q ((Zao.fn (x0,(x1,()))) == (0:Int)))
def Ze.wp (x0:List Zc) (x1:(Zc→Prop)×(Zc→Bool)) (Q:Int→Prop):Prop:=Lp (σ:=Int) (fun y3 R3=>let v0:=List.getD x0 (Int.toNat y3) Za;cond (decide (y3 < ((List.length x0:Nat):Int))) (((0:Int)≤y3∧y3 < ((List.length x0:Nat):Int))∧(x1.1 v0∧cond (x1.2 v0) (Q y3) (Zr IntKind.i64 (y3+(1:Int))∧R3 (y3+(1:Int))))) (Q (-(1:Int)))) (0:Int)
def Zd.wp (x0:List Zc) (x1:(Zc→Prop)×(Zc→Bool)) (Q:Bool→Prop):Prop:=(Ze.pre (x0,((fun (a3:Zc)=>x1.1 a3,fun (a3:Zc)=>x1.2 a3),()))∧Q (decide ((0:Int)≤(Ze.fn (x0,((fun (a3:Zc)=>x1.1 a3,fun (a3:Zc)=>x1.2 a3),()))))))
theorem linB.ints {l:Lin} (h:linB l):ZcM l.1:=fun n hn=>by have:=h.2.1 n hn;unfold Zfd at this;omega
theorem ZcD (n g:Int):(n.tdiv g).natAbs≤n.natAbs:=by rw [Int.natAbs_tdiv];exact Nat.div_le_self _ _
theorem ZcH {n g:Int} (h:-9223372036854775807≤n) (h2:n≤9223372036854775807):Zr .i64 (n.tdiv g):=by
 have:=ZcD n g
 exact ⟨by omega,by omega⟩
theorem Zw.spec (c:Zc) (g:Int) (hp:Zw.pre (c,g,())):Zw.wp c g (fun r=>r=Zw.fn (c,g,())):=by
 obtain ⟨h1,h2,h3⟩:=hp
 simp only at h1 h2 h3
 simp only [Zw.wp,Int.toNat_natCast]
 refine ⟨⟨by omega,by omega,by omega,by omega⟩,?_⟩
 refine Lp.fill c.2.2.1 0 0 (·.tdiv g) (by omega) (fun i out R hi hi' hf ho hR=>?_) (fun R=>?_)
 ·simp only [decide_eq_true hi',Int.toNat_natCast]
  have hn:=h3 _ (Zj (d:=0) hi)
  exact ⟨⟨by omega,hi'⟩,⟨h1,ZcH hn.1 hn.2⟩,⟨by omega,by omega⟩,by omega,hf,hR⟩
 ·simp only [Int.lt_irrefl,decide_false,cond_false]
theorem ZaN.spec (b:Bool):ZaN.wp b (fun r=>r=ZaN.fn (b,())):=by cases b<;>rfl
theorem Zf0:∀ {l:List Int} {g:Nat},(l.foldl (fun g n=>Nat.gcd g n.natAbs) g ∣ g)∧∀ n∈l,l.foldl (fun g n=>Nat.gcd g n.natAbs) g ∣ n.natAbs
 | [],g=>⟨Nat.dvd_refl _,fun n hn=>by cases hn⟩
 | m::l,g=>by
   obtain ⟨h1,h2⟩:=Zf0 (l:=l) (g:=Nat.gcd g m.natAbs)
   refine ⟨Nat.dvd_trans h1 (Nat.gcd_dvd_left _ _),fun n hn=>?_⟩
   rcases List.mem_cons.1 hn with rfl | hn
   ·exact Nat.dvd_trans h1 (Nat.gcd_dvd_right _ _)
   ·exact h2 n hn
theorem ZiN {l:List Int} (h:Zbh l=0):∀ n∈l,n=0:=fun n hn=>by
 have:=(Zf0 (l:=l) (g:=0)).2 n hn
 have h':l.foldl (fun g n=>Nat.gcd g n.natAbs) 0=0:=h
 rw [h',Nat.zero_dvd] at this
 omega
theorem ZP.spec (c:Zc) (hp:ZP.pre (c,())):ZP.wp c (fun r=>r=ZP.fn (c,())):=by
 have hb:linB c.2.2:=hp
 obtain ⟨h1,h2,h3⟩:=id hb
 unfold Zfd at h3
 simp only [ZP.wp,Zbb.fn,ZP.fn,geF,ZaN.fn]
 refine ⟨hb.ints,?_⟩
 by_cases hg:Zbh c.2.2.1=0
 ·rw [hg];simp
 ·rw [beq_eq_false_iff_ne.2 (show ((Zbh c.2.2.1:Nat):Int)≠0 by omega),if_neg hg]
  refine ⟨⟨by show -9223372036854775807≤c.2.2.2;omega,by show c.2.2.2≤9223372036854775807;omega⟩,⟨by show ((Zbh c.2.2.1:Nat):Int)≠0;omega,h1,hb.ints⟩,?_⟩
  simp only [Zw.fn,Zar.fn]
  rw [if_neg (show ¬ ((Zbh c.2.2.1:Nat):Int) < 1 by omega)]
theorem ZcU {l:List Int} {i:Nat} (h:∀ j,j < i→l.getD j 0=0):Zbc l=Zbc (l.drop i):=by
 induction i generalizing l with
 | zero=>rfl
 | succ i ih =>
   cases l with
   | nil=>rfl
   | cons n l =>
     have h0:=h 0 (by omega)
     simp at h0
     simp only [Zbc,if_pos h0,List.drop_succ_cons]
     exact ih (fun j hj=>by have:=h (j+1) (by omega);simpa using this)
theorem ZO.spec (c:Zc) (hp:ZO.pre (c,())):ZO.wp c (fun r=>r=ZO.fn (c,())):=by
 have hb:linB c.2.2:=hp
 obtain ⟨h1,h2,h3⟩:=id hb
 unfold Zfd at h3
 have hgl:Zbh c.2.2.1≤9223372036854775807:=ZkO hb.ints
 simp only [ZO.wp,Zbb.fn,ZaN.fn,Zw.fn]
 have hg:∀ b:Bool,(b=true→b=true∧True):=fun b h=>⟨h,trivial⟩
 refine ⟨hb.ints,hg _,hg _,hg _,?_,hg _,fun h=>by rw [h];rfl,?_⟩
 ·intro h
  refine ⟨h,h,?_⟩
  intro e
  rw [e] at h;simp at h
 have hfn:ZO.fn (c,())=eqF c:=rfl
 by_cases hz:Zbh c.2.2.1=0
 ·rw [hfn,eqF,if_pos (.inl hz),hz]
  simp
 ·have hzi:((Zbh c.2.2.1:Nat):Int)≠0:=by omega
  rw [beq_eq_false_iff_ne.2 hzi]
  by_cases hm:c.2.2.2.tmod (Zbh c.2.2.1)≠0
  ·rw [bne_iff_ne.2 hm,hfn,eqF,if_pos (.inr hm)]
   simp [hz]
  ·have hm':c.2.2.2.tmod (Zbh c.2.2.1)=0:=by simpa using hm
   rw [hm',bne_self_eq_false,Bool.or_false,cond_false,hfn,eqF,if_neg (by simp [hz,hm'])]
   have hby:∀ g:Int,g≠0→Zw.pre (c,g,()):=fun g hg=>⟨hg,h1,hb.ints⟩
   have hkf:∀ g:Int,Zr .i64 (c.2.2.2.tdiv g):=fun g=>ZcH (by omega) (by omega)
   refine Lp.iter c.2.2.1.length (fun i y=>y=(i:Int)∧∀ j,j < i→c.2.2.1.getD j 0=0) ⟨rfl,fun j hj=>absurd hj (by omega)⟩ ?_
   rintro i y hle ⟨rfl,hi⟩ R hR
   by_cases e:i < c.2.2.1.length
   ·rw [decide_eq_true (show (i:Int) < (c.2.2.1.length:Int) by omega)]
    refine ⟨⟨by omega,by omega⟩,?_⟩
    simp only [Int.toNat_natCast]
    by_cases hn:c.2.2.1.getD i 0=0
    ·simp only [hn,bne_self_eq_false,cond_false]
     refine ⟨⟨by omega,by omega⟩,hR e _ ⟨by omega,fun j hj=>?_⟩⟩
     by_cases ej:j=i
     ·subst ej;exact hn
     ·exact hi j (by omega)
    ·simp only [bne_iff_ne.2 hn,cond_true]
     have hfn:Zbc c.2.2.1=decide (c.2.2.1.getD i 0 < 0):=by
      rw [ZcU hi,List.drop_eq_getElem_cons e]
      rw [ZX e] at hn
      simp only [Zbc,if_neg hn,ZX e]
     by_cases hneg:c.2.2.1.getD i 0 < 0
     ·rw [decide_eq_true hneg] at hfn
      simp only [decide_eq_true hneg,cond_true]
      refine ⟨⟨by omega,by omega⟩,hby _ (by omega),⟨by omega,hkf _⟩,?_⟩
      simp only [Zbm,hfn,if_true]
     ·rw [decide_eq_false hneg] at hfn
      simp only [decide_eq_false hneg,cond_false]
      refine ⟨hby _ hzi,⟨hzi,hkf _⟩,?_⟩
      simp [Zbm,hfn]
   ·have:i=c.2.2.1.length:=by omega
    subst this
    rw [decide_eq_false (Int.lt_irrefl _)]
    refine ⟨hby _ hzi,⟨hzi,hkf _⟩,?_⟩
    have hfn:Zbc c.2.2.1=false:=by rw [ZcU hi,List.drop_length];rfl
    simp [Zbm,hfn]
theorem ZL {α:Type} {l:List α} {i:Nat} (d:α) (h:i < l.length):l.take (i+1)=l.take i++[l.getD i d]:=by
 rw [ZX h];simp
theorem ZqM {α β:Type} {l:List α} {d:α} {z:β} {f:α→β} {i:Nat} (e:i < l.length):((l.take i).map f++List.replicate (l.length - i) z).set i (f (l.getD i d))=(l.take (i+1)).map f++List.replicate (l.length - (i+1)) z:=by
 have h1:l.length - i=(l.length - (i+1))+1:=by omega
 rw [h1,List.replicate_succ,List.set_append_right _ _ (by simp;omega)]
 have h3:i - ((l.take i).map f).length=0:=by simp;omega
 rw [h3,List.set_cons_zero,ZL d e,List.map_append,List.append_assoc]
 rfl
theorem Zhv (m:Int) (l:List Int) (n:Int):Zbh (m::(l++[n]))=Nat.gcd (Zbh (m::l)) n.natAbs:=by
 simp only [Zbh,List.foldl_cons,List.foldl_append,List.foldl_nil]
theorem Zqr (a b:Int):Zbh [a,b]=Nat.gcd a.natAbs b.natAbs:=by simp [Zbh]
theorem Zgd {m:Int} (h:1≤m) (l:List Int):0 < Zbh (m::l):=by
 rcases Nat.eq_zero_or_pos (Zbh (m::l)) with h0 | h0
 ·have:=ZiN h0 m (by simp);omega
 ·exact h0
theorem Zeo {m:Int} (h:1≤m) (l:List Int):Zbh (m::l)≤m.toNat:=by
 have:=Zkb (l:=l) m.natAbs (by omega)
 simp only [Zbh,List.foldl_cons,Nat.gcd_zero_left]
 omega
theorem ZG.spec (c:Zc) (hp:ZG.pre (c,())):ZG.wp c (fun r=>r=ZG.fn (c,())):=by
 obtain ⟨hb,hm1,hm2⟩:=hp
 simp only at hb hm1 hm2
 obtain ⟨h1,h2,h3⟩:=id hb
 unfold Zfd at h3
 have hfn:ZG.fn (c,())=ZkN c:=rfl
 simp only [ZG.wp,Int.toNat_natCast]
 refine ⟨⟨by omega,by omega,by omega,by omega⟩,?_⟩
 have hmod:∀ n,Za9.fn (n,c.2.1,())=(n % c.2.1,0):=fun n=>by
  simp only [Za9.fn];rw [if_neg (by omega)]
 simp only [hmod]
 refine Lp.iter c.2.2.1.length (fun i y=>y=((i:Int),((Zbh (c.2.1::(c.2.2.1.take i).map (· % c.2.1)):Nat):Int),(c.2.2.1.take i).map (· % c.2.1)++List.replicate (c.2.2.1.length - i) 0)) ?_ ?_
 ·have:Zbh [c.2.1]=c.2.1.natAbs:=by simp [Zbh]
  simp [this];omega
 rintro i y hle rfl R hR
 have hr:∀ n:Int,0≤n % c.2.1∧n % c.2.1 < c.2.1:=fun n=>⟨Int.emod_nonneg _ (by omega),Int.emod_lt_of_pos _ (by omega)⟩
 have hgl:=Zeo hm1 ((c.2.2.1.take i).map (· % c.2.1))
 by_cases e:i < c.2.2.1.length
 ·have hfs:=ZqM (z:=(0:Int)) (f:=(· % c.2.1)) (d:=(0:Int)) e
  simp only [decide_eq_true (show (i:Int) < (c.2.2.1.length:Int) by omega),Int.toNat_natCast,cond_true]
  rw [hfs]
  have hlen:((c.2.2.1.take (i+1)).map (· % c.2.1)++List.replicate (c.2.2.1.length - (i+1)) (0:Int)).length=c.2.2.1.length:=by simp;omega
  have hget:((c.2.2.1.take (i+1)).map (· % c.2.1)++List.replicate (c.2.2.1.length - (i+1)) (0:Int)).getD i 0=c.2.2.1.getD i 0 % c.2.1:=by
   rw [ZX (by rw [hlen];exact e),List.getElem_append_left (by simp;omega),ZX e]
   simp
  rw [hget]
  have hq:=hr (c.2.2.1.getD i 0)
  refine ⟨⟨by omega,by omega⟩,by show c.2.1≤9223372036854775807;omega,⟨by omega,by simp;omega⟩,by simp;omega,⟨by omega,by rw [hlen];omega⟩,by rw [hlen];exact e,?_,⟨by omega,by omega⟩,hR e _ ?_⟩
  ·intro n hn
   simp only [List.mem_cons,List.not_mem_nil,or_false] at hn
   rcases hn with rfl | rfl<;>constructor<;>omega
  ·simp only [Zbb.fn,Zqr,Int.natAbs_natCast]
   rw [ZL 0 e,List.map_append,List.map_cons,List.map_nil,Zhv]
   rfl
 ·have:i=c.2.2.1.length:=by omega
  subst this
  simp only [List.take_length,Nat.sub_self,List.replicate_zero,List.append_nil,Int.lt_irrefl,decide_false,cond_false]
  have hpos:=Zgd hm1 (c.2.2.1.map (· % c.2.1))
  rw [List.take_length] at hgl
  have hdg:Zb7 c=Zbh (c.2.1::c.2.2.1.map (· % c.2.1)):=rfl
  rw [← hdg] at hpos hgl ⊢
  have hq:=hr c.2.2.2
  refine ⟨by show c.2.1≤9223372036854775807;omega,by omega,?_⟩
  rw [hfn,ZkN]
  by_cases ht:(c.2.2.2 % c.2.1).tmod (Zb7 c)≠0
  ·rw [bne_iff_ne.2 ht,if_pos ht];rfl
  ·rw [if_neg ht]
   have ht:(c.2.2.2 % c.2.1).tmod (Zb7 c)=0:=by simpa using ht
   rw [ht,bne_self_eq_false]
   by_cases he:c.2.1=Zb7 c
   ·rw [if_pos he]
    simp only [beq_iff_eq.2 he,cond_true,cond_false]
   ·rw [if_neg he,beq_eq_false_iff_ne.2 he]
    refine ⟨⟨by show ((Zb7 c:Nat):Int)≠0;omega,by simpa using h1,fun n hn=>?_⟩,⟨by omega,ZcH (by omega) (by omega)⟩,⟨by omega,ZcH (by omega) (by omega)⟩,rfl⟩
    simp only [List.mem_map] at hn
    obtain ⟨a,_,rfl⟩:=hn
    have:=hr a
    constructor<;>omega
theorem ZaK.spec (c:Zc) (hp:ZaK.pre (c,())):ZaK.wp c (fun r=>r=ZaK.fn (c,())):=by
 obtain ⟨hk,hl⟩:Zpw c∧linB c.2.2:=hp
 obtain ⟨k,r⟩:=c
 simp only [ZaK.wp,ZaK.fn,ZbE,ZP.fn,ZO.fn,ZG.fn]
 rcases hk with h | h | ⟨h,h2,h3⟩
 ·have h:k=0:=h
  subst h;exact ⟨hl,rfl⟩
 ·have h:k=1:=h
  subst h;exact ⟨hl,rfl⟩
 ·have h:k=2:=h
  subst h;exact ⟨⟨hl,h2,h3⟩,rfl⟩
theorem Fit.bound {n:Int} (h:Fit n=true):-1048576≤n∧n≤1048576:=by simpa [Fit] using h
theorem ZaL.b {l:Lin} (h:ZaL l=true):l.1.length≤12∧(∀ n∈l.1,-1048576≤n∧n≤1048576)∧-1048576≤l.2∧l.2≤1048576:=by
 simp only [ZaL,Bool.and_eq_true,List.all_eq_true,decide_eq_true_eq] at h
 exact ⟨by omega,fun n hn=>Fit.bound (h.1 n hn),Fit.bound h.2.2⟩
theorem Zi.lin {c:Zc} (h:Zi c=true):ZaL c.2.2=true:=by
 unfold Zi at h
 split at h
 ·simp only [Bool.and_eq_true] at h;exact h.2
 ·split at h
  ·simp only [Bool.and_eq_true] at h;exact h.2
  ·cases h
theorem Zi.kind {c:Zc} (h:Zi c=true):(c.1=0∧c.2.1=0)∨(c.1=1∧c.2.1=0)∨(c.1=2∧1≤c.2.1∧c.2.1≤512):=by
 unfold Zi at h
 split at h
 ·rename_i hk
  simp only [Bool.and_eq_true,beq_iff_eq] at h
  rcases hk with hk | hk
  ·exact .inl ⟨hk,h.1⟩
  ·exact .inr (.inl ⟨hk,h.1⟩)
 ·split at h
  ·rename_i hk
   simp only [Bool.and_eq_true,decide_eq_true_eq] at h
   exact .inr (.inr ⟨hk,h.1.1,h.1.2⟩)
  ·cases h
theorem ZaL.linB {l:Lin} (h:ZaL l=true):linB l:=by
 have:=ZaL.b h
 exact ⟨by omega,fun n hn=>by have:=this.2.1 n hn;exact ⟨by omega,by omega⟩,by omega,by omega⟩
theorem Zi.condB {c:Zc} (h:Zi c=true):condB c:=by
 refine ⟨?_,ZaL.linB (Zi.lin h)⟩
 rcases Zi.kind h with h | h | h
 ·exact .inl h.1
 ·exact .inr (.inl h.1)
 ·exact .inr (.inr ⟨h.1,h.2.1,by omega⟩)
theorem ZdX (b:Bool):(ZcK b).2=1∨(ZcK b).2=-1:=by cases b<;>simp [ZcK]
theorem Zpt (c:Zc):(ZbE c).2=0∨(ZbE c).2=1∨(ZbE c).2=-1:=by
 unfold ZbE geF eqF ZkN
 split
 ·split
  ·exact .inr (ZdX _)
  ·exact .inl rfl
 ·split
  ·split
   ·exact .inr (ZdX _)
   ·exact .inl rfl
  ·split
   ·exact .inr (ZdX _)
   ·split
    ·exact .inr (ZdX _)
    ·exact .inl rfl
theorem ZjX {α β:Type} {f:List β→α→Option (List β)} (hf:∀ t x t',f t x=some t'→t'.length≤t.length+1):∀ (l:List α) (a t:List β),l.foldlM f a=some t→t.length≤a.length+l.length
 | [],a,t,h=>by cases h;simp
 | x::l,a,t,h=>by
   rw [List.foldlM_cons] at h
   cases hx:f a x with
   | none=>rw [hx] at h;cases h
   | some b =>
     rw [hx] at h
     have:=ZjX hf l b t h
     have:=hf a x b hx
     simp only [List.length_cons];omega
theorem Z3.spec (n:Int):Z3.wp n (fun r=>r=Z3.fn (n,())):=by simp [Z3.wp,Z3.fn]
theorem ZD.spec (a b:Int):ZD.wp a b (fun r=>r=ZD.fn (a,b,())):=by
 simp only [ZD.wp,Z3.fn,ZD.fn,Zha,cond_false]
 by_cases h:a < b
 ·simp [h]
 ·by_cases h2:b < a<;>simp [h,h2]
theorem ZsH {l:List Int} {i:Nat} (h:∀ j,j < i→l.getD j 0=0):orL l=orL (l.drop i):=by
 induction i generalizing l with
 | zero=>rfl
 | succ i ih =>
   cases l with
   | nil=>rfl
   | cons n l =>
     have h0:=h 0 (by omega)
     simp at h0
     simp only [orL,if_pos h0,List.drop_succ_cons]
     exact ih (fun j hj=>by have:=h (j+1) (by omega);simpa using this)
theorem Za7.spec (l:List Int) (hl:l.length≤9223372036854775807):Za7.wp l (fun r=>r=Za7.fn (l,())):=by
 refine Lp.iter l.length (fun i y=>y=(i:Int)∧∀ j,j < i→l.getD j 0=0) ⟨rfl,fun j hj=>absurd hj (by omega)⟩ ?_
 rintro i y hle ⟨rfl,hi⟩ R hR
 have hd:=ZsH hi
 by_cases e:i < l.length
 ·simp only [decide_eq_true (show (i:Int) < (l.length:Int) by omega),Int.toNat_natCast,cond_true]
  refine ⟨⟨by omega,by omega⟩,?_⟩
  rw [List.drop_eq_getElem_cons e] at hd
  by_cases h0:l.getD i 0=0
  ·simp only [h0,bne_self_eq_false,cond_false]
   refine ⟨⟨by omega,by omega⟩,hR e _ ⟨by omega,fun j hj=>?_⟩⟩
   by_cases ej:j=i
   ·subst ej;exact h0
   ·exact hi j (by omega)
  ·simp only [bne_iff_ne.2 h0,cond_true]
   rw [ZX e] at h0 ⊢
   simp only [orL,if_neg h0] at hd
   exact hd.symm
 ·have:i=l.length:=by omega
  subst this
  simp only [Int.lt_irrefl,decide_false,cond_false]
  rw [List.drop_length] at hd
  exact hd.symm
theorem Zn.spec (a b:List Int) (hl:a.length≤9223372036854775807):Zn.wp a b (fun r=>r=Zn.fn (a,b,())):=by
 refine Lp.iter a.length (fun i y=>y=(i:Int)∧i≤b.length∧ZcY a b=ZcY (a.drop i) (b.drop i)) ⟨rfl,Nat.zero_le _,rfl⟩ ?_
 rintro i y hle ⟨rfl,hib,hd⟩ R hR
 have hfn:Zn.fn (a,b,())=ZcY a b:=rfl
 rw [hfn]
 by_cases e:i < a.length
 ·simp only [decide_eq_true (show (i:Int) < (a.length:Int) by omega),Int.toNat_natCast,cond_true,ZD.fn]
  refine ⟨⟨by omega,by omega⟩,?_⟩
  rw [List.drop_eq_getElem_cons e] at hd
  by_cases hb:i < b.length
  ·rw [decide_eq_false (show ¬ (b.length:Int)≤(i:Int) by omega)]
   rw [List.drop_eq_getElem_cons hb] at hd
   refine ⟨⟨by omega,by omega⟩,?_⟩
   rw [ZX e,ZX hb]
   simp only [ZcY] at hd
   by_cases hc:Zha a[i] b[i]=0
   ·rw [if_pos hc] at hd
    rw [hc,bne_self_eq_false]
    exact ⟨⟨by omega,by omega⟩,hR e _ ⟨by omega,hb,hd⟩⟩
   ·rw [if_neg hc] at hd
    rw [bne_iff_ne.2 hc]
    exact hd.symm
  ·rw [decide_eq_true (show (b.length:Int)≤(i:Int) by omega)]
   rw [List.drop_eq_nil_of_le (show b.length≤i by omega)] at hd
   exact hd.symm
 ·have:i=a.length:=by omega
  subst this
  simp only [Int.lt_irrefl,decide_false,cond_false]
  rw [List.drop_length] at hd
  by_cases hb:a.length < b.length
  ·rw [decide_eq_true (show (a.length:Int) < (b.length:Int) by omega)]
   rw [List.drop_eq_getElem_cons hb] at hd
   exact hd.symm
  ·rw [decide_eq_false (show ¬ (a.length:Int) < (b.length:Int) by omega)]
   rw [List.drop_eq_nil_of_le (show b.length≤a.length by omega)] at hd
   exact hd.symm
theorem Zao.spec (a b:Zc) (hp:Zao.pre (a,b,())):Zao.wp a b (fun r=>r=Zao.fn (a,b,())):=by
 obtain ⟨ha,hb⟩:=hp
 obtain ⟨ka,ma,ca⟩:=a
 obtain ⟨kb,mb,cb⟩:=b
 simp only [Zao.wp,Zao.fn,Zhu,Za7.fn,ZD.fn,Zn.fn]
 rcases ha with h | h | h<;>rcases hb with h' | h' | h'<;>(simp only at h h';subst h h';simp [Zcc])
theorem ZaW.spec (c:Zc):ZaW.wp c (fun r=>r=ZaW.fn (c,())):=rfl
theorem Zai.spec (a b:Zc) (hp:Zai.pre (a,b,())):Zai.wp a b (fun r=>r=Zai.fn (a,b,())):=⟨hp,rfl⟩
theorem Zp2 {α:Type} {f:α→Bool} {l:List α} {d:α} {i:Nat} (h:∀ j,j < i→f (l.getD j d)=false) (hi:i≤l.length) (k:Int):Zpr f l k=Zpr f (l.drop i) (k+i):=by
 induction i generalizing l k with
 | zero=>simp
 | succ i ih =>
   cases l with
   | nil=>simp at hi
   | cons x l =>
     have h0:=h 0 (by omega)
     simp at h0
     simp only [Zpr,h0,Bool.false_eq_true,if_false,List.drop_succ_cons]
     rw [ih (fun j hj=>by have:=h (j+1) (by omega);simpa using this) (by simpa using hi)]
     congr 1;omega
theorem Ze.spec (l:List Zc) (f:(Zc→Prop)×(Zc→Bool)) (hl:l.length≤9223372036854775807) (hp:Ze.pre (l,f,())):Ze.wp l f (fun r=>r=Ze.fn (l,f,())):=by
 refine Lp.iter l.length (fun i y=>y=(i:Int)∧∀ j,j < i→f.2 (l.getD j Za)=false) ⟨rfl,fun j hj=>absurd hj (by omega)⟩ ?_
 rintro i y hle ⟨rfl,hi⟩ R hR
 have hd:=Zp2 hi hle 0
 have hfn:Ze.fn (l,f,())=Zpr f.2 l 0:=rfl
 rw [hfn]
 by_cases e:i < l.length
 ·simp only [decide_eq_true (show (i:Int) < (l.length:Int) by omega),Int.toNat_natCast,cond_true]
  refine ⟨⟨by omega,by omega⟩,hp _ (Zj e),?_⟩
  rw [List.drop_eq_getElem_cons e] at hd
  cases h0:f.2 (l.getD i Za) with
  | true =>
    rw [ZX e] at h0
    simp only [Zpr,h0,if_true] at hd
    show (i:Int)=_
    omega
  | false =>
    refine ⟨⟨by omega,by omega⟩,hR e _ ⟨by omega,fun j hj=>?_⟩⟩
    by_cases ej:j=i
    ·subst ej;exact h0
    ·exact hi j (by omega)
 ·have:i=l.length:=by omega
  subst this
  simp only [Int.lt_irrefl,decide_false,cond_false]
  rw [List.drop_length] at hd
  exact hd.symm
theorem Zn0 {α:Type} {f:α→Bool}:∀ {l:List α} {k:Int},0≤k→decide (0≤Zpr f l k)=l.any f
 | [],k,_=>by simp [Zpr]
 | x::l,k,hk=>by
   simp only [List.any_cons]
   by_cases h:f x=true
   ·simp [Zpr,h,hk]
   ·rw [show Zpr f (x::l) k=Zpr f l (k+1) by simp [Zpr,h],Zn0 (by omega)]
    simp [h]
theorem Zd.spec (l:List Zc) (f:(Zc→Prop)×(Zc→Bool)) (hp:Zd.pre (l,f,())):Zd.wp l f (fun r=>r=Zd.fn (l,f,())) :=
 ⟨hp,Zn0 (Int.le_refl 0)⟩
def Zeb (l:List Int) (s:Int):List Int:=l.flatMap fun n=>ZbH (s*n)++[44]
def Zco (p:List Zc):List Int:=p.flatMap fun c=>ZbH c.1++[58]++ZbH c.2.1++[58]++Zeb c.2.2.1 1++ZbH c.2.2.2++[59]
abbrev ZaJ.fn (x:List Int×Int×Unit):ByteArray:=ZbV (Zeb x.1 x.2.1)
abbrev ZaJ.pre (x:List Int×Int×Unit):Prop:=x.1.length≤1048576∧ZcM x.1∧(x.2.1=1∨x.2.1=-1)
abbrev Zp.fn (x:List Zc×Unit):ByteArray:=ZbV (Zco x.1)
def nameOk (p:List Zc):Prop:=p.length≤1048576∧∀ c∈p,c.2.2.1.length≤4096∧ZcM c.2.2.1∧ZcM [c.1,c.2.1,c.2.2.2]
abbrev Zp.pre (x:List Zc×Unit):Prop:=nameOk x.1
def Zec (C:List Int) (out:List Zc):Option Nat:=out.findIdx? fun d=>decide (d.1=0∧d.2.2.1=C)
def Zhe (d:Zc) (k:Int):Zc:=(d.1,d.2.1,d.2.2.1,min d.2.2.2 k)
def Zbk (out:List Zc) (c:Zc):List Zc:=if c.1≠0 then out++[c] else match Zec c.2.2.1 out with
 | some i=>out.set i (Zhe (out.getD i Za) c.2.2.2)
 | none=>out++[c]
def Zbz (l:List Zc):List Zc:=l.foldl Zbk []
abbrev ZaM.fn (x:List Zc×Unit):List Zc:=Zbz x.1
def ZtK (l:List Zc):Prop:=l.length≤1048576∧∀ c∈l,c.2.2.1.length≤1048576∧ZcM c.2.2.1
abbrev ZaM.pre (x:List Zc×Unit):Prop:=ZtK x.1
def Zb5 (C:List Int):List Int:=C.map fun n=>-n
def ZcQ (C:List Int):List Zc→Nat→Option Nat
 | [],_=>none
 | d::l,i=>match ZcQ C l (i+1) with
   | some j=>some j
   | none=>if d.1=0∧d.2.2.1=C then some i else none
def Zb0 (l:List Zc) (st:List Zc×(Int→Option Bool)) (ic:Nat×Zc):Option (List Zc×(Int→Option Bool)) :=
 if (st.2 (ic.1:Int)).getD false then some st else match (if ic.2.1≠0 then none else ZcQ (Zb5 ic.2.2.2.1) l 0) with
 | none=>some (st.1++[ic.2],st.2)
 | some j=>if ic.2.2.2.2+(l.getD j Za).2.2.2 < 0 then none else if ic.2.2.2.2+(l.getD j Za).2.2.2=0 then some (st.1++[(ZbE (1,0,ic.2.2.2)).1],ZdA st.2 (j:Int) true) else some (st.1++[ic.2],st.2)
def ZcP (l:List Zc):List (Nat×Zc):=(List.range l.length).map fun i=>(i,l.getD i Za)
def Zer (l:List Zc):Option (List Zc):=((ZcP l).foldlM (Zb0 l) ([],fun _=>none)).map (·.1)
abbrev Zam.fn (x:List Zc×Unit):List Zc×Bool:=match Zer x.1 with
 | none=>([],true)
 | some out=>(out,false)
abbrev Zam.pre (x:List Zc×Unit):Prop:=Za2 x.1
def eqK (C:List Int) (l:List Zc):Option Int:=(l.reverse.find? fun d=>decide (d.1=1∧d.2.2.1=C)).map (·.2.2.2)
def ZdH (seen:List Zc) (c:Zc):Option (List Zc):=if c.1≠1 then some (seen++[c]) else match eqK c.2.2.1 seen with
 | some n=>if n≠c.2.2.2 then none else some (seen++[c])
 | none=>some (seen++[c])
def Zdz (l:List Zc) (out:List Zc) (c:Zc):Option (List Zc):=if c.1≠0 then some (out++[c]) else match eqK c.2.2.1 l with
 | some n=>if c.2.2.2 < n then none else some out
 | none=>match eqK (Zb5 c.2.2.1) l with
   | some n=>if c.2.2.2+n < 0 then none else some out
   | none=>some (out++[c])
def Zb3 (l:List Zc):Option (List Zc):=match l.foldlM ZdH [] with
 | none=>none
 | some _=>l.foldlM (Zdz l) []
def ZhH (c:Zc):List Zc→List Zc
 | []=>[c]
 | d::l=>if Zhu d c < 0 then d::ZhH c l else if d=c then d::l else c::d::l
def Zbd (l:List Zc):List Zc:=l.foldl (fun out c=>ZhH c out) []
def Zaw (p:List Zc):List Zc×Bool×Int :=
 if (p.map ZbE).any (fun r=>decide (r.2 < 0)) then ([],true,0) else
 let l:=((p.map ZbE).filter fun r=>decide (r.2=0)).map (·.1)
 match (Zer (Zbz l)).bind Zb3 with
 | none=>([],true,0)
 | some out=>if l.any (fun c=>!Zi c)||decide (96 < (Zbd out).length) then ([],false,3) else (Zbd out,false,0)
abbrev Zb.fn (x:List Zc×Unit):List Zc×Bool×Int:=Zaw x.1
abbrev Zb.pre (x:List Zc×Unit):Prop:=Za2 x.1
theorem Zc1:∀ (u:Nat),∀ b∈Lib.decDigits u,48≤b.toNat∧b.toNat≤57:=by
 intro u
 induction u using Nat.strongRecOn with
 | _ u ih =>
   intro b hb
   rw [Lib.decDigits] at hb
   split at hb
   ·rename_i h
    simp only [List.mem_singleton] at hb
    subst hb
    simp;omega
   ·rename_i h
    rcases List.mem_append.1 hb with hb | hb
    ·exact ih (u / 10) (by omega) b hb
    ·simp only [List.mem_singleton] at hb
     subst hb
     simp;omega
def Zwq (l:List UInt8):Nat:=l.foldl (fun a b=>a*10+(b.toNat - 48)) 0
theorem ZnR (u:Nat):Zwq (Lib.decDigits u)=u:=by
 induction u using Nat.strongRecOn with
 | _ u ih =>
   rw [Lib.decDigits]
   split
   ·rename_i h
    simp [Zwq];omega
   ·rename_i h
    have:=ih (u / 10) (by omega)
    unfold Zwq at this ⊢
    rw [List.foldl_append,this]
    simp;omega
theorem ZfT {u v:Nat} (h:Lib.decDigits u=Lib.decDigits v):u=v:=by rw [← ZnR u,← ZnR v,h]
theorem Zpz (n:Int):∀ b∈Lib.itoa n,b.toNat=45∨(48≤b.toNat∧b.toNat≤57):=by
 intro b hb
 unfold Lib.itoa at hb
 split at hb
 ·rcases List.mem_cons.1 hb with rfl | hb
  ·exact .inl rfl
  ·exact .inr (Zc1 _ b hb)
 ·exact .inr (Zc1 _ b hb)
theorem Zs4 {n m:Int} (h:Lib.itoa n=Lib.itoa m):n=m:=by
 have key:∀ u v:Nat,(45:UInt8)::Lib.decDigits u≠Lib.decDigits v:=fun u v e=>by
  have:=Zc1 v 45 (by rw [← e];simp)
  simp at this
 unfold Lib.itoa at h
 split at h<;>split at h
 ·have:=ZfT (List.cons.inj h).2;omega
 ·exact absurd h (key _ _)
 ·exact absurd h.symm (key _ _)
 ·have:=ZfT h;omega
theorem Zgk {n m:Int} (h:ZbH n=ZbH m):n=m:=by
 refine Zs4 (List.map_inj_right (f:=fun b:UInt8=>(b.toNat:Int)) (fun a b e=>?_) |>.1 h)
 exact UInt8.toNat_inj.1 (Int.ofNat_inj.1 e)
theorem Zcb (n:Int):∀ b∈ZbH n,b=45∨(48≤b∧b≤57):=by
 intro b hb
 simp only [ZbH,List.mem_map] at hb
 obtain ⟨c,hc,rfl⟩:=hb
 have:=Zpz n c hc
 omega
theorem ZcE {n:Int} (h:-9223372036854775807≤n) (h2:n≤9223372036854775807):(ZbH n).length≤21:=by
 simp only [ZbH,List.length_map]
 exact Lib.itoa_length_le n (by omega) h2
theorem Zgj {s:Int}:∀ {a a' r r':List Int},s∉a→s∉a'→a++s::r=a'++s::r'→a=a'∧r=r'
 | [],[],r,r',_,_,h=>⟨rfl,(List.cons.inj h).2⟩
 | [],x::a',r,r',_,h2,h=>by
   have:=(List.cons.inj h).1
   exact absurd (by rw [this];simp) h2
 | x::a,[],r,r',h1,_,h=>by
   have:=(List.cons.inj h).1
   exact absurd (by rw [← this];simp) h1
 | x::a,y::a',r,r',h1,h2,h=>by
   obtain ⟨e,h⟩:=List.cons.inj h
   simp only [List.mem_cons,not_or] at h1 h2
   obtain ⟨e1,e2⟩:=Zgj h1.2 h2.2 h
   exact ⟨by rw [e,e1],e2⟩
theorem Zwi (n:Int):(44:Int)∉ZbH n:=fun h=>by have:=Zcb n _ h;omega
theorem Zei (n:Int) (l:List Int) (s:Int):Zeb (n::l) s=ZbH (s*n)++44::Zeb l s:=by simp [Zeb]
theorem ZkF:∀ {l l':List Int} {s s':Int} {r r':List Int},(44:Int)∉r→(44:Int)∉r'→Zeb l s++r=Zeb l' s'++r'→l.map (s*·)=l'.map (s'*·)∧r=r'
 | [],[],s,s',r,r',_,_,h=>⟨rfl,h⟩
 | [],n::l',s,s',r,r',h1,_,h=>by
   rw [Zei] at h
   exact absurd (by rw [show r=_ from h];simp) h1
 | n::l,[],s,s',r,r',_,h2,h=>by
   rw [Zei] at h
   exact absurd (by rw [show r'=_ from h.symm];simp) h2
 | n::l,m::l',s,s',r,r',h1,h2,h=>by
   rw [Zei,Zei,List.append_assoc,List.append_assoc,List.cons_append,List.cons_append] at h
   obtain ⟨e1,e2⟩:=Zgj (Zwi _) (Zwi _) h
   obtain ⟨e3,e4⟩:=ZkF h1 h2 e2
   exact ⟨by rw [List.map_cons,List.map_cons,Zgk e1,e3],e4⟩
theorem Ze5 (l:List Int) (s:Int):∀ b∈Zeb l s,44≤b∧b≤57:=by
 intro b hb
 simp only [Zeb,List.mem_flatMap,List.mem_append,List.mem_singleton] at hb
 obtain ⟨n,_,hb | rfl⟩:=hb
 ·have:=Zcb _ b hb;omega
 ·omega
theorem ZmE:∀ {l l':List Int},(∀ b∈l,0≤b∧b≤255)→(∀ b∈l',0≤b∧b≤255)→l.map (fun n=>UInt8.ofNat n.toNat)=l'.map (fun n=>UInt8.ofNat n.toNat)→l=l'
 | [],[],_,_,_=>rfl
 | [],_::_,_,_,h=>by simp at h
 | _::_,[],_,_,h=>by simp at h
 | a::l,b::l',h1,h2,h=>by
   simp only [List.map_cons,List.cons.injEq] at h
   have h3:=h1 a (by simp)
   have h4:=h2 b (by simp)
   have e:=congrArg UInt8.toNat h.1
   simp at e
   have:a=b:=by omega
   rw [this,ZmE (fun c hc=>h1 c (by simp [hc])) (fun c hc=>h2 c (by simp [hc])) h.2]
theorem ZlX {l l':List Int} (h1:∀ b∈l,0≤b∧b≤255) (h2:∀ b∈l',0≤b∧b≤255) (h:ZbV l=ZbV l'):l=l':=by
 refine ZmE h1 h2 ?_
 have:=congrArg (fun x:ByteArray=>x.data.toList) h
 simpa [ZbV] using this
theorem Zkn {l:List Int} (h:∀ b∈l,0≤b∧b≤255):ZdC (ZbV l)=l:=by
 simp only [ZdC,ZbV,List.map_map]
 conv=>rhs;rw [← List.map_id l]
 refine List.map_congr_left fun b hb=>?_
 have:=h b hb
 simp;omega
theorem Zh8 (l:List Int):l.map ((1:Int)*·)=l:=by
 conv=>rhs;rw [← List.map_id l]
 exact List.map_congr_left fun n _=>by simp
theorem ZuB (l:List Int):l.map ((-1:Int)*·)=Zb5 l:=List.map_congr_left fun n _=>by omega
theorem Zre {C C':List Int} {s s':Int}:ZbV (Zeb C s)=ZbV (Zeb C' s')↔C.map (s*·)=C'.map (s'*·):=by
 have hb:∀ (l:List Int) (s:Int),∀ b∈Zeb l s,0≤b∧b≤255:=fun l s b hb=>by have:=Ze5 l s b hb;omega
 constructor
 ·intro h
  have:=ZlX (hb _ _) (hb _ _) h
  exact (ZkF (r:=[]) (r':=[]) (by simp) (by simp) (by simpa using this)).1
 ·intro h
  have:∀ (l:List Int) (s:Int),Zeb l s=(l.map (s*·)).flatMap fun n=>ZbH n++[44]:=fun l s=>by
   simp [Zeb,List.flatMap_map]
  rw [this,this,h]
theorem ZkJ {C C':List Int}:ZbV (Zeb C 1)=ZbV (Zeb C' 1)↔C=C':=by rw [Zre,Zh8,Zh8]
theorem ZoP {C C':List Int}:ZbV (Zeb C (-1))=ZbV (Zeb C' 1)↔Zb5 C=C':=by rw [Zre,Zh8,ZuB]
theorem ZdS (c:Zc) (p:List Zc):Zco (c::p)=ZbH c.1++58::(ZbH c.2.1++58::((Zeb c.2.2.1 1++ZbH c.2.2.2)++59::Zco p)):=by
 simp [Zco]
theorem ZmN:∀ {p q:List Zc},Zco p=Zco q→p=q
 | [],[],_=>rfl
 | [],c::q,h=>by rw [ZdS] at h;simp [Zco] at h
 | c::p,[],h=>by rw [ZdS] at h;simp [Zco] at h
 | c::p,d::q,h=>by
   rw [ZdS,ZdS] at h
   have n58:∀ n,(58:Int)∉ZbH n:=fun n h=>by have:=Zcb n _ h;omega
   have n59:∀ C K,(59:Int)∉Zeb C 1++ZbH K:=fun C K h=>by
    rcases List.mem_append.1 h with h | h
    ·have:=Ze5 _ _ _ h;omega
    ·have:=Zcb _ _ h;omega
   obtain ⟨e1,h⟩:=Zgj (n58 _) (n58 _) h
   obtain ⟨e2,h⟩:=Zgj (n58 _) (n58 _) h
   obtain ⟨e3,h⟩:=Zgj (n59 _ _) (n59 _ _) h
   obtain ⟨e4,e5⟩:=ZkF (Zwi _) (Zwi _) e3
   rw [Zh8,Zh8] at e4
   have ih:=ZmN h
   rw [ih,Prod.ext (Zgk e1) (Prod.ext (Zgk e2) (Prod.ext e4 (Zgk e5)))]
theorem ZiO (p:List Zc):∀ b∈Zco p,0≤b∧b≤255:=by
 intro b hb
 simp only [Zco,List.mem_flatMap,List.mem_append,List.mem_singleton] at hb
 obtain ⟨c,_,hb⟩:=hb
 rcases hb with (((((hb | rfl) | hb) | rfl) | hb) | hb) | rfl
 ·have:=Zcb _ _ hb;omega
 ·omega
 ·have:=Zcb _ _ hb;omega
 ·omega
 ·have:=Ze5 _ _ _ hb;omega
 ·have:=Zcb _ _ hb;omega
 ·omega
theorem Zob {p q:List Zc}:ZbV (Zco p)=ZbV (Zco q)↔p=q :=
 ⟨fun h=>ZmN (ZlX (ZiO p) (ZiO q) h),fun h=>by rw [h]⟩
def ZaJ.wp (x0:List Int) (x1:Int) (Q:ByteArray→Prop):Prop:=let v2:=List.length ([(44:Int)]);Lp (σ:=Int×List Int) (fun y3 R3=>let v0:=List.getD x0 (Int.toNat y3.1) (0:Int);let v1:=List.length (y3.2++ZbH (x1*v0));cond (decide (y3.1 < ((List.length x0:Nat):Int))) (((0:Int)≤y3.1∧y3.1 < ((List.length x0:Nat):Int))∧(Zr IntKind.i64 (x1*v0)∧(Zpu (x1*v0) y3.2∧((((v1+v2)*1)≤140737488355328∧(v1+v2)≤9223372036854775807)∧(Zr IntKind.i64 (y3.1+(1:Int))∧R3 ((y3.1+(1:Int)),((y3.2++ZbH (x1*v0))++[(44:Int)]))))))) (Q (ZbV y3.2))) ((0:Int),([]:List Int))
def Zp.wp (x0:List Zc) (Q:ByteArray→Prop):Prop:=let v2:=List.length ([(58:Int)]);let v8:=List.length ([(59:Int)]);Lp (σ:=Int×List Int) (fun y2 R2=>let v0:=List.getD x0 (Int.toNat y2.1) Za;let v1:=List.length (y2.2++ZbH v0.1);let v3:=List.length (((y2.2++ZbH v0.1)++[(58:Int)])++ZbH v0.2.1);let v4:=List.length ((((y2.2++ZbH v0.1)++[(58:Int)])++ZbH v0.2.1)++[(58:Int)]);let v5:=ZaJ.fn (v0.2.2.1,((1:Int),()));let v6:=List.length (ZdC v5);let v7:=List.length ((((((y2.2++ZbH v0.1)++[(58:Int)])++ZbH v0.2.1)++[(58:Int)])++ZdC v5)++ZbH v0.2.2.2);cond (decide (y2.1 < ((List.length x0:Nat):Int))) (((0:Int)≤y2.1∧y2.1 < ((List.length x0:Nat):Int))∧(Zpu v0.1 y2.2∧((((v1+v2)*1)≤140737488355328∧(v1+v2)≤9223372036854775807)∧(Zpu v0.2.1 ((y2.2++ZbH v0.1)++[(58:Int)])∧((((v3+v2)*1)≤140737488355328∧(v3+v2)≤9223372036854775807)∧(ZaJ.pre (v0.2.2.1,((1:Int),()))∧((((v4+v6)*1)≤140737488355328∧(v4+v6)≤9223372036854775807)∧(Zpu v0.2.2.2 (((((y2.2++ZbH v0.1)++[(58:Int)])++ZbH v0.2.1)++[(58:Int)])++ZdC v5)∧((((v7+v8)*1)≤140737488355328∧(v7+v8)≤9223372036854775807)∧(Zr IntKind.i64 (y2.1+(1:Int))∧R2 ((y2.1+(1:Int)),(((((((y2.2++ZbH v0.1)++[(58:Int)])++ZbH v0.2.1)++[(58:Int)])++ZdC v5)++ZbH v0.2.2.2)++[(59:Int)])))))))))))) (Q (ZbV y2.2))) ((0:Int),([]:List Int))
def ZaM.wp (x0:List Zc) (Q:(List Zc)→Prop):Prop:=Lp (σ:=Int×(List (Zc))×(ByteArray→Option Int)) (fun y2 R2=>let v0:=List.getD x0 (Int.toNat y2.1) Za;let v1:=ZaJ.fn (v0.2.2.1,((1:Int),()));let v3:=Option.getD (y2.2.2 v1) (0:Int);let v4:=List.getD y2.2.1 (Int.toNat v3) Za;cond (decide (y2.1 < ((List.length x0:Nat):Int))) (((0:Int)≤y2.1∧y2.1 < ((List.length x0:Nat):Int))∧cond (v0.1 != (0:Int)) ((((List.length y2.2.1+List.length [v0])*48)≤140737488355328∧(List.length y2.2.1+List.length [v0])≤9223372036854775807)∧(Zr IntKind.i64 (y2.1+(1:Int))∧R2 ((y2.1+(1:Int)),((y2.2.1++[v0]),y2.2.2)))) (ZaJ.pre (v0.2.2.1,((1:Int),()))∧cond (Option.isSome (y2.2.2 v1)) (((0:Int)≤v3∧v3 < ((List.length y2.2.1:Nat):Int))∧(Int.toNat v3 < List.length y2.2.1∧(((0:Int)≤v3∧v3 < ((List.length y2.2.1:Nat):Int))∧(Int.toNat v3 < List.length y2.2.1∧(Zr IntKind.i64 (y2.1+(1:Int))∧R2 ((y2.1+(1:Int)),((List.set y2.2.1 (Int.toNat v3) (v4.1,(v4.2.1,(v4.2.2.1,(Min.min v4.2.2.2 v0.2.2.2))))),y2.2.2))))))) ((((List.length y2.2.1+List.length [v0])*48)≤140737488355328∧(List.length y2.2.1+List.length [v0])≤9223372036854775807)∧(Zr IntKind.i64 (y2.1+(1:Int))∧R2 ((y2.1+(1:Int)),((y2.2.1++[v0]),(ZdA y2.2.2 v1 ((List.length y2.2.1:Nat):Int)))))))) (Q y2.2.1)) ((0:Int),(([]:List (Zc)),fun (a2:ByteArray)=>(none:Option Int)))
def Zam.wp (x0:List Zc) (Q:(List Zc)×Bool→Prop):Prop:=Lp (σ:=Int×(ByteArray→Option Int)) (fun y2 R2=>let v0:=List.getD x0 (Int.toNat y2.1) Za;cond (decide (y2.1 < ((List.length x0:Nat):Int))) (((0:Int)≤y2.1∧y2.1 < ((List.length x0:Nat):Int))∧cond (v0.1 == (0:Int)) (ZaJ.pre (v0.2.2.1,((1:Int),()))∧(Zr IntKind.i64 (y2.1+(1:Int))∧R2 ((y2.1+(1:Int)),ZdA y2.2 (ZaJ.fn (v0.2.2.1,((1:Int),()))) y2.1))) (Zr IntKind.i64 (y2.1+(1:Int))∧R2 ((y2.1+(1:Int)),y2.2))) (Lp (σ:=Int×(List (Zc))×(Int→Option Bool)) (fun y4 R4=>let v3:=List.getD x0 (Int.toNat y4.1) Za;let v4:=ZaJ.fn (v3.2.2.1,((-(1:Int)),()));let v6:=Option.getD (y2.2 v4) (0:Int);let v7:=List.getD x0 (Int.toNat v6) Za;let v8:=ZaK.fn (((1:Int),((0:Int),v3.2.2)),());cond (decide (y4.1 < ((List.length x0:Nat):Int))) (((0:Int)≤y4.1∧y4.1 < ((List.length x0:Nat):Int))∧cond (Option.getD (y4.2.2 y4.1) false) (Zr IntKind.i64 (y4.1+(1:Int))∧R4 ((y4.1+(1:Int)),y4.2)) (ZaJ.pre (v3.2.2.1,((-(1:Int)),()))∧(((!(v3.1 != (0:Int)))=true→((!(v3.1 != (0:Int)))=true∧True))∧(((v3.1 != (0:Int))=false→(!(v3.1 != (0:Int)))=true)∧cond ((v3.1 != (0:Int))||(!(Option.isSome (y2.2 v4)))) ((((List.length y4.2.1+List.length [v3])*48)≤140737488355328∧(List.length y4.2.1+List.length [v3])≤9223372036854775807)∧(Zr IntKind.i64 (y4.1+(1:Int))∧R4 ((y4.1+(1:Int)),((y4.2.1++[v3]),y4.2.2)))) (((0:Int)≤v6∧v6 < ((List.length x0:Nat):Int))∧(Zr IntKind.i64 (v3.2.2.2+v7.2.2.2)∧cond (decide ((v3.2.2.2+v7.2.2.2) < (0:Int))) (Q (([]:List (Zc)),true)) (cond ((v3.2.2.2+v7.2.2.2) == (0:Int)) (ZaK.pre (((1:Int),((0:Int),v3.2.2)),())∧((((List.length y4.2.1+List.length [v8.1])*48)≤140737488355328∧(List.length y4.2.1+List.length [v8.1])≤9223372036854775807)∧(Zr IntKind.i64 (y4.1+(1:Int))∧R4 ((y4.1+(1:Int)),((y4.2.1++[v8.1]),ZdA y4.2.2 v6 true))))) ((((List.length y4.2.1+List.length [v3])*48)≤140737488355328∧(List.length y4.2.1+List.length [v3])≤9223372036854775807)∧(Zr IntKind.i64 (y4.1+(1:Int))∧R4 ((y4.1+(1:Int)),((y4.2.1++[v3]),y4.2.2))))))))))) (Q (y4.2.1,false))) ((0:Int),(([]:List (Zc)),fun (a4:Int)=>(none:Option Bool))))) ((0:Int),fun (a2:ByteArray)=>(none:Option Int))
def Zb.wp (x0:List Zc) (Q:(List Zc)×Bool×Int→Prop):Prop:=Lp (σ:=Int×List (Zc)) (fun y2 R2=>let v0:=List.getD x0 (Int.toNat y2.1) Za;let v1:=[(((ZaK.fn (v0,())).1).1,((((ZaK.fn (v0,())).1).2).1,((((ZaK.fn (v0,())).1).2).2)))];let v2:=Zam.fn (ZaM.fn (y2.2,()),());let v14:=Zd.fn (y2.2,((fun (a9:Zc)=>True,fun (a9:Zc)=>ZaW.fn (a9,())),()));let v28:=Zd.fn (y2.2,((fun (a13:Zc)=>True,fun (a13:Zc)=>ZaW.fn (a13,())),()));let v31:=Zd.fn (y2.2,((fun (a11:Zc)=>True,fun (a11:Zc)=>ZaW.fn (a11,())),()));cond (decide (y2.1 < ((List.length x0:Nat):Int))) (((0:Int)≤y2.1∧y2.1 < ((List.length x0:Nat):Int))∧(ZaK.pre (v0,())∧cond (decide ((ZaK.fn (v0,())).2 < (0:Int))) (Q (([]:List (Zc)),(true,(0:Int)))) (cond ((ZaK.fn (v0,())).2 == (0:Int)) ((((List.length y2.2+List.length v1)*48)≤140737488355328∧(List.length y2.2+List.length v1)≤9223372036854775807)∧(Zr IntKind.i64 (y2.1+(1:Int))∧R2 ((y2.1+(1:Int)),(y2.2++v1)))) (Zr IntKind.i64 (y2.1+(1:Int))∧R2 ((y2.1+(1:Int)),y2.2))))) (Zd.pre (y2.2,((fun (a4:Zc)=>True,fun (a4:Zc)=>ZaW.fn (a4,())),()))∧(ZaM.pre (y2.2,())∧(Zam.pre (ZaM.fn (y2.2,()),())∧cond v2.2 (Q (([]:List (Zc)),(true,(0:Int)))) (Lp (σ:=Int×(ByteArray→Option Int)) (fun y4 R4=>let v3:=List.getD v2.1 (Int.toNat y4.1) Za;let v4:=ZaJ.fn (v3.2.2.1,((1:Int),()));let v5:=Option.isSome (y4.2 v4);cond (decide (y4.1 < ((List.length v2.1:Nat):Int))) (((0:Int)≤y4.1∧y4.1 < ((List.length v2.1:Nat):Int))∧cond (v3.1 != (1:Int)) (Zr IntKind.i64 (y4.1+(1:Int))∧R4 ((y4.1+(1:Int)),y4.2)) (ZaJ.pre (v3.2.2.1,((1:Int),()))∧((v5=true→(v5=true∧True))∧((v5=true→(v5=true∧True))∧((v5=true→(v5=true∧(v5=true∧True)))∧((v5=true→v5=true)∧cond (v5&&((Option.getD (y4.2 v4) (0:Int)) != v3.2.2.2)) (Q (([]:List (Zc)),(true,(0:Int)))) (Zr IntKind.i64 (y4.1+(1:Int))∧R4 ((y4.1+(1:Int)),ZdA y4.2 v4 v3.2.2.2)))))))) (Lp (σ:=Int×List (Zc)) (fun y6 R6=>let v7:=List.getD v2.1 (Int.toNat y6.1) Za;let v8:=ZaJ.fn (v7.2.2.1,((1:Int),()));let v11:=ZaJ.fn (v7.2.2.1,((-(1:Int)),()));let v13:=Option.getD (y4.2 v11) (0:Int);cond (decide (y6.1 < ((List.length v2.1:Nat):Int))) (((0:Int)≤y6.1∧y6.1 < ((List.length v2.1:Nat):Int))∧cond (v7.1 == (0:Int)) (ZaJ.pre (v7.2.2.1,((1:Int),()))∧cond (Option.isSome (y4.2 v8)) (cond (decide (v7.2.2.2 < (Option.getD (y4.2 v8) (0:Int)))) (Q (([]:List (Zc)),(true,(0:Int)))) (Zr IntKind.i64 (y6.1+(1:Int))∧R6 ((y6.1+(1:Int)),y6.2))) (ZaJ.pre (v7.2.2.1,((-(1:Int)),()))∧cond (Option.isSome (y4.2 v11)) (Zr IntKind.i64 (v7.2.2.2+v13)∧cond (decide ((v7.2.2.2+v13) < (0:Int))) (Q (([]:List (Zc)),(true,(0:Int)))) (Zr IntKind.i64 (y6.1+(1:Int))∧R6 ((y6.1+(1:Int)),y6.2))) ((((List.length y6.2+List.length [v7])*48)≤140737488355328∧(List.length y6.2+List.length [v7])≤9223372036854775807)∧(Zr IntKind.i64 (y6.1+(1:Int))∧R6 ((y6.1+(1:Int)),(y6.2++[v7])))))) ((((List.length y6.2+List.length [v7])*48)≤140737488355328∧(List.length y6.2+List.length [v7])≤9223372036854775807)∧(Zr IntKind.i64 (y6.1+(1:Int))∧R6 ((y6.1+(1:Int)),(y6.2++[v7]))))) (ZqB (fun (a8:Zc)=>fun (a9:Zc)=>Zao.pre (a8,(a9,()))) y6.2∧∀ b8:List (Zc),((List.Perm y6.2 b8∧Ze4 (fun (a9:Zc)=>fun (a10:Zc)=>Zao.fn (a9,(a10,()))) b8)→cond (decide (((List.length b8:Nat):Int) < (2:Int))) (((!v14)=true→((!v14)=true∧True))∧(((!v14)=true→((!v14)=true∧True))∧((v14=false→(!v14)=true)∧cond (v14||decide ((96:Int) < ((List.length b8:Nat):Int))) (Q (([]:List (Zc)),(false,(3:Int)))) (Q (b8,(false,(0:Int))))))) (Lp (σ:=Int) (fun y9 R9=>let v15:=Int.toNat (y9 - (1:Int));let v16:=List.getD b8 (Int.toNat y9) Za;let v17:=List.getD b8 v15 Za;cond (decide (y9 < ((List.length b8:Nat):Int))) (((0:Int)≤y9∧y9 < ((List.length b8:Nat):Int))∧(Int.toNat y9 < List.length b8∧(Zr IntKind.i64 (y9 - (1:Int))∧(((0:Int)≤(y9 - (1:Int))∧(y9 - (1:Int)) < ((List.length b8:Nat):Int))∧(v15 < List.length b8∧(Zai.pre (v16,(v17,()))∧cond (Zai.fn (v16,(v17,()))) (((0:Int)≤y9∧y9≤((List.length b8:Nat):Int))∧Lp (σ:=Int×Int×List (Zc)) (fun y11 R11=>let v19:=Int.toNat (y11.1 - (1:Int));let v20:=List.getD y11.2.2 ((0+Int.toNat y9)+Int.toNat y11.1) Za;let v21:=List.getD y11.2.2 ((0+Int.toNat y9)+v19) Za;let v24:=List.take (0+Int.toNat y11.2.1) y11.2.2;let v25:=List.replicate (List.length y11.2.2 - Int.toNat y11.2.1) Za;let v26:=List.drop ((0+Int.toNat y11.2.1)+(List.length y11.2.2 - Int.toNat y11.2.1)) y11.2.2;let v27:=List.length ((v24++v25)++v26);let v30:=List.take (Int.toNat y11.2.1) (List.drop 0 ((v24++v25)++v26));cond (decide (y11.1 < (((List.length b8 - Int.toNat y9):Nat):Int))) (((0:Int)≤y11.1∧(y11.1 < (((List.length b8 - Int.toNat y9):Nat):Int)∧((0+Int.toNat y9)+(List.length b8 - Int.toNat y9))≤List.length y11.2.2))∧(((0+Int.toNat y9)+Int.toNat y11.1) < List.length y11.2.2∧(Zr IntKind.i64 (y11.1 - (1:Int))∧(((0:Int)≤(y11.1 - (1:Int))∧((y11.1 - (1:Int)) < (((List.length b8 - Int.toNat y9):Nat):Int)∧((0+Int.toNat y9)+(List.length b8 - Int.toNat y9))≤List.length y11.2.2))∧(((0+Int.toNat y9)+v19) < List.length y11.2.2∧(Zai.pre (v20,(v21,()))∧cond (!(Zai.fn (v20,(v21,())))) (((0:Int)≤y11.1∧(y11.1 < (((List.length b8 - Int.toNat y9):Nat):Int)∧((0+Int.toNat y9)+(List.length b8 - Int.toNat y9))≤List.length y11.2.2))∧(((0+Int.toNat y9)+Int.toNat y11.1) < List.length y11.2.2∧(((0:Int)≤y11.2.1∧y11.2.1 < ((List.length y11.2.2:Nat):Int))∧(Int.toNat y11.2.1 < List.length y11.2.2∧(Zr IntKind.i64 (y11.2.1+(1:Int))∧(Zr IntKind.i64 (y11.1+(1:Int))∧R11 ((y11.1+(1:Int)),((y11.2.1+(1:Int)),(List.set y11.2.2 (Int.toNat y11.2.1) v20))))))))) (Zr IntKind.i64 (y11.1+(1:Int))∧R11 ((y11.1+(1:Int)),y11.2)))))))) (((0:Int)≤y11.2.1∧y11.2.1≤((List.length y11.2.2:Nat):Int))∧(((0+Int.toNat y11.2.1)+(List.length y11.2.2 - Int.toNat y11.2.1))≤List.length y11.2.2∧(((0:Int)≤y11.2.1∧y11.2.1≤((v27:Nat):Int))∧((0+Int.toNat y11.2.1)≤v27∧(((!v28)=true→((!v28)=true∧True))∧(((!v28)=true→((!v28)=true∧True))∧((v28=false→(!v28)=true)∧cond (v28||decide ((96:Int) < ((List.length v30:Nat):Int))) (Q (([]:List (Zc)),(false,(3:Int)))) (Q (v30,(false,(0:Int)))))))))))) ((1:Int),(y9,b8))) (Zr IntKind.i64 (y9+(1:Int))∧R9 (y9+(1:Int))))))))) (((!v31)=true→((!v31)=true∧True))∧(((!v31)=true→((!v31)=true∧True))∧((v31=false→(!v31)=true)∧cond (v31||decide ((96:Int) < ((List.length b8:Nat):Int))) (Q (([]:List (Zc)),(false,(3:Int)))) (Q (b8,(false,(0:Int)))))))) (1:Int))))) ((0:Int),([]:List (Zc))))) ((0:Int),fun (a4:ByteArray)=>(none:Option Int))))))) ((0:Int),([]:List (Zc)))
theorem ZpV (l:List Int) (s:Int):∀ b∈Zeb l s,0≤b∧b≤255:=fun b hb=>by have:=Ze5 l s b hb;omega
theorem ZnP (l:List Int) (s:Int):ZdC (ZbV (Zeb l s))=Zeb l s:=Zkn (ZpV l s)
theorem Zqh (l:List Int) (n s:Int):Zeb (l++[n]) s=Zeb l s++ZbH (s*n)++[44]:=by simp [Zeb]
theorem Zpd (p:List Zc) (c:Zc):Zco (p++[c])=Zco p++ZbH c.1++[58]++ZbH c.2.1++[58]++Zeb c.2.2.1 1++ZbH c.2.2.2++[59]:=by simp [Zco]
theorem ZhL {s:Int} (hs:s=1∨s=-1):∀ {l:List Int},ZcM l→(Zeb l s).length≤22*l.length
 | [],_=>by simp [Zeb]
 | n::l,h=>by
   rw [Zei]
   have h1:=ZhL hs (l:=l) fun m hm=>h m (by simp [hm])
   have h2:=h n (by simp)
   have h3:(ZbH (s*n)).length≤21:=by rcases hs with rfl | rfl<;>exact ZcE (by omega) (by omega)
   simp only [List.length_append,List.length_cons];omega
theorem Zl9:∀ {p:List Zc},(∀ c∈p,c.2.2.1.length≤4096∧ZcM c.2.2.1∧ZcM [c.1,c.2.1,c.2.2.2])→(Zco p).length≤90200*p.length
 | [],_=>by simp [Zco]
 | c::p,h=>by
   rw [ZdS]
   have h1:=Zl9 (p:=p) fun m hm=>h m (by simp [hm])
   obtain ⟨h2,h3,h4⟩:=h c (by simp)
   have h5:=ZhL (.inl rfl) h3
   have a1:=ZcE (h4 c.1 (by simp)).1 (h4 c.1 (by simp)).2
   have a2:=ZcE (h4 c.2.1 (by simp)).1 (h4 c.2.1 (by simp)).2
   have a3:=ZcE (h4 c.2.2.2 (by simp)).1 (h4 c.2.2.2 (by simp)).2
   simp only [List.length_append,List.length_cons];omega
theorem ZpA {l:List Int} (i:Nat) (h:ZcM l):ZcM (l.take i):=fun n hn=>h n (List.mem_of_mem_take hn)
theorem ZaJ.spec (l:List Int) (s:Int) (hp:ZaJ.pre (l,s,())):ZaJ.wp l s (fun r=>r=ZaJ.fn (l,s,())):=by
 obtain ⟨hl,hi,hs⟩:=hp
 simp only at hl hi hs
 have hfn:ZaJ.fn (l,s,())=ZbV (Zeb l s):=rfl
 simp only [ZaJ.wp,hfn]
 refine Lp.iter l.length (fun i y=>y=((i:Int),Zeb (l.take i) s)) (by simp [Zeb]) ?_
 rintro i y hle rfl R hR
 by_cases e:i < l.length
 ·have hk:=ZhL hs (ZpA i hi)
  have hn:=hi _ (Zj (d:=0) e)
  have hlt:(l.take i).length≤1048576:=by simp;omega
  have h3:(ZbH (s*l.getD i 0)).length≤21:=by rcases hs with rfl | rfl<;>exact ZcE (by omega) (by omega)
  have hf:Zr .i64 (s*l.getD i 0):=by
   show -9223372036854775808≤s*l.getD i 0∧s*l.getD i 0≤9223372036854775807
   rcases hs with rfl | rfl<;>omega
  simp only [decide_eq_true (show (i:Int) < (l.length:Int) by omega),Int.toNat_natCast,cond_true]
  refine ⟨⟨by omega,by omega⟩,hf,⟨hf,by omega⟩,⟨?_,?_⟩,⟨by omega,by omega⟩,hR e _ ?_⟩
  ·simp only [List.length_append,List.length_cons,List.length_nil];omega
  ·simp only [List.length_append,List.length_cons,List.length_nil];omega
  ·rw [ZL 0 e,Zqh]
   rfl
 ·have:i=l.length:=by omega
  subst this
  simp only [Int.lt_irrefl,decide_false,cond_false,List.take_length]
theorem Zp.spec (p:List Zc) (hp:Zp.pre (p,())):Zp.wp p (fun r=>r=Zp.fn (p,())):=by
 obtain ⟨hl,hi⟩:=hp
 simp only at hl hi
 have hfn:Zp.fn (p,())=ZbV (Zco p):=rfl
 simp only [Zp.wp,hfn,ZaJ.fn,ZnP]
 refine Lp.iter p.length (fun i y=>y=((i:Int),Zco (p.take i))) (by simp [Zco]) ?_
 rintro i y hle rfl R hR
 by_cases e:i < p.length
 ·have hk:=Zl9 (p:=p.take i) fun c hc=>hi c (List.mem_of_mem_take hc)
  obtain ⟨h2,h3,h4⟩:=hi _ (Zj (d:=Za) e)
  have h5:=ZhL (.inl rfl) h3
  have b1:=h4 (p.getD i Za).1 (by simp)
  have b2:=h4 (p.getD i Za).2.1 (by simp)
  have b3:=h4 (p.getD i Za).2.2.2 (by simp)
  have a1:=ZcE b1.1 b1.2
  have a2:=ZcE b2.1 b2.2
  have a3:=ZcE b3.1 b3.2
  have hlt:(p.take i).length≤1048576:=by simp;omega
  have hf:∀ n:Int,-9223372036854775807≤n∧n≤9223372036854775807→Zr .i64 n:=fun n h=>⟨by omega,h.2⟩
  simp only [decide_eq_true (show (i:Int) < (p.length:Int) by omega),Int.toNat_natCast,cond_true]
  generalize hc:p.getD i Za=c at *
  generalize hA:Zco (p.take i)=A at *
  have g1:(A++ZbH c.1).length≤A.length+21:=by simp only [List.length_append];omega
  refine ⟨⟨by omega,by omega⟩,⟨hf _ b1,by omega⟩,⟨?_,?_⟩,⟨hf _ b2,?_⟩,⟨?_,?_⟩,⟨(by omega:c.2.2.1.length≤1048576),h3,.inl rfl⟩,⟨?_,?_⟩,⟨hf _ b3,?_⟩,⟨?_,?_⟩,⟨by omega,by omega⟩,hR e _ ?_⟩
  any_goals (simp only [List.length_append,List.length_cons,List.length_nil];omega)
  rw [ZL Za e,Zpd,hA,hc]
  rfl
 ·have:i=p.length:=by omega
  subst this
  simp only [Int.lt_irrefl,decide_false,cond_false,List.take_length]
theorem ZmT {C:List Int} {out:List Zc} {c:Zc} (h:c.1≠0):Zec C (out++[c])=Zec C out:=by
 simp only [Zec,List.findIdx?_append]
 simp [h]
theorem Zpb {C:List Int} {out:List Zc} {c:Zc} (h:c.1=0):Zec C (out++[c])=(Zec C out).or (if C=c.2.2.1 then some out.length else none):=by
 simp only [Zec,List.findIdx?_append]
 by_cases h2:C=c.2.2.1
 ·simp [h,h2]
 ·rw [if_neg h2];simp [h,show ¬ c.2.2.1=C from fun e=>h2 e.symm]
theorem Zmz (C:List Int) (out:List Zc):Zec C out=(out.map fun d=>(d.1,d.2.2.1)).findIdx? fun d=>decide (d.1=0∧d.2=C):=by
 simp only [Zec,List.findIdx?_map]
 rfl
theorem Zr6 {C:List Int} {out:List Zc} {i:Nat} {x:Zc} (h:x.1=(out.getD i Za).1) (h2:x.2.2.1=(out.getD i Za).2.2.1):Zec C (out.set i x)=Zec C out:=by
 by_cases e:i < out.length
 ·rw [Zmz,Zmz,List.map_set,h,h2,ZX e]
  congr 1
  have:((out[i].1,out[i].2.2.1):Int×List Int)=(out.map fun d=>(d.1,d.2.2.1))[i]'(by simpa using e):=by simp
  rw [this,List.set_getElem_self]
 ·rw [List.set_eq_of_length_le (by omega)]
theorem ZgO {C:List Int} {out:List Zc} {i:Nat} (h:Zec C out=some i):∃ hi:i < out.length,out[i].1=0∧out[i].2.2.1=C:=by
 obtain ⟨hi,h1,_⟩:=List.findIdx?_eq_some_iff_getElem.1 h
 exact ⟨hi,by simpa using h1⟩
theorem ZlC (out:List Zc) (c:Zc):(Zbk out c).length≤out.length+1:=by
 unfold Zbk
 split
 ·simp
 ·split<;>simp
theorem ZgH:∀ (l out:List Zc),(l.foldl Zbk out).length≤out.length+l.length
 | [],out=>by simp
 | c::l,out=>by
   have:=ZgH l (Zbk out c)
   have:=ZlC out c
   simp only [List.foldl_cons,List.length_cons];omega
def ZvP (out:List Zc) (m:ByteArray→Option Int):Prop:=∀ C,m (ZbV (Zeb C 1))=(Zec C out).map fun (i:Nat)=>(i:Int)
theorem ZaM.spec (l:List Zc) (hp:ZaM.pre (l,())):ZaM.wp l (fun r=>r=ZaM.fn (l,())):=by
 obtain ⟨hl,hi⟩:=hp
 simp only at hl hi
 have hfn:ZaM.fn (l,())=Zbz l:=rfl
 simp only [ZaM.wp,hfn,ZaJ.fn]
 refine Lp.iter l.length (fun i y=>y.1=(i:Int)∧y.2.1=Zbz (l.take i)∧ZvP y.2.1 y.2.2) ⟨rfl,by simp [Zbz],fun C=>by simp [Zec]⟩ ?_
 rintro i ⟨y,out,m⟩ hle ⟨hy,ho,hm⟩ R hR
 simp only at hy ho hm
 subst hy
 by_cases e:i < l.length
 ·have hlen:=ZgH (l.take i) []
  have hlt:(l.take i).length≤1048576:=by simp;omega
  rw [show (l.take i).foldl Zbk []=out from ho.symm] at hlen
  simp only [List.length_nil] at hlen
  have hst:Zbz (l.take (i+1))=Zbk out (l.getD i Za):=by
   rw [ZL Za e,Zbz,List.foldl_append,ho];rfl
  obtain ⟨hc1,hc2⟩:=hi _ (Zj (d:=Za) e)
  simp only [decide_eq_true (show (i:Int) < (l.length:Int) by omega),Int.toNat_natCast,cond_true]
  generalize l.getD i Za=c at *
  refine ⟨⟨by omega,by omega⟩,?_⟩
  by_cases hk:c.1=0
  ·rw [hk]
   simp only [bne_self_eq_false,cond_false]
   refine ⟨⟨hc1,hc2,.inl rfl⟩,?_⟩
   have hmC:=hm c.2.2.1
   cases hg:Zec c.2.2.1 out with
   | none =>
     rw [hg] at hmC
     simp only [hmC,Option.map_none,Option.isSome_none,cond_false]
     refine ⟨⟨by simp;omega,by simp;omega⟩,⟨by omega,by omega⟩,hR e _ ⟨by simp,?_,?_⟩⟩
     ·simp only [hst,Zbk,hk,hg];rfl
     ·intro C
      simp only [ZdA,ZkJ]
      rw [Zpb hk]
      by_cases hC:C=c.2.2.1
      ·rw [if_pos hC,if_pos hC,hC,hg];rfl
      ·rw [if_neg hC,if_neg hC,hm C];simp
   | some j =>
     rw [hg] at hmC
     obtain ⟨hj,h1,h2⟩:=ZgO hg
     simp only [hmC,Option.map_some,Option.isSome_some,cond_true,Option.getD_some,Int.toNat_natCast]
     have hgj:=ZX (d:=Za) hj
     refine ⟨⟨by omega,by omega⟩,hj,⟨by omega,by omega⟩,hj,⟨by omega,by omega⟩,hR e _ ⟨by simp,?_,?_⟩⟩
     ·simp only [hst,Zbk,hk,hg];rfl
     ·intro C
      exact (hm C).trans (congrArg _ (Zr6 (C:=C) (out:=out) (i:=j) (x:=Zhe (out.getD j Za) c.2.2.2) rfl rfl).symm)
  ·rw [bne_iff_ne.2 hk]
   simp only [cond_true]
   refine ⟨⟨by simp;omega,by simp;omega⟩,⟨by omega,by omega⟩,hR e _ ⟨by simp,?_,?_⟩⟩
   ·simp only [hst,Zbk,if_pos hk]
   ·intro C
    exact (hm C).trans (congrArg _ (ZmT hk).symm)
 ·have:i=l.length:=by omega
  subst this
  simp only [Int.lt_irrefl,decide_false,cond_false,ho,List.take_length]
theorem Zfp (C:List Int) (c:Zc):∀ (l:List Zc) (k:Nat),ZcQ C (l++[c]) k=if c.1=0∧c.2.2.1=C then some (k+l.length) else ZcQ C l k
 | [],k=>by
   simp only [List.nil_append,ZcQ,List.length_nil,Nat.add_zero]
 | d::l,k=>by
   simp only [List.cons_append,ZcQ,Zfp C c l (k+1),List.length_cons]
   by_cases h:c.1=0∧c.2.2.1=C
   ·simp only [if_pos h];congr 1;omega
   ·simp only [if_neg h]
theorem Zfu {C:List Int}:∀ {l:List Zc} {k j:Nat},ZcQ C l k=some j→k≤j∧∃ h:j - k < l.length,l[j - k].1=0∧l[j - k].2.2.1=C
 | [],k,j,h=>by cases h
 | d::l,k,j,h=>by
   simp only [ZcQ] at h
   cases h1:ZcQ C l (k+1) with
   | some i =>
     rw [h1] at h
     cases h
     obtain ⟨h2,h3,h4⟩:=Zfu h1
     have e:j - k=(j - (k+1))+1:=by omega
     refine ⟨by omega,by simp;omega,?_⟩
     simp only [e,List.getElem_cons_succ]
     exact h4
   | none =>
     rw [h1] at h
     simp only at h
     split at h
     ·rename_i h2
      cases h
      refine ⟨Nat.le_refl _,by simp,?_⟩
      simp only [Nat.sub_self,List.getElem_cons_zero]
      exact h2
     ·cases h
theorem ZlS {l:List Zc} {st st':List Zc×(Int→Option Bool)} {ic:Nat×Zc} (h:Zb0 l st ic=some st'):st'.1.length≤st.1.length+1:=by
 unfold Zb0 at h
 split at h
 ·cases h;omega
 ·split at h
  ·cases h;simp
  ·split at h
   ·cases h
   ·split at h<;>(cases h;simp)
theorem ZhU {l:List Zc}:∀ {m:List (Nat×Zc)} {st st':List Zc×(Int→Option Bool)},m.foldlM (Zb0 l) st=some st'→st'.1.length≤st.1.length+m.length
 | [],st,st',h=>by cases h;simp
 | x::m,st,st',h=>by
   simp only [List.foldlM_cons,Option.bind_eq_bind,Option.bind_eq_some_iff] at h
   obtain ⟨s,h1,h2⟩:=h
   have:=ZlS h1
   have:=ZhU h2
   simp only [List.length_cons];omega
theorem Zb1 (l:List Zc):(ZcP l).length=l.length:=by simp [ZcP]
theorem Zho {l:List Zc} {i:Nat} (h:i < l.length):(ZcP l).getD i (0,Za)=(i,l.getD i Za):=by
 rw [ZX (by rw [Zb1];exact h)]
 simp [ZcP]
theorem ZcG {l:Lin} (h:linB l):ZcM l.1:=fun n hn=>by have:=h.2.1 n hn;unfold Zfd at this;omega
theorem Zam.spec (l:List Zc) (hp:Zam.pre (l,())):Zam.wp l (fun r=>r=Zam.fn (l,())):=by
 obtain ⟨hl,hi⟩:=hp
 simp only at hl hi
 simp only [Zam.wp,ZaJ.fn]
 refine Lp.iter l.length (fun i y=>y.1=(i:Int)∧∀ C,y.2 (ZbV (Zeb C 1))=(ZcQ C (l.take i) 0).map fun (i:Nat)=>(i:Int)) ⟨rfl,fun C=>rfl⟩ ?_
 rintro i ⟨y,m⟩ hle ⟨hy,hm⟩ R hR
 simp only at hy hm
 subst hy
 by_cases e:i < l.length
 ·obtain ⟨hk0,hb⟩:=hi _ (Zj (d:=Za) e)
  simp only [decide_eq_true (show (i:Int) < (l.length:Int) by omega),Int.toNat_natCast,cond_true]
  refine ⟨⟨by omega,by omega⟩,?_⟩
  have hts:=ZL Za e
  generalize l.getD i Za=c at *
  by_cases hk:c.1=0
  ·simp only [hk,beq_self_eq_true,cond_true]
   refine ⟨⟨hb.1,ZcG hb,.inl rfl⟩,⟨by omega,by omega⟩,hR e _ ⟨rfl,fun C=>?_⟩⟩
   rw [hts,Zfp]
   simp only [ZdA,ZkJ]
   by_cases hC:C=c.2.2.1
   ·rw [if_pos hC,if_pos ⟨hk,hC.symm⟩];simp;omega
   ·rw [if_neg hC,if_neg (fun h=>hC h.2.symm)];exact hm C
  ·rw [beq_eq_false_iff_ne.2 hk]
   simp only [cond_false]
   refine ⟨⟨by omega,by omega⟩,hR e _ ⟨rfl,fun C=>?_⟩⟩
   rw [hts,Zfp,if_neg (fun h=>hk h.1)]
   exact hm C
 clear hR
 have hil:i=l.length:=by omega
 subst hil
 simp only [Int.lt_irrefl,decide_false,cond_false]
 rw [List.take_length] at hm
 have hfn:Zam.fn (l,())=(match ((ZcP l).foldlM (Zb0 l) ([],fun _=>none)).map (·.1) with | none=>([],true) | some out=>(out,false)):=rfl
 refine Lp.foldO (ZcP l) (0,Za) (Zb0 l) ([],fun _=>none) (by rw [Zb1];omega) ?_ ?_
 ·rintro i ⟨out,gone⟩ R e _ hf ht hR1 hR2
  rw [Zb1] at e
  rw [Zho e] at hR1 hR2
  have hlen:=ZhU ht
  simp only [List.length_nil,List.length_take,Zb1] at hlen
  obtain ⟨hk0,hb⟩:=hi _ (Zj (d:=Za) e)
  simp only [decide_eq_true (show (i:Int) < (l.length:Int) by omega),Int.toNat_natCast,cond_true]
  refine ⟨⟨by omega,by omega⟩,?_⟩
  have hat:∀ j,j < l.length→l.getD j Za∈l:=fun j hj=>Zj hj
  simp only [Zb0] at hR1 hR2
  by_cases hg:(gone (i:Int)).getD false=true
  ·simp only [hg,cond_true,if_true] at hR1 ⊢
   exact ⟨hf,hR1 _ rfl⟩
  rw [Bool.not_eq_true] at hg
  simp only [hg,cond_false,Bool.false_eq_true,if_false] at hR1 hR2 ⊢
  refine ⟨⟨hb.1,ZcG hb,.inr rfl⟩,fun h=>⟨h,trivial⟩,fun h=>by rw [h];rfl,?_⟩
  have hw:m (ZbV (Zeb (l.getD i Za).2.2.1 (-1)))=(ZcQ (Zb5 (l.getD i Za).2.2.1) l 0).map fun (i:Nat)=>(i:Int):=by
   rw [← hm,ZoP.2 rfl]
  simp only [hw]
  by_cases hk:(l.getD i Za).1=0
  ·simp only [hk,bne_self_eq_false,Bool.false_or,ne_eq,not_true_eq_false,if_false] at hR1 hR2 ⊢
   cases hj:ZcQ (Zb5 (l.getD i Za).2.2.1) l 0 with
   | none =>
     rw [hj] at hR1
     simp only [Option.map_none,Option.isSome_none,Bool.not_false,cond_true]
     exact ⟨⟨by simp;omega,by simp;omega⟩,hf,hR1 _ rfl⟩
   | some j =>
     rw [hj] at hR1 hR2
     obtain ⟨_,hj1,hj2,hj3⟩:=Zfu hj
     simp only [Nat.sub_zero] at hj1 hj2 hj3
     obtain ⟨_,hb'⟩:=hi _ (hat j hj1)
     have q1:=hb.2.2
     have q2:=hb'.2.2
     unfold Zfd at q1 q2
     simp only [Option.map_some,Option.isSome_some,Bool.not_true,cond_false,Option.getD_some,Int.toNat_natCast] at hR1 hR2 ⊢
     refine ⟨⟨by omega,by omega⟩,⟨by omega,by omega⟩,?_⟩
     by_cases h1:(l.getD i Za).2.2.2+(l.getD j Za).2.2.2 < 0
     ·simp only [decide_eq_true h1,cond_true]
      rw [hfn,hR2 (by rw [if_pos h1])]
      rfl
     ·simp only [decide_eq_false h1,cond_false]
      rw [if_neg h1] at hR1
      by_cases h2:(l.getD i Za).2.2.2+(l.getD j Za).2.2.2=0
      ·rw [if_pos h2] at hR1
       simp only [h2,beq_self_eq_true,cond_true]
       exact ⟨⟨.inr (.inl rfl),hb⟩,⟨by simp;omega,by simp;omega⟩,hf,hR1 _ rfl⟩
      ·rw [if_neg h2] at hR1
       rw [beq_eq_false_iff_ne.2 h2]
       simp only [cond_false]
       exact ⟨⟨by simp;omega,by simp;omega⟩,hf,hR1 _ rfl⟩
  ·simp only [bne_iff_ne.2 hk,Bool.true_or,cond_true,ne_eq,hk,not_false_eq_true,if_true] at hR1 ⊢
   exact ⟨⟨by simp;omega,by simp;omega⟩,hf,hR1 _ rfl⟩
 ·rintro ⟨out,gone⟩ R ht
  rw [Zb1]
  simp only [Int.lt_irrefl,decide_false,cond_false]
  rw [hfn,ht]
  rfl
def Zgc {α:Type} (f:α→α→Int):Prop:=(∀ x y,f x y=-f y x)∧∀ x y z,f x y≤0→f y z≤0→f x z≤0∧(f x z=0→f x y=0∧f y z=0)
theorem Zgc.zero {α:Type} {f:α→α→Int} (h:Zgc f) {x y z:α} (h1:f x y=0) (h2:f y z=0):f x z=0:=by
 have a:=(h.2 x y z (by omega) (by omega)).1
 have b:=(h.2 z y x (by have:=h.1 z y;omega) (by have:=h.1 y x;omega)).1
 have:=h.1 x z
 omega
theorem Zgc.lex {α β:Type} {f:α→α→Int} {g:β→β→Int} (hf:Zgc f) (hg:Zgc g):Zgc fun x y:α×β=>if f x.1 y.1=0 then g x.2 y.2 else f x.1 y.1:=by
 refine ⟨fun x y=>?_,fun x y z=>?_⟩
 ·have:=hf.1 x.1 y.1
  have:=hg.1 x.2 y.2
  simp only
  split<;>split<;>omega
 ·have h1:=hf.2 x.1 y.1 z.1
  have h2:=hg.2 x.2 y.2 z.2
  have h3:=@Zgc.zero _ _ hf x.1 y.1 z.1
  simp only
  intro ha hb
  split at ha<;>split at hb<;>split<;>(try split)<;>(try split)<;>omega
theorem Zgc.comap {α β:Type} {f:α→α→Int} (hf:Zgc f) (g:β→α):Zgc fun x y=>f (g x) (g y):=⟨fun x y=>hf.1 _ _,fun x y z=>hf.2 _ _ _⟩
theorem ZdJ:Zgc Zha:=by
 refine ⟨fun x y=>?_,fun x y z=>?_⟩
 ·unfold Zha;repeat' split
  all_goals omega
 ·unfold Zha;repeat' split
  all_goals omega
theorem ZmO:∀ a b:List Int,ZcY a b=-ZcY b a
 | [],[]=>rfl
 | [],_::_=>rfl
 | _::_,[]=>rfl
 | x::a,y::b=>by
   have h1:=ZdJ.1 x y
   have h2:=ZmO a b
   simp only [ZcY]
   split<;>split<;>omega
theorem ZjR:∀ a b c:List Int,ZcY a b≤0→ZcY b c≤0→ZcY a c≤0∧(ZcY a c=0→ZcY a b=0∧ZcY b c=0)
 | [],[],[]=>by simp [ZcY]
 | [],[],_::_=>by simp [ZcY]
 | [],_::_,[]=>by simp [ZcY]
 | [],_::_,_::_=>by simp [ZcY]
 | _::_,[],_=>by simp [ZcY]
 | _::_,_::_,[]=>by simp [ZcY]
 | x::a,y::b,z::c=>by
   have h1:=ZdJ.2 x y z
   have h2:=ZjR a b c
   have h3:=@Zgc.zero _ _ ZdJ x y z
   simp only [ZcY]
   intro ha hb
   split at ha<;>split at hb<;>split<;>(try split)<;>(try split)<;>omega
theorem Zp7:Zgc ZcY:=⟨ZmO,ZjR⟩
theorem ZkV {a b:Int} (h:Zha a b=0):a=b:=by
 unfold Zha at h
 split at h
 ·omega
 ·split at h<;>omega
theorem ZrH:∀ {a b:List Int},ZcY a b=0→a=b
 | [],[],_=>rfl
 | [],_::_,h=>by simp [ZcY] at h
 | _::_,[],h=>by simp [ZcY] at h
 | x::a,y::b,h=>by
   simp only [ZcY] at h
   split at h
   ·rename_i h1
    rw [ZkV h1,ZrH h]
   ·rename_i h1;exact absurd h h1
theorem ZhC (a b:Zc):Zhu a b=if Zha (Zcc a.1) (Zcc b.1)=0 then (if Zha a.2.1 b.2.1=0 then (if ZcY a.2.2.1 b.2.2.1=0 then Zha a.2.2.2 b.2.2.2 else ZcY a.2.2.1 b.2.2.1) else Zha a.2.1 b.2.1) else Zha (Zcc a.1) (Zcc b.1):=by
 simp only [Zhu,orL]
 split
 ·split
  ·split
   ·split<;>omega
   ·rfl
  ·rfl
 ·rfl
theorem ZcI:Zgc Zhu:=by
 have h:=(ZdJ.comap Zcc).lex (ZdJ.lex (Zp7.lex ZdJ))
 refine ⟨fun x y=>?_,fun x y z=>?_⟩
 ·have:=h.1 x y
  simp only [ZhC];exact this
 ·have:=h.2 x y z
  simp only [ZhC];exact this
theorem Zf8 (a:Zc):Zhu a a=0:=by have:=ZcI.1 a a;omega
theorem ZqQ {a b:Int} (ha:Zf3 a) (hb:Zf3 b) (h:Zcc a=Zcc b):a=b:=by
 rcases ha with rfl | rfl | rfl<;>rcases hb with rfl | rfl | rfl<;>first | rfl | (simp [Zcc] at h)
theorem ZkL {a b:Zc} (ha:Zf3 a.1) (hb:Zf3 b.1) (h:Zhu a b=0):a=b:=by
 rw [ZhC] at h
 split at h
 ·rename_i h1
  split at h
  ·rename_i h2
   split at h
   ·rename_i h3
    exact Prod.ext (ZqQ ha hb (ZkV h1)) (Prod.ext (ZkV h2) (Prod.ext (ZrH h3) (ZkV h)))
   ·rename_i h3;exact absurd h h3
  ·rename_i h2;exact absurd h h2
 ·rename_i h1;exact absurd h h1
def SS (l:List Zc):Prop:=l.Pairwise fun a b=>Zhu a b < 0
def K3 (l:List Zc):Prop:=∀ c∈l,Zf3 c.1
theorem Zrq:∀ {l m:List Zc},SS l→SS m→(∀ c,c∈l↔c∈m)→l=m
 | [],[],_,_,_=>rfl
 | [],b::m,_,_,h=>by have:=(h b).2 (by simp);simp at this
 | a::l,[],_,_,h=>by have:=(h a).1 (by simp);simp at this
 | a::l,b::m,h1,h2,h=>by
   obtain ⟨h1a,h1b⟩:=List.pairwise_cons.1 h1
   obtain ⟨h2a,h2b⟩:=List.pairwise_cons.1 h2
   have e:a=b:=by
    rcases List.mem_cons.1 ((h a).1 (by simp)) with e | ha
    ·exact e
    rcases List.mem_cons.1 ((h b).2 (by simp)) with e | hb
    ·exact e.symm
    have:=h1a b hb
    have:=h2a a ha
    have:=ZcI.1 a b
    omega
   subst e
   congr 1
   refine Zrq h1b h2b fun c=>?_
   have hc:=h c
   simp only [List.mem_cons] at hc
   have hn1:c∈l→c≠a:=fun hm e=>by subst e;have:=h1a _ hm;have:=Zf8 c;omega
   have hn2:c∈m→c≠a:=fun hm e=>by subst e;have:=h2a _ hm;have:=Zf8 c;omega
   exact ⟨fun hm=>(hc.1 (.inr hm)).resolve_left (hn1 hm),fun hm=>(hc.2 (.inr hm)).resolve_left (hn2 hm)⟩
theorem Zf9 {c x:Zc}:∀ {l:List Zc},x∈ZhH c l↔x=c∨x∈l
 | []=>by simp [ZhH]
 | d::l=>by
   simp only [ZhH]
   split
   ·simp only [List.mem_cons,Zf9 (l:=l)]
    constructor
    ·rintro (h | h | h)<;>simp [h]
    ·rintro (h | h | h)<;>simp [h]
   ·split
    ·rename_i h;subst h;simp
    ·simp
theorem ZqL {c:Zc}:∀ {l:List Zc},Zf3 c.1→K3 l→SS l→SS (ZhH c l)
 | [],_,_,_=>List.pairwise_singleton _ _
 | d::l,hc,hk,h=>by
   obtain ⟨h1,h2⟩:=List.pairwise_cons.1 h
   simp only [ZhH]
   split
   ·rename_i hd
    refine List.pairwise_cons.2 ⟨fun x hx=>?_,ZqL hc (fun x hx=>hk x (by simp [hx])) h2⟩
    rcases Zf9.1 hx with rfl | hx
    ·exact hd
    ·exact h1 x hx
   ·rename_i hd
    split
    ·exact h
    ·rename_i he
     have hlt:Zhu c d < 0:=by
      have:=ZcI.1 c d
      have:Zhu d c≠0:=fun e=>he (ZkL (hk d (by simp)) hc e)
      omega
     refine List.pairwise_cons.2 ⟨fun x hx=>?_,h⟩
     rcases List.mem_cons.1 hx with rfl | hx
     ·exact hlt
     ·have:=h1 x hx
      have:=ZcI.2 c d x (by omega) (by omega)
      omega
theorem Zly:∀ {l out:List Zc},K3 l→K3 out→SS out→SS (l.foldl (fun out c=>ZhH c out) out)∧∀ x,x∈l.foldl (fun out c=>ZhH c out) out↔x∈l∨x∈out
 | [],out,_,_,h=>⟨h,by simp⟩
 | c::l,out,h1,h2,h=>by
   have hc:=h1 c (by simp)
   obtain ⟨g1,g2⟩:=Zly (l:=l) (out:=ZhH c out) (fun x hx=>h1 x (by simp [hx])) (fun x hx=>by
    rcases Zf9.1 hx with rfl | hx
    ·exact hc
    ·exact h2 x hx) (ZqL hc h2 h)
   refine ⟨g1,fun x=>?_⟩
   rw [List.foldl_cons,g2,Zf9,List.mem_cons]
   constructor
   ·rintro (h | h | h)<;>simp [h]
   ·rintro ((h | h) | h)<;>simp [h]
theorem ZhK {l:List Zc} (h:K3 l):SS (Zbd l):=(Zly h (by intro c hc;simp at hc) List.Pairwise.nil).1
theorem ZcJ {l:List Zc} (h:K3 l) (x:Zc):x∈Zbd l↔x∈l:=by
 have:=(Zly h (out:=[]) (by intro c hc;simp at hc) List.Pairwise.nil).2 x
 simpa [Zbd] using this
theorem ZjC {l m:List Zc} (h:K3 l) (hs:SS m) (hm:∀ c,c∈m↔c∈l):m=Zbd l:=Zrq hs (ZhK h) fun c=>by rw [hm,ZcJ h]
def Zcn (out:List Zc) (x:Zc):List Zc:=if out.getLast?=some x then out else out++[x]
def ZfK (l:List Zc):List Zc:=l.foldl Zcn []
theorem Zlc:∀ {l out:List Zc},K3 l→K3 out→SS out→l.Pairwise (fun a b=>Zhu a b≤0)→(∀ a∈out,∀ b∈l,Zhu a b≤0)→SS (l.foldl Zcn out)∧∀ x,x∈l.foldl Zcn out↔x∈l∨x∈out
 | [],out,_,_,h,_,_=>⟨h,by simp⟩
 | c::l,out,h1,h2,h,h3,h4=>by
   obtain ⟨h3a,h3b⟩:=List.pairwise_cons.1 h3
   have h1':K3 l:=fun x hx=>h1 x (by simp [hx])
   rw [List.foldl_cons]
   by_cases e:out.getLast?=some c
   ·rw [show Zcn out c=out by rw [Zcn,if_pos e]]
    obtain ⟨g1,g2⟩:=Zlc h1' h2 h h3b fun a ha b hb=>h4 a ha b (by simp [hb])
    refine ⟨g1,fun x=>?_⟩
    have hmem:c∈out:=List.mem_of_getLast? e
    rw [g2,List.mem_cons]
    constructor
    ·rintro (h | h)<;>simp [h]
    ·rintro ((h | h) | h)
     ·subst h;exact .inr hmem
     ·exact .inl h
     ·exact .inr h
   ·rw [show Zcn out c=out++[c] by rw [Zcn,if_neg e]]
    have hlt:∀ a∈out,Zhu a c < 0:=by
     intro a ha
     have h5:=h4 a ha c (by simp)
     rcases Int.lt_or_eq_of_le h5 with h6 | h6
     ·exact h6
     ·have hac:=ZkL (h2 a ha) (h1 c (by simp)) h6
      subst hac
      rcases List.eq_nil_or_concat out with h7 | ⟨i,z,h7⟩
      ·subst h7;simp at ha
      ·rw [List.concat_eq_append] at h7
       subst h7
       rw [List.getLast?_append] at e
       simp only [List.getLast?_singleton,Option.some_or,Option.some.injEq] at e
       have h8:=(List.pairwise_append.1 h).2.2
       rcases List.mem_append.1 ha with ha | ha
       ·have h9:=h8 a ha z (by simp)
        have h10:=h4 z (by simp) a (by simp)
        have:=ZcI.1 a z
        omega
       ·simp only [List.mem_singleton] at ha
        exact absurd ha.symm e
    obtain ⟨g1,g2⟩:=Zlc (out:=out++[c]) h1' (fun x hx=>by
     rcases List.mem_append.1 hx with hx | hx
     ·exact h2 x hx
     ·simp only [List.mem_singleton] at hx;subst hx;exact h1 x (by simp)) (List.pairwise_append.2 ⟨h,List.pairwise_singleton _ _,fun a ha b hb=>by
      simp only [List.mem_singleton] at hb;subst hb;exact hlt a ha⟩) h3b (fun a ha b hb=>by
     rcases List.mem_append.1 ha with ha | ha
     ·exact h4 a ha b (by simp [hb])
     ·simp only [List.mem_singleton] at ha;subst ha;exact h3a b hb)
    refine ⟨g1,fun x=>?_⟩
    rw [g2,List.mem_append,List.mem_singleton,List.mem_cons]
    constructor
    ·rintro (h | h | h)<;>simp [h]
    ·rintro ((h | h) | h)<;>simp [h]
theorem ZsW {l b:List Zc} (hk:K3 l) (hp:l.Perm b) (hs:Ze4 Zhu b):ZfK b=Zbd l:=by
 have hk':K3 b:=fun c hc=>hk c (hp.mem_iff.2 hc)
 obtain ⟨g1,g2⟩:=Zlc (out:=[]) hk' (by intro c hc;simp at hc) List.Pairwise.nil (hs.imp fun {a b} h=>by have:=ZcI.1 a b;omega) (by intro a ha;simp at ha)
 refine ZjC hk g1 fun c=>?_
 have:=g2 c
 rw [hp.mem_iff]
 simpa [ZfK] using this
theorem ZkA (out:List Zc) (x:Zc):(Zcn out x).getLast?=some x:=by
 unfold Zcn
 split
 ·assumption
 ·simp
theorem ZeC {n g:Int} (h:Zfd n):Zfd (n.tdiv g):=by
 have:=ZcD n g
 unfold Zfd at *
 omega
theorem Zrw {n:Int} {g:Nat} (hg:0 < g) (h:Zfd n):Zfd (n / (g:Int)):=by
 unfold Zfd at *
 have h1:=Int.emod_add_mul_ediv n g
 have h2:=Int.emod_nonneg n (show (g:Int)≠0 by omega)
 have h3:=Int.emod_lt_of_pos n (show (0:Int) < g by omega)
 have h4:(1:Int)≤g:=by omega
 generalize n / (g:Int)=q at *
 constructor
 ·apply Int.le_of_not_gt
  intro hq
  have:(g:Int)*q≤1*q:=by
   have:=Int.mul_le_mul_of_nonpos_right h4 (show q≤0 by omega)
   omega
  have h5:(g:Int)*(q+1)≤1*(q+1):=Int.mul_le_mul_of_nonpos_right h4 (show q+1≤0 by omega)
  rw [Int.mul_add] at h5
  omega
 ·apply Int.le_of_not_gt
  intro hq
  have h5:1*q≤(g:Int)*q:=Int.mul_le_mul_of_nonneg_right h4 (show 0≤q by omega)
  omega
theorem ZoI {n m:Int} (h1:1≤m) (h2:m≤2305843009213693952):Zfd (n % m):=by
 have h2:=Int.emod_nonneg n (show m≠0 by omega)
 have h3:=Int.emod_lt_of_pos n (show (0:Int) < m by omega)
 unfold Zfd;omega
theorem ZtP {c:Zc} (h:condB c) (h0:(ZbE c).2=0):condB (ZbE c).1:=by
 obtain ⟨hk,h1,h2,h3⟩:=h
 have hs:∀ b,(ZcK b).2≠0:=fun b=>by cases b<;>simp [ZcK]
 unfold ZbE at h0 ⊢
 rcases hk with hk | hk | ⟨hk,hm1,hm2⟩
 ·simp only [hk,if_true] at h0 ⊢
  unfold geF at h0 ⊢
  by_cases hg:Zbh c.2.2.1=0
  ·rw [if_pos hg] at h0;exact absurd h0 (hs _)
  ·rw [if_neg hg]
   refine ⟨.inl rfl,by simpa using h1,fun n hn=>?_,Zrw (by omega) h3⟩
   obtain ⟨m,hm,rfl⟩:=List.mem_map.1 hn
   exact ZeC (h2 m hm)
 ·simp only [hk,show (1:Int)≠0 by decide,if_true,if_false] at h0 ⊢
  unfold eqF at h0 ⊢
  by_cases hg:Zbh c.2.2.1=0∨c.2.2.2.tmod (Zbh c.2.2.1)≠0
  ·rw [if_pos hg] at h0;exact absurd h0 (hs _)
  ·rw [if_neg hg]
   refine ⟨.inr (.inl rfl),by simpa using h1,fun n hn=>?_,ZeC h3⟩
   obtain ⟨m,hm,rfl⟩:=List.mem_map.1 hn
   exact ZeC (h2 m hm)
 ·simp only [hk,show (2:Int)≠0 by decide,show (2:Int)≠1 by decide,if_false] at h0 ⊢
  unfold ZkN at h0 ⊢
  split at h0
  ·exact absurd h0 (hs _)
  split at h0
  ·exact absurd h0 (hs _)
  rename_i ha hb
  rw [if_neg ha,if_neg hb]
  have hp:0 < Zb7 c:=Zgd hm1 _
  have hle:Zb7 c≤c.2.1.toNat:=Zeo hm1 _
  refine ⟨.inr (.inr ⟨rfl,?_,?_⟩),by simpa using h1,fun n hn=>?_,ZeC (ZoI hm1 hm2)⟩
  ·show 1≤c.2.1.tdiv (Zb7 c)
   rw [Int.tdiv_eq_ediv_of_nonneg (by omega)]
   have:(1:Int)=(Zb7 c:Int) / (Zb7 c:Int):=(Int.ediv_self (by omega)).symm
   rw [this]
   exact Int.ediv_le_ediv (by omega) (by omega)
  ·have:=ZcD c.2.1 (Zb7 c)
   show c.2.1.tdiv (Zb7 c)≤_
   omega
  ·simp only [List.map_map,List.mem_map] at hn
   obtain ⟨m,hm,rfl⟩:=hn
   exact ZeC (ZoI hm1 hm2)
theorem condB.k3 {c:Zc} (h:condB c):Zf3 c.1:=by
 rcases h.1 with h | h | h
 ·exact .inl h
 ·exact .inr (.inl h)
 ·exact .inr (.inr h.1)
def ZfM (out:List Zc) (c:Zc):Option (List Zc):=if (ZbE c).2 < 0 then none else if (ZbE c).2=0 then some (out++[(ZbE c).1]) else some out
def ZbO (p:List Zc):List Zc:=((p.map ZbE).filter fun r=>decide (r.2=0)).map (·.1)
def Za3 (p:List Zc):Bool:=(p.map ZbE).any fun r=>decide (r.2 < 0)
theorem Zem:∀ (p out:List Zc),p.foldlM ZfM out=if Za3 p then none else some (out++ZbO p)
 | [],out=>by simp [Za3,ZbO]
 | c::p,out=>by
   rw [List.foldlM_cons]
   simp only [ZfM,Za3,ZbO,List.map_cons,List.any_cons]
   by_cases h:(ZbE c).2 < 0
   ·simp [h]
   ·have ih:∀ out,p.foldlM ZfM out=if Za3 p then none else some (out++ZbO p):=Zem p
    unfold Za3 ZbO at ih
    by_cases h2:(ZbE c).2=0
    ·simp only [if_neg h,if_pos h2,Option.bind_eq_bind,Option.bind_some,ih,decide_eq_false h,Bool.false_or]
     simp [h2]
    ·simp only [if_neg h,if_neg h2,Option.bind_eq_bind,Option.bind_some,ih,decide_eq_false h,Bool.false_or]
     simp [h2]
theorem ZoR {p:List Zc} (h:Za2 p):Za2 (ZbO p):=by
 refine ⟨?_,fun c hc=>?_⟩
 ·have:=List.length_filter_le (fun r:Zc×Int=>decide (r.2=0)) (p.map ZbE)
  have:=h.1
  simp only [ZbO,List.length_map] at *
  omega
 ·simp only [ZbO,List.mem_map,List.mem_filter] at hc
  obtain ⟨r,⟨⟨d,hd,rfl⟩,hr⟩,rfl⟩:=hc
  exact ZtP (h.2 d hd) (by simpa using hr)
theorem Zls {p:List Zc} (h:Za2 p):ZtK p:=⟨h.1,fun c hc=>⟨(h.2 c hc).2.1,ZcG (h.2 c hc).2⟩⟩
theorem Zts {a b:Int} (h:Zfd a) (h2:Zfd b):Zfd (min a b):=by unfold Zfd at *;omega
theorem ZmX {P:Zc→Prop} (hmin:∀ d c,P d→P c→P (Zhe d c.2.2.2)) {out:List Zc} {c:Zc} (h:∀ d∈out,P d) (hc:P c):∀ d∈Zbk out c,P d:=by
 intro d hd
 unfold Zbk at hd
 have key:d∈out++[c]→P d:=fun hd=>by
  rcases List.mem_append.1 hd with hd | hd
  ·exact h d hd
  ·simp only [List.mem_singleton] at hd;subst hd;exact hc
 split at hd
 ·exact key hd
 ·split at hd
  ·rename_i i hi
   obtain ⟨hi,_⟩:=ZgO hi
   rcases List.mem_or_eq_of_mem_set hd with hd | hd
   ·exact h d hd
   ·subst hd
    exact hmin _ _ (h _ (Zj (d:=Za) hi)) hc
  ·exact key hd
theorem Zhz {P:Zc→Prop} (hmin:∀ d c,P d→P c→P (Zhe d c.2.2.2)) {l:List Zc} (h:∀ d∈l,P d):∀ d∈Zbz l,P d:=by
 have key:∀ (l out:List Zc),(∀ d∈out,P d)→(∀ d∈l,P d)→∀ d∈l.foldl Zbk out,P d:=by
  intro l
  induction l with
  | nil=>exact fun out h _=>h
  | cons c l ih=>exact fun out h h2=>ih _ (ZmX hmin h (h2 c (by simp))) fun d hd=>h2 d (by simp [hd])
 exact key l [] (by simp) h
theorem ZvK {d c:Zc} (hb:condB d) (hc:condB c):condB (Zhe d c.2.2.2):=⟨hb.1,hb.2.1,hb.2.2.1,Zts hb.2.2.2 hc.2.2.2⟩
theorem ZoG {l:List Zc} (h:Za2 l):Za2 (Zbz l):=by
 have:=ZgH l []
 have:=h.1
 exact ⟨by simp only [Zbz];simp at *;omega,Zhz (fun d c=>ZvK) h.2⟩
theorem Zvc {c:Zc} (h:linB c.2.2):condB (ZbE (1,0,c.2.2)).1:=by
 have hb:condB (1,0,c.2.2):=⟨.inr (.inl rfl),h⟩
 by_cases h0:(ZbE (1,0,c.2.2)).2=0
 ·exact ZtP hb h0
 ·have hd:condB Za:=⟨.inl rfl,by simp,by simp,(by unfold Zfd;omega:Zfd 0)⟩
  have:(ZbE (1,0,c.2.2)).1=Za:=by
   simp only [ZbE,show (1:Int)≠0 by decide,if_true,if_false] at h0 ⊢
   unfold eqF at h0 ⊢
   split
   ·simp [ZcK]
   ·rename_i h1
    rw [if_neg h1] at h0
    exact absurd rfl h0
  rw [this];exact hd
theorem ZpK {P:Zc→Prop} (heq:∀ c,c.1=0→P c→P (ZbE (1,0,c.2.2)).1) {l:List Zc} {st st':List Zc×(Int→Option Bool)} {ic:Nat×Zc} (h:Zb0 l st ic=some st') (h1:∀ d∈st.1,P d) (h2:P ic.2):∀ d∈st'.1,P d:=by
 have key:∀ x,P x→∀ d∈st.1++[x],P d:=fun x hx d hd=>by
  rcases List.mem_append.1 hd with hd | hd
  ·exact h1 d hd
  ·simp only [List.mem_singleton] at hd;subst hd;exact hx
 unfold Zb0 at h
 split at h
 ·cases h;exact h1
 ·split at h
  ·cases h;exact key _ h2
  ·rename_i j hj
   have h0:ic.2.1=0:=by
    rcases Decidable.em (ic.2.1=0) with h0 | h0
    ·exact h0
    ·rw [if_pos h0] at hj;cases hj
   split at h
   ·cases h
   ·split at h
    ·cases h;exact key _ (heq _ h0 h2)
    ·cases h;exact key _ h2
theorem ZnA {P:Zc→Prop} (heq:∀ c,c.1=0→P c→P (ZbE (1,0,c.2.2)).1) {l:List Zc}:∀ {m:List (Nat×Zc)} {st st':List Zc×(Int→Option Bool)},m.foldlM (Zb0 l) st=some st'→(∀ d∈st.1,P d)→(∀ ic∈m,P ic.2)→∀ d∈st'.1,P d
 | [],st,st',h,h1,_=>by cases h;exact h1
 | x::m,st,st',h,h1,h2=>by
   simp only [List.foldlM_cons,Option.bind_eq_bind,Option.bind_eq_some_iff] at h
   obtain ⟨s,h3,h4⟩:=h
   exact ZnA heq h4 (ZpK heq h3 h1 (h2 x (by simp))) fun ic hic=>h2 ic (by simp [hic])
theorem ZiK {l:List Zc} {ic:Nat×Zc} (h:ic∈ZcP l):ic.2∈l:=by
 simp only [ZcP,List.mem_map,List.mem_range] at h
 obtain ⟨i,hi,rfl⟩:=h
 exact Zj hi
theorem Zp5 {l out:List Zc} (h:Za2 l) (hp:Zer l=some out):Za2 out:=by
 unfold Zer at hp
 rw [Option.map_eq_some_iff] at hp
 obtain ⟨st,h1,rfl⟩:=hp
 have:=ZhU h1
 rw [Zb1] at this
 have h0:=h.1
 refine ⟨by simp at this;omega,ZnA (P:=condB) (fun c _ hc=>Zvc hc.2) h1 (by simp) fun ic hic=>h.2 _ (ZiK hic)⟩
theorem ZmZ {P:Zc→Prop} (heq:∀ c,c.1=0→P c→P (ZbE (1,0,c.2.2)).1) {l out:List Zc} (h:∀ d∈l,P d) (hp:Zer l=some out):∀ d∈out,P d:=by
 unfold Zer at hp
 rw [Option.map_eq_some_iff] at hp
 obtain ⟨st,h1,rfl⟩:=hp
 exact ZnA heq h1 (by simp) fun ic hic=>h _ (ZiK hic)
theorem Zn2 (C:List Int) (l:List Zc) (c:Zc):eqK C (l++[c])=if c.1=1∧c.2.2.1=C then some c.2.2.2 else eqK C l:=by
 simp only [eqK,List.reverse_append,List.reverse_singleton,List.singleton_append,List.find?_cons]
 by_cases h:c.1=1∧c.2.2.1=C
 ·rw [if_pos h,decide_eq_true h];rfl
 ·rw [if_neg h,decide_eq_false h]
theorem Zss {C:List Int} {l:List Zc} {n:Int} (h:eqK C l=some n):∃ c∈l,c.1=1∧c.2.2.1=C∧c.2.2.2=n:=by
 simp only [eqK,Option.map_eq_some_iff] at h
 obtain ⟨c,hc,rfl⟩:=h
 have h1:=List.mem_of_find?_eq_some hc
 have h2:=List.find?_some hc
 simp only [decide_eq_true_eq] at h2
 exact ⟨c,by simpa using h1,h2.1,h2.2,rfl⟩
theorem ZfY {l:List Zc}:∀ {m out out':List Zc},m.foldlM (Zdz l) out=some out'→out'.length≤out.length+m.length∧∀ d∈out',d∈out∨d∈m
 | [],out,out',h=>by cases h;simp
 | c::m,out,out',h=>by
   simp only [List.foldlM_cons,Option.bind_eq_bind,Option.bind_eq_some_iff] at h
   obtain ⟨s,h3,h4⟩:=h
   obtain ⟨h5,h6⟩:=ZfY h4
   have h7:s=out∨s=out++[c]:=by
    unfold Zdz at h3
    split at h3
    ·cases h3;exact .inr rfl
    ·split at h3
     ·split at h3<;>cases h3;exact .inl rfl
     ·split at h3
      ·split at h3<;>cases h3;exact .inl rfl
      ·cases h3;exact .inr rfl
   rcases h7 with rfl | rfl
   ·refine ⟨by simp only [List.length_cons];omega,fun d hd=>?_⟩
    rcases h6 d hd with h | h
    ·exact .inl h
    ·exact .inr (by simp [h])
   ·refine ⟨by simp only [List.length_cons,List.length_append,List.length_nil] at *;omega,fun d hd=>?_⟩
    rcases h6 d hd with h | h
    ·rcases List.mem_append.1 h with h | h
     ·exact .inl h
     ·simp only [List.mem_singleton] at h;subst h;exact .inr (by simp)
    ·exact .inr (by simp [h])
theorem ZrI {l out:List Zc} (h:Za2 l) (hs:Zb3 l=some out):Za2 out:=by
 unfold Zb3 at hs
 split at hs
 ·cases hs
 ·obtain ⟨h1,h2⟩:=ZfY hs
  have:=h.1
  exact ⟨by simp at h1;omega,fun d hd=>(h2 d hd).elim (by simp) (h.2 d)⟩
theorem Zl1 {P:Zc→Prop} {l out:List Zc} (h:∀ d∈l,P d) (hs:Zb3 l=some out):∀ d∈out,P d:=by
 unfold Zb3 at hs
 split at hs
 ·cases hs
 ·exact fun d hd=>((ZfY hs).2 d hd).elim (by simp) (h d)
theorem ZaH {α:Type} (o:Option α):o=none∨∃ x,o=some x:=by cases o<;>simp
theorem Zca (p:List Zc):Zaw p=if Za3 p then ([],true,(0:Int)) else match (Zer (Zbz (ZbO p))).bind Zb3 with
 | none=>([],true,(0:Int))
 | some out=>if (ZbO p).any (fun c=>!Zi c)||decide (96 < (Zbd out).length) then ([],false,3) else (Zbd out,false,0):=rfl
theorem Zam.fn_eq (l:List Zc):Zam.fn (l,())=(match Zer l with | none=>([],true) | some out=>(out,false)):=rfl
theorem Zkk {b:List Zc} {i:Nat} (h:i < b.length):ZfK (b.take (i+1))=Zcn (ZfK (b.take i)) (b.getD i Za):=by
 rw [ZL Za h,ZfK,List.foldl_append];rfl
theorem Zpk {b:List Zc} {i:Nat} (h:i < b.length):(ZfK (b.take (i+1))).getLast?=some (b.getD i Za):=by
 rw [Zkk h];exact ZkA _ _
theorem Zkg {b:List Zc} {i:Nat} (h:i+1 < b.length):ZfK (b.take (i+2))=if b.getD (i+1) Za=b.getD i Za then ZfK (b.take (i+1)) else ZfK (b.take (i+1))++[b.getD (i+1) Za]:=by
 rw [Zkk h,Zcn,Zpk (by omega)]
 by_cases e:b.getD (i+1) Za=b.getD i Za
 ·rw [if_pos e,if_pos (by rw [e])]
 ·rw [if_neg e,if_neg (fun h=>e (Option.some.inj h).symm)]
theorem Zb.spec (p:List Zc) (hp:Zb.pre (p,())):Zb.wp p (fun r=>r=Zb.fn (p,())):=by
 have hp':Za2 p:=hp
 have hl:=hp'.1
 have hQ:Zb.fn (p,())=Zaw p:=rfl
 simp only [Zb.wp,hQ]
 refine Lp.foldO p Za ZfM [] (by omega) ?_ ?_
 ·intro i out R e e2 hf ht hR1 hR2
  have hb:=hp'.2 _ (Zj (d:=Za) e)
  have hlen:=ZjX (f:=ZfM) (fun t x t' h=>by
   unfold ZfM at h
   split at h
   ·cases h
   ·split at h<;>(cases h;simp)) _ _ _ ht
  simp only [List.length_nil,List.length_take] at hlen
  simp only [decide_eq_true e2,Int.toNat_natCast,cond_true]
  refine ⟨⟨by omega,by omega⟩,hb,?_⟩
  simp only [ZfM] at hR1 hR2
  by_cases h1:(ZbE (p.getD i Za)).2 < 0
  ·simp only [ZaK.fn,decide_eq_true h1,cond_true]
   have:=hR2 (by rw [if_pos h1])
   rw [Zem] at this
   rw [Zca]
   cases hv:Za3 p with
   | true=>rfl
   | false=>rw [hv] at this;cases this
  ·simp only [ZaK.fn,decide_eq_false h1,cond_false]
   rw [if_neg h1] at hR1
   by_cases h2:(ZbE (p.getD i Za)).2=0
   ·rw [if_pos h2] at hR1
    simp only [h2,beq_self_eq_true,cond_true]
    exact ⟨⟨by simp;omega,by simp;omega⟩,hf,hR1 _ rfl⟩
   ·rw [if_neg h2] at hR1
    simp only [beq_eq_false_iff_ne.2 h2,cond_false]
    exact ⟨hf,hR1 _ rfl⟩
 intro raws R hraws
 rw [Zem] at hraws
 have hv:Za3 p=false:=by
  cases h:Za3 p with
  | true=>rw [h] at hraws;cases hraws
  | false=>rfl
 rw [hv] at hraws
 simp only [Bool.false_eq_true,if_false,List.nil_append,Option.some.injEq] at hraws
 subst hraws
 simp only [Int.lt_irrefl,decide_false,cond_false]
 have hrB:=ZoR hp'
 have htd:Zaw p=match (Zer (Zbz (ZbO p))).bind Zb3 with
  | none=>([],true,(0:Int))
  | some out=>if (ZbO p).any (fun c=>!Zi c)||decide (96 < (Zbd out).length) then ([],false,3) else (Zbd out,false,0):=by
  rw [Zca,hv];rfl
 generalize ZbO p=l at *
 generalize hT:Zaw p=T at *
 have hlB:=ZoG hrB
 refine ⟨fun _ _=>trivial,Zls hrB,hlB,?_⟩
 simp only [Zam.fn_eq,ZaM.fn]
 rcases ZaH (Zer (Zbz l)) with hpr | ⟨out,hpr⟩
 ·simp only [hpr,cond_true]
  rw [htd,hpr];rfl
 ·simp only [hpr,cond_false]
  rw [hpr] at htd
  simp only [Option.bind_some] at htd
  have hoB:=Zp5 hlB hpr
  have hol:=hoB.1
  have hin:∀ i,i < out.length→condB (out.getD i Za):=fun i hi=>hoB.2 _ (Zj hi)
  clear hpr hlB hrB hp' hp
  refine Lp.iter out.length (fun i y=>y.1=(i:Int)∧(out.take i).foldlM ZdH []=some (out.take i)∧∀ C,y.2 (ZbV (Zeb C 1))=eqK C (out.take i)) ⟨rfl,rfl,fun C=>rfl⟩ ?_
  rintro i ⟨y,m⟩ hle ⟨hy,hf,hm⟩ R hR
  simp only at hy hm
  subst hy
  by_cases e:i < out.length
  ·have hb:=hin i e
   have hts:=ZL Za e
   have hfs:(out.take (i+1)).foldlM ZdH []=ZdH (out.take i) (out.getD i Za):=by
    rw [hts,List.foldlM_append,hf]
    show (ZdH _ _).bind _=_
    cases ZdH (out.take i) (out.getD i Za)<;>rfl
   have hvoid:ZdH (out.take i) (out.getD i Za)=none→T=([],true,0):=fun h=>by
    have h1:out.foldlM ZdH []=none:=by
     rw [← List.take_append_drop (i+1) out,List.foldlM_append,hfs,h];rfl
    rw [htd,Zb3,h1]
   simp only [decide_eq_true (show (i:Int) < (out.length:Int) by omega),Int.toNat_natCast,cond_true]
   refine ⟨⟨by omega,by omega⟩,?_⟩
   by_cases hk:(out.getD i Za).1=1
   ·simp only [hk,bne_self_eq_false,cond_false,ZaJ.fn]
    have hg:∀ b:Bool,(b=true→b=true∧True):=fun b h=>⟨h,trivial⟩
    refine ⟨⟨hb.2.1,ZcG hb.2,.inl rfl⟩,hg _,hg _,fun h=>⟨h,h,trivial⟩,fun h=>h,?_⟩
    simp only [hm]
    have hstep:ZdH (out.take i) (out.getD i Za)=match eqK (out.getD i Za).2.2.1 (out.take i) with
     | some n=>if n≠(out.getD i Za).2.2.2 then none else some (out.take i++[out.getD i Za])
     | none=>some (out.take i++[out.getD i Za]):=by
     unfold ZdH;exact if_neg fun h=>h hk
    have hnew:∀ C,ZdA m (ZbV (Zeb (out.getD i Za).2.2.1 1)) (out.getD i Za).2.2.2 (ZbV (Zeb C 1))=eqK C (out.take (i+1)):=fun C=>by
     rw [hts,Zn2]
     simp only [ZdA,ZkJ]
     by_cases hC:C=(out.getD i Za).2.2.1
     ·rw [if_pos hC,if_pos ⟨hk,hC.symm⟩]
     ·rw [if_neg hC,if_neg (fun h=>hC h.2.symm)];exact hm C
    cases hq:eqK (out.getD i Za).2.2.1 (out.take i) with
    | none =>
      rw [hq] at hstep
      simp only [Option.isSome_none,Bool.false_and,cond_false]
      refine ⟨⟨by omega,by omega⟩,hR e _ ⟨rfl,?_,hnew⟩⟩
      rw [hfs,hstep,hts]
    | some n =>
      rw [hq] at hstep
      simp only [Option.isSome_some,Option.getD_some,Bool.true_and]
      by_cases hn:n=(out.getD i Za).2.2.2
      ·simp only [hn,bne_self_eq_false,cond_false]
       refine ⟨⟨by omega,by omega⟩,hR e _ ⟨rfl,?_,hnew⟩⟩
       rw [hfs,hts]
       exact hstep.trans (if_neg fun h=>h hn)
      ·simp only [bne_iff_ne.2 hn,cond_true]
       exact (hvoid (hstep.trans (if_pos hn))).symm
   ·simp only [bne_iff_ne.2 hk,cond_true]
    refine ⟨⟨by omega,by omega⟩,hR e _ ⟨rfl,?_,fun C=>?_⟩⟩
    ·rw [hfs,hts];exact if_pos hk
    ·rw [hts,Zn2,if_neg (fun h=>hk h.1)];exact hm C
  have hil:i=out.length:=by omega
  subst hil
  clear hR hle
  simp only [Int.lt_irrefl,decide_false,cond_false]
  rw [List.take_length] at hf hm
  have hst:Zb3 out=out.foldlM (Zdz out) []:=by rw [Zb3,hf]
  rw [hst] at htd
  refine Lp.foldO out Za (Zdz out) [] (by omega) ?_ ?_
  ·intro i o2 R e e2 hf2 ht hR1 hR2
   have hb:=hin i e
   obtain ⟨hlen,_⟩:=ZfY ht
   simp only [List.length_nil,List.length_take] at hlen
   simp only [decide_eq_true e2,Int.toNat_natCast,cond_true]
   refine ⟨⟨by omega,by omega⟩,?_⟩
   have hvoid:Zdz out o2 (out.getD i Za)=none→T=([],true,0):=fun h=>by
    rw [htd,hR2 h]
   clear hR2
   by_cases hk:(out.getD i Za).1=0
   ·simp only [hk,beq_self_eq_true,cond_true,ZaJ.fn]
    refine ⟨⟨hb.2.1,ZcG hb.2,.inl rfl⟩,?_⟩
    simp only [ZoP.2 (rfl:Zb5 (out.getD i Za).2.2.1=_),hm]
    have hstep:Zdz out o2 (out.getD i Za)=match eqK (out.getD i Za).2.2.1 out with
     | some n=>if (out.getD i Za).2.2.2 < n then none else some o2
     | none=>match eqK (Zb5 (out.getD i Za).2.2.1) out with
       | some n=>if (out.getD i Za).2.2.2+n < 0 then none else some o2
       | none=>some (o2++[out.getD i Za]):=by
     unfold Zdz;exact if_neg fun h=>h hk
    cases hq:eqK (out.getD i Za).2.2.1 out with
    | some n =>
      rw [hq] at hstep
      simp only [Option.isSome_some,Option.getD_some,cond_true] at hstep ⊢
      by_cases hn:(out.getD i Za).2.2.2 < n
      ·simp only [decide_eq_true hn,cond_true]
       exact (hvoid (by rw [hstep,if_pos hn])).symm
      ·simp only [decide_eq_false hn,cond_false]
       exact ⟨hf2,hR1 _ (by rw [hstep,if_neg hn])⟩
    | none =>
      rw [hq] at hstep
      simp only [Option.isSome_none,cond_false] at hstep ⊢
      refine ⟨⟨hb.2.1,ZcG hb.2,.inr rfl⟩,?_⟩
      cases hq2:eqK (Zb5 (out.getD i Za).2.2.1) out with
      | some n =>
        rw [hq2] at hstep
        obtain ⟨d,hd,_,_,hd3⟩:=Zss hq2
        have q1:=(hoB.2 d hd).2.2.2
        have q2:=hb.2.2.2
        rw [hd3] at q1
        unfold Zfd at q1 q2
        simp only [Option.isSome_some,Option.getD_some,cond_true] at hstep ⊢
        refine ⟨⟨by omega,by omega⟩,?_⟩
        by_cases hn:(out.getD i Za).2.2.2+n < 0
        ·simp only [decide_eq_true hn,cond_true]
         exact (hvoid (by rw [hstep,if_pos hn])).symm
        ·simp only [decide_eq_false hn,cond_false]
         exact ⟨hf2,hR1 _ (by rw [hstep,if_neg hn])⟩
      | none =>
        rw [hq2] at hstep
        simp only [Option.isSome_none,cond_false] at hstep ⊢
        exact ⟨⟨by simp;omega,by simp;omega⟩,hf2,hR1 _ hstep⟩
   ·simp only [beq_eq_false_iff_ne.2 hk,cond_false]
    exact ⟨⟨by simp;omega,by simp;omega⟩,hf2,hR1 _ (if_pos hk)⟩
  intro res R hres
  simp only [Int.lt_irrefl,decide_false,cond_false]
  rw [hres] at htd
  simp only at htd
  obtain ⟨hrl,hrm⟩:=ZfY hres
  simp only [List.length_nil,Nat.zero_add] at hrl
  have hk3:K3 res:=fun d hd=>((hrm d hd).elim (by simp) fun h=>(hoB.2 d h).k3)
  clear hres hst hm hf hin hrm
  refine ⟨⟨by omega,fun a ha b hb=>⟨hk3 a ha,hk3 b hb⟩⟩,fun b8 hb8=>?_⟩
  obtain ⟨hperm,hsort⟩:=hb8
  have hcf:=ZsW hk3 hperm hsort
  have hbl:b8.length≤1048576:=by have:=hperm.length_eq;omega
  have hb3:∀ i,i < b8.length→Zf3 (b8.getD i Za).1:=fun i hi=>hk3 _ (hperm.mem_iff.2 (Zj hi))
  rw [← hcf] at htd
  clear hcf hperm hsort hrl hk3
  have hfin:∀ (b:Bool) (r:List Zc),b=(l.any fun c=>!Zi c)→r=ZfK b8→(cond (b||decide ((96:Int) < (r.length:Int))) ((([]:List Zc),false,(3:Int))=T) ((r,false,(0:Int))=T)):=by
   rintro b r rfl rfl
   rw [htd]
   have e:decide ((96:Int) < ((ZfK b8).length:Int))=decide (96 < (ZfK b8).length):=decide_eq_decide.2 (by omega)
   rw [e]
   cases h:((l.any fun c=>!Zi c)||decide (96 < (ZfK b8).length))<;>rfl
  have hg:∀ b:Bool,(b=true→b=true∧True):=fun b h=>⟨h,trivial⟩
  have hg2:∀ b:Bool,(b=false→(!b)=true):=fun b h=>by rw [h];rfl
  by_cases hs:b8.length < 2
  ·simp only [decide_eq_true (show ((b8.length:Nat):Int) < 2 by omega),cond_true]
   refine ⟨hg _,hg _,hg2 _,hfin _ _ rfl ?_⟩
   match b8,hs with
   | [],_=>rfl
   | [x],_=>rfl
  simp only [decide_eq_false (show ¬ ((b8.length:Nat):Int) < 2 by omega),cond_false]
  refine Lp.iter (b8.length - 1) (fun i y=>y=(i:Int)+1∧ZfK (b8.take (i+1))=b8.take (i+1)) ⟨rfl,?_⟩ ?_
  ·match b8,hs with
   | x::b,_=>rfl
   | [],h=>exact absurd (by simp) h
  rintro i y hle ⟨rfl,hc⟩ R hR
  by_cases e:i+1 < b8.length
  ·have t1:((i:Int)+1).toNat=i+1:=by omega
   have t2:((i:Int)+1 - 1).toNat=i:=by omega
   simp only [decide_eq_true (show (i:Int)+1 < (b8.length:Int) by omega),cond_true,t1,t2]
   have k1:=hb3 (i+1) e
   have k2:=hb3 i (by omega)
   have hcs:=Zkg e
   refine ⟨⟨by omega,by omega⟩,by omega,⟨by omega,by omega⟩,⟨by omega,by omega⟩,by omega,⟨k1,k2⟩,?_⟩
   by_cases heq:b8.getD (i+1) Za=b8.getD i Za
   ·have:(Zhu (b8.getD (i+1) Za) (b8.getD i Za) == 0)=true:=by rw [heq,Zf8];rfl
    simp only [Zai.fn,this,cond_true]
    rw [if_pos heq] at hcs
    refine ⟨⟨by omega,by omega⟩,?_⟩
    clear hR
    refine Lp.iter (b8.length - (i+1) - 1) (fun k y=>y.1=(k:Int)+1∧∃ n:Nat,y.2.1=(n:Int)∧n≤i+1+k∧y.2.2.length=b8.length∧ZfK (b8.take (i+1+k+1))=y.2.2.take n∧∀ j,i+1+k≤j→y.2.2.getD j Za=b8.getD j Za) ⟨rfl,i+1,rfl,by omega,rfl,by rw [← hc,← hcs],fun j _=>rfl⟩ ?_
    rintro k ⟨y1,y2,a⟩ hle2 ⟨hy1,n,hy2,hn,hal,hca,hget⟩ R2 hR2
    simp only at hy1 hy2 hal hca hget
    subst hy1 hy2
    by_cases e2:i+1+k+1 < b8.length
    ·have t3:((k:Int)+1).toNat=k+1:=by omega
     have t4:((k:Int)+1 - 1).toNat=k:=by omega
     simp only [decide_eq_true (show (k:Int)+1 < ((b8.length - (i+1):Nat):Int) by omega),cond_true,t3,t4,Int.toNat_natCast,Nat.zero_add]
     have g1:a.getD (i+1+(k+1)) Za=b8.getD (i+1+k+1) Za:=hget _ (by omega)
     have g2:a.getD (i+1+k) Za=b8.getD (i+1+k) Za:=hget _ (by omega)
     simp only [g1,g2]
     have k3:=hb3 (i+1+k+1) e2
     have k4:=hb3 (i+1+k) (by omega)
     have hcs2:=Zkg e2
     refine ⟨⟨by omega,by omega,by omega⟩,by omega,⟨by omega,by omega⟩,⟨by omega,by omega,by omega⟩,by omega,⟨k3,k4⟩,?_⟩
     by_cases heq2:b8.getD (i+1+k+1) Za=b8.getD (i+1+k) Za
     ·have:(Zhu (b8.getD (i+1+k+1) Za) (b8.getD (i+1+k) Za) == 0)=true:=by rw [heq2,Zf8];rfl
      simp only [Zai.fn,this,Bool.not_true,cond_false]
      rw [if_pos heq2] at hcs2
      refine ⟨⟨by omega,by omega⟩,hR2 (by omega) _ ⟨by simp,n,rfl,by omega,hal,?_,fun j hj=>hget j (by omega)⟩⟩
      rw [show i+1+(k+1)+1=i+1+k+2 by omega,hcs2,hca]
     ·have:(Zhu (b8.getD (i+1+k+1) Za) (b8.getD (i+1+k) Za) == 0)=false:=beq_eq_false_iff_ne.2 fun h=>heq2 (ZkL k3 k4 h)
      simp only [Zai.fn,this,Bool.not_false,cond_true]
      rw [if_neg heq2] at hcs2
      refine ⟨⟨by omega,by omega,by omega⟩,by omega,⟨by omega,by omega⟩,by omega,⟨by omega,by omega⟩,⟨by omega,by omega⟩,hR2 (by omega) _ ⟨by simp,n+1,by simp,by omega,by simp [hal],?_,fun j hj=>?_⟩⟩
      ·rw [show i+1+(k+1)+1=i+1+k+2 by omega,hcs2,hca]
       simp only
       rw [List.take_set,List.take_add_one,List.set_append_right _ _ (by simp;omega)]
       have hnn:n - (a.take n).length=0:=by simp;omega
       rw [hnn,List.getElem?_eq_getElem (show n < a.length by omega)]
       rfl
      ·simp only
       rw [List.getD_eq_getElem?_getD,List.getElem?_set_ne (by omega),← List.getD_eq_getElem?_getD]
       exact hget j (by omega)
    ·have hk:i+1+k+1=b8.length:=by omega
     simp only [decide_eq_false (show ¬ (k:Int)+1 < ((b8.length - (i+1):Nat):Int) by omega),cond_false,Int.toNat_natCast,Nat.zero_add]
     rw [hk,List.take_length] at hca
     have hdr:List.drop (n+(a.length - n)) a=[]:=List.drop_eq_nil_of_le (by omega)
     simp only [hdr,List.append_nil,List.drop_zero]
     have htk:List.take n (a.take n++List.replicate (a.length - n) Za)=a.take n:=by
      rw [List.take_append_of_le_length (by simp;omega),List.take_take,Nat.min_self]
     have hln:(a.take n++List.replicate (a.length - n) Za).length=a.length:=by simp;omega
     simp only [htk,hln]
     exact ⟨⟨by omega,by omega⟩,by omega,⟨by omega,by omega⟩,by omega,hg _,hg _,hg2 _,hfin _ _ rfl hca.symm⟩
   ·have:(Zhu (b8.getD (i+1) Za) (b8.getD i Za) == 0)=false:=beq_eq_false_iff_ne.2 fun h=>heq (ZkL k1 k2 h)
    simp only [Zai.fn,this,cond_false]
    rw [if_neg heq] at hcs
    refine ⟨⟨by omega,by omega⟩,hR (by omega) _ ⟨by omega,?_⟩⟩
    rw [hcs,hc,ZL Za e]
  ·have hi:i+1=b8.length:=by omega
   simp only [decide_eq_false (show ¬ (i:Int)+1 < (b8.length:Int) by omega),cond_false]
   rw [hi,List.take_length] at hc
   exact ⟨hg _,hg _,hg2 _,hfin _ _ rfl hc.symm⟩
def Zax (out:List (List Zc)) (p:List Zc):Option (List (List Zc)) :=
 if (Zaw p).2.2≠0 then none else if (Zaw p).2.1=true∨(Zaw p).1∈out then some out else if 400 < out.length+1 then none else some (out++[(Zaw p).1])
def ZfQ (l:List (List Zc)):Option (List (List Zc)):=l.foldlM Zax []
def Zg1 (n:Int) (o:Option (List (List Zc))):ZcB×Int:=match o with
 | none=>((0,[]),3)
 | some out=>((n,out),0)
def ZaX (x:ZcB):ZcB×Int:=if Zz x=false then ((0,[]),1) else Zg1 x.1 (ZfQ x.2)
abbrev Zab.fn (x:ZcB×Unit):ZcB×Int:=ZaX x.1
def Zhf (p:List Zc):Prop:=p.length≤4096∧∀ c∈p,Zi c=true
def ZfP:List Int→List Int→Int
 | x::a,y::b=>x*y+ZfP a b
 | _,_=>0
def Zf6 (c:Zc) (v:Int):Bool:=if c.1=0 then decide (0≤v) else if c.1=1 then v == 0 else v.tmod c.2.1 == 0
def Zab.wp (x0:Int×(List (List Zc))) (Q:(Int×(List (List Zc)))×Int→Prop):Prop:=cond (!(ZaS.fn (x0,()))) (Q (((0:Int),([]:List (List (Zc)))),(1:Int))) (Lp (σ:=Int×(List (List (Zc)))×(ByteArray→Option Bool)) (fun y2 R2=>let v0:=List.getD x0.2 (Int.toNat y2.1) ([]:List (Zc));let v1:=Zp.fn ((Zb.fn (v0,())).1,());let v3:=[(Zb.fn (v0,())).1];cond (decide (y2.1 < ((List.length x0.2:Nat):Int))) (((0:Int)≤y2.1∧y2.1 < ((List.length x0.2:Nat):Int))∧(Zb.pre (v0,())∧cond (((Zb.fn (v0,())).2).2 != (0:Int)) (cond (((Zb.fn (v0,())).2).2 != (0:Int)) (Q (((0:Int),([]:List (List (Zc)))),((Zb.fn (v0,())).2).2)) (Q ((x0.1,([]:List (List (Zc)))),(0:Int)))) (((!(((Zb.fn (v0,())).2).1))=true→((!(((Zb.fn (v0,())).2).1))=true∧Zp.pre ((Zb.fn (v0,())).1,())))∧(((!(((Zb.fn (v0,())).2).1))=true→((!(((Zb.fn (v0,())).2).1))=true∧((!(((Zb.fn (v0,())).2).1))=true∧True)))∧((((Zb.fn (v0,())).2).1=false→(!(((Zb.fn (v0,())).2).1))=true)∧cond (((Zb.fn (v0,())).2).1||(Option.getD (y2.2.2 v1) false)) (Zr IntKind.i64 (y2.1+(1:Int))∧R2 ((y2.1+(1:Int)),y2.2)) (Zp.pre ((Zb.fn (v0,())).1,())∧((((List.length y2.2.1+List.length v3)*24)≤140737488355328∧(List.length y2.2.1+List.length v3)≤9223372036854775807)∧cond (decide ((400:Int) < (((List.length (y2.2.1++v3)):Nat):Int))) (Q (((0:Int),([]:List (List (Zc)))),(3:Int))) (Zr IntKind.i64 (y2.1+(1:Int))∧R2 ((y2.1+(1:Int)),((y2.2.1++v3),ZdA y2.2.2 v1 true)))))))))) (Q ((x0.1,y2.2.1),(0:Int)))) ((0:Int),(([]:List (List (Zc))),fun (a2:ByteArray)=>(none:Option Bool))))
theorem Zq8 {P:Zc→Prop} (hmin:∀ d c,P d→P c→P (Zhe d c.2.2.2)) (heq:∀ c,c.1=0→P c→P (ZbE (1,0,c.2.2)).1) {p:List Zc} (hb:Za2 p) (h:∀ d∈ZbO p,P d):∀ d∈(Zaw p).1,P d:=by
 rw [Zca]
 split
 ·simp
 ·rcases ZaH ((Zer (Zbz (ZbO p))).bind Zb3) with ho | ⟨out,ho⟩
  ·rw [ho];simp
  ·rw [ho]
   simp only
   split
   ·simp
   ·obtain ⟨o1,h1,h2⟩:=Option.bind_eq_some_iff.1 ho
    have k3:K3 out:=by
     have:=ZrI (Zp5 (ZoG (ZoR hb)) h1) h2
     exact fun c hc=>(this.2 c hc).k3
    intro d hd
    rw [ZcJ k3] at hd
    exact Zl1 (ZmZ heq (Zhz hmin h) h1) h2 d hd
theorem Zmi (p:List Zc):(Zaw p).2.2=0∨((Zaw p).2.2=3∧(Zaw p).2.1=false):=by
 rw [Zca]
 split
 ·exact .inl rfl
 ·split
  ·exact .inl rfl
  ·split
   ·exact .inr ⟨rfl,rfl⟩
   ·exact .inl rfl
theorem Ziz (p:List Zc):(Zaw p).1.length≤96:=by
 rw [Zca]
 split
 ·simp
 ·split
  ·simp
  ·split
   ·simp
   ·rename_i h
    simp only [Bool.or_eq_true,decide_eq_true_eq,not_or] at h
    simp only;omega
theorem ZpZ {n:Int}:Fit n=true↔-1048576≤n∧n≤1048576:=by simp [Fit]
theorem Zm6 {k m K K':Int} {C:List Int} (h:Zi (k,m,C,K)=true) (hK:Fit K'=true):Zi (k,m,C,K')=true:=by
 have key:ZaL (C,K)=true→ZaL (C,K')=true:=by
  intro h
  simp only [ZaL,Bool.and_eq_true] at h ⊢
  exact ⟨h.1,h.2.1,hK⟩
 simp only [Zi] at *
 split at h
 ·rename_i h0;rw [if_pos h0];simp only [Bool.and_eq_true] at h ⊢;exact ⟨h.1,key h.2⟩
 ·rename_i h0
  rw [if_neg h0]
  split at h
  ·rename_i h1;rw [if_pos h1];simp only [Bool.and_eq_true] at h ⊢;exact ⟨h.1,key h.2⟩
  ·cases h
theorem ZpU {d c:Zc} (hd:Zi d=true) (hc:Zi c=true):Zi (Zhe d c.2.2.2)=true:=by
 have h1:=(ZaL.b (Zi.lin hc)).2.2
 have h2:=(ZaL.b (Zi.lin hd)).2.2
 exact Zm6 hd (ZpZ.2 (by omega))
theorem Zm4:Zi Za=true:=by decide
theorem Znn {C:List Int} {K:Int} (h1:C.length≤12) (h2:∀ n∈C,Fit n=true) (h3:Fit K=true):ZaL (C,K)=true:=by
 simp only [ZaL,Bool.and_eq_true,List.all_eq_true,decide_eq_true_eq]
 exact ⟨h2,by omega,h3⟩
theorem Zsu {C:List Int} {K:Int} (h:ZaL (C,K)=true):Zi (1,0,C,K)=true:=by simp [Zi,h]
theorem Zry {c:Zc} (h:ZaL c.2.2=true):Zi (ZbE (1,0,c.2.2)).1=true:=by
 simp only [ZbE,show (1:Int)≠0 by decide,if_true,if_false]
 unfold eqF
 split
 ·unfold ZcK;exact Zm4
 ·obtain ⟨h1,h2,h3⟩:=ZaL.b h
  have key:∀ n g:Int,(-1048576≤n∧n≤1048576)→Fit (n.tdiv g)=true:=fun n g hn=>by
   have:=ZcD n g
   rw [ZpZ];omega
  refine Zsu (Znn (by simpa using h1) (fun n hn=>?_) (key _ _ h3))
  obtain ⟨m,hm,rfl⟩:=List.mem_map.1 hn
  exact key _ _ (h2 m hm)
theorem Zq2 {p:List Zc} (h:(ZbO p).any (fun c=>!Zi c)=true):(Zaw p).1=[]:=by
 rw [Zca]
 split
 ·rfl
 ·rcases ZaH ((Zer (Zbz (ZbO p))).bind Zb3) with ho | ⟨out,ho⟩
  ·rw [ho]
  ·rw [ho]
   simp only [h,Bool.true_or,if_true]
theorem Zi9 {p:List Zc} (hb:Za2 p):∀ d∈(Zaw p).1,Zi d=true:=by
 by_cases h:(ZbO p).any (fun c=>!Zi c)=true
 ·rw [Zq2 h];simp
 ·refine Zq8 (P:=fun d=>Zi d=true) (fun d c=>ZpU) (fun c _ hc=>Zry (Zi.lin hc)) hb fun d hd=>?_
  cases hc:Zi d with
  | true=>rfl
  | false=>exact absurd (List.any_eq_true.2 ⟨d,hd,by rw [hc];rfl⟩) h
theorem Zom {p:List Zc} (hb:Za2 p):Zhf (Zaw p).1:=⟨by have:=Ziz p;omega,Zi9 hb⟩
theorem Zhf.B {p:List Zc} (h:Zhf p):Za2 p:=⟨by have:=h.1;omega,fun c hc=>Zi.condB (h.2 c hc)⟩
theorem Zhf.name {p:List Zc} (h:Zhf p):nameOk p:=by
 refine ⟨by have:=h.1;omega,fun c hc=>?_⟩
 have hv:=h.2 c hc
 obtain ⟨h1,h2,h3⟩:=ZaL.b (Zi.lin hv)
 refine ⟨by omega,fun n hn=>by have:=h2 n hn;omega,fun n hn=>?_⟩
 have hk:=Zi.kind hv
 simp only [List.mem_cons,List.not_mem_nil,or_false] at hn
 rcases hn with rfl | rfl | rfl
 ·omega
 ·omega
 ·omega
theorem Zdc {α τ:Type} {f:τ→α→Option τ} {l:List α} {d:α} {i:Nat} {a t:τ} (h:(l.take i).foldlM f a=some t) (hi:i < l.length):(l.take (i+1)).foldlM f a=f t (l.getD i d):=by
 rw [ZL d hi,List.foldlM_append,h]
 show (f _ _).bind _=_
 cases f t (l.getD i d)<;>rfl
theorem Zh2 {α τ:Type} {f:τ→α→Option τ} {l:List α} {d:α} {i:Nat} {a t:τ} (h:(l.take i).foldlM f a=some t) (hi:i < l.length) (hn:f t (l.getD i d)=none):l.foldlM f a=none:=by
 rw [← List.take_append_drop (i+1) l,List.foldlM_append,Zdc (d:=d) h hi,hn]
 rfl
def Zff (out:List (List Zc)) (m:ByteArray→Option Bool):Prop:=∀ q,m (ZbV (Zco q))=if q∈out then some true else none
theorem Zff.nil:Zff [] fun _=>none:=fun q=>by simp
theorem Zff.put {out:List (List Zc)} {m:ByteArray→Option Bool} (h:Zff out m) (p:List Zc):Zff (out++[p]) (ZdA m (ZbV (Zco p)) true):=by
 intro q
 simp only [ZdA,Zob,List.mem_append,List.mem_singleton]
 by_cases e:q=p
 ·rw [if_pos e,if_pos (.inr e)]
 ·rw [if_neg e,h q]
  by_cases e2:q∈out
  ·rw [if_pos e2,if_pos (.inl e2)]
  ·rw [if_neg e2,if_neg (fun h=>h.elim e2 e)]
theorem ZeO {p : List Zc} {out : List (List Zc)} {m : ByteArray → Option Bool} {EA K1 EB K2 : Prop} (hp : Za2 p) (hk : Zff out m) (hl : out.length ≤ 400)
 (hA:(Zaw p).2.2=3→Zax out p=none→EA) (h1:Zax out p=some out→K1) (hB:Zax out p=none→EB) (h2:Zax out p=some (out++[(Zaw p).1])→K2) :
 (Zb.pre (p,())∧cond (((Zb.fn (p,())).2).2 != (0:Int)) EA (((!(((Zb.fn (p,())).2).1))=true→((!(((Zb.fn (p,())).2).1))=true∧Zp.pre ((Zb.fn (p,())).1,())))∧(((!(((Zb.fn (p,())).2).1))=true→((!(((Zb.fn (p,())).2).1))=true∧((!(((Zb.fn (p,())).2).1))=true∧True)))∧((((Zb.fn (p,())).2).1=false→(!(((Zb.fn (p,())).2).1))=true)∧cond (((Zb.fn (p,())).2).1||(Option.getD (m (Zp.fn ((Zb.fn (p,())).1,()))) false)) K1 (Zp.pre ((Zb.fn (p,())).1,())∧((((List.length out+List.length [(Zb.fn (p,())).1])*24)≤140737488355328∧(List.length out+List.length [(Zb.fn (p,())).1])≤9223372036854775807)∧cond (decide ((400:Int) < (((List.length (out++[(Zb.fn (p,())).1])):Nat):Int))) EB K2)))))):=by
 have hn:Zp.pre ((Zaw p).1,()):=(Zom hp).name
 refine ⟨hp,?_⟩
 simp only [Zb.fn,Zp.fn]
 by_cases he:(Zaw p).2.2=0
 ·simp only [he,bne_self_eq_false,cond_false]
  have hs:Zax out p=if (Zaw p).2.1=true∨(Zaw p).1∈out then some out else if 400 < out.length+1 then none else some (out++[(Zaw p).1]):=by
   unfold Zax;exact if_neg (fun h=>h he)
  refine ⟨fun h=>⟨h,hn⟩,fun h=>⟨h,h,trivial⟩,fun h=>by rw [h];rfl,?_⟩
  have hb:((Zaw p).2.1||(m (ZbV (Zco (Zaw p).1))).getD false)=decide ((Zaw p).2.1=true∨(Zaw p).1∈out):=by
   rw [hk]
   by_cases e:(Zaw p).1∈out
   ·rw [if_pos e];simp [e]
   ·rw [if_neg e];simp [e]
  rw [hb]
  by_cases e:(Zaw p).2.1=true∨(Zaw p).1∈out
  ·rw [decide_eq_true e]
   exact h1 (hs.trans (if_pos e))
  ·rw [decide_eq_false e]
   rw [if_neg e] at hs
   refine ⟨hn,⟨by simp;omega,by simp;omega⟩,?_⟩
   by_cases e2:400 < out.length+1
   ·rw [decide_eq_true (show (400:Int) < ((out++[(Zaw p).1]).length:Int) by simp;omega)]
    exact hB (hs.trans (if_pos e2))
   ·rw [decide_eq_false (show ¬ (400:Int) < ((out++[(Zaw p).1]).length:Int) by simp;omega)]
    exact h2 (hs.trans (if_neg e2))
 ·rw [bne_iff_ne.2 he]
  exact hA (((Zmi p).resolve_left he).1) (if_pos he)
theorem Zim {out out':List (List Zc)} {p:List Zc} (h:Zax out p=some out') (hl:out.length≤400):out'.length≤400:=by
 unfold Zax at h
 split at h
 ·cases h
 ·split at h
  ·cases h;exact hl
  ·split at h
   ·cases h
   ·cases h;simp;omega
theorem ZoA:∀ {l:List (List Zc)} {out out':List (List Zc)},l.foldlM Zax out=some out'→out.length≤400→out'.length≤400
 | [],out,out',h,hl=>by cases h;exact hl
 | p::l,out,out',h,hl=>by
   simp only [List.foldlM_cons,Option.bind_eq_bind,Option.bind_eq_some_iff] at h
   obtain ⟨s,h1,h2⟩:=h
   exact ZoA h2 (Zim h1 hl)
theorem Lp.tid {body : Int × List (List Zc) × (ByteArray → Option Bool) → (Int × List (List Zc) × (ByteArray → Option Bool) → Prop) → Prop} (l a : List (List Zc)) (m0 : ByteArray → Option Bool) (ha : Zff a m0) (hal : a.length ≤ 400) (hl : l.length ≤ 1048576 * 4)
 (h:∀ (i:Nat) out m R,i < l.length→(i:Int) < (l.length:Int)→Zr .i64 ((i:Int)+1)→Zff out m→out.length≤400→(Zax out (l.getD i [])=some out→R ((i:Int)+1,out,m)) →
  (Zax out (l.getD i [])=some (out++[(Zaw (l.getD i [])).1])→R ((i:Int)+1,out++[(Zaw (l.getD i [])).1],ZdA m (ZbV (Zco (Zaw (l.getD i [])).1)) true)) →
  (Zax out (l.getD i [])=none→l.foldlM Zax a=none)→body ((i:Int),out,m) R)
 (h2:∀ out m R,l.foldlM Zax a=some out→Zff out m→out.length≤400→body ((l.length:Int),out,m) R):Lp body (0,a,m0):=by
 refine Lp.iter l.length (fun i y=>y.1=(i:Int)∧(l.take i).foldlM Zax a=some y.2.1∧Zff y.2.1 y.2.2) ⟨rfl,rfl,ha⟩ ?_
 rintro i ⟨y,out,m⟩ hle ⟨hy,ht,hm⟩ R hR
 simp only at hy ht hm
 subst hy
 have hlen:=ZoA ht hal
 by_cases e:i < l.length
 ·refine h i out m R e (by omega) ⟨by omega,by omega⟩ hm hlen (fun hs=>hR e _ ⟨rfl,?_,hm⟩) (fun hs=>hR e _ ⟨rfl,?_,hm.put _⟩) (fun hn=>Zh2 ht e hn)
  ·rw [Zdc (d:=[]) ht e,hs]
  ·rw [Zdc (d:=[]) ht e,hs]
 ·have:i=l.length:=by omega
  subst this
  rw [List.take_length] at ht
  exact h2 out m R ht hm hlen
theorem Zz.b {s:ZcB} (h:Zz s=true):0≤s.1∧s.1≤12∧s.2.length≤400∧∀ p∈s.2,p.length≤96∧(∀ c∈p,Zi c=true∧(c.2.2.1.length:Int)=s.1):=by
 simp only [Zz,Bool.and_eq_true,decide_eq_true_eq,List.all_eq_true,Zkw,beq_iff_eq] at h
 obtain ⟨⟨⟨h1,h2⟩,h3⟩,h4⟩:=h
 refine ⟨h1,h2,by omega,fun p hp=>?_⟩
 obtain ⟨h5,h6⟩:=h4 p hp
 exact ⟨by omega,h6⟩
theorem Zz.piece {s:ZcB} (h:Zz s=true) {p:List Zc} (hp:p∈s.2):p.length≤96∧∀ c∈p,Zi c=true:=by
 obtain ⟨h1,h2⟩:=(Zz.b h).2.2.2 p hp
 exact ⟨h1,fun c hc=>(h2 c hc).1⟩
theorem Zz.B {s:ZcB} (h:Zz s=true) {p:List Zc} (hp:p∈s.2):Za2 p:=by
 obtain ⟨h1,h2⟩:=Zz.piece h hp
 exact ⟨by omega,fun c hc=>Zi.condB (h2 c hc)⟩
theorem Zab.spec (x:ZcB):Zab.wp x (fun r=>r=Zab.fn (x,())):=by
 have hfn:Zab.fn (x,())=ZaX x:=rfl
 simp only [Zab.wp,ZaS.fn,hfn]
 cases hv:Zz x with
 | false=>simp [ZaX,hv]
 | true =>
   have hn:ZaX x=Zg1 x.1 (x.2.foldlM Zax []):=by simp [ZaX,hv,ZfQ]
   simp only [Bool.not_true,cond_false,hn]
   refine Lp.tid x.2 [] _ Zff.nil (by simp) (by have:=(Zz.b hv).2.2.1;omega) ?_ ?_
   ·intro i out m R e e2 hf hk hl h1 h2 h3
    simp only [decide_eq_true e2,Int.toNat_natCast,cond_true]
    refine ⟨⟨by omega,by omega⟩,ZeO (Zz.B hv (Zj e)) hk hl (fun h4 hn=>?_) (fun hs=>⟨hf,h1 hs⟩) (fun hn=>?_) (fun hs=>⟨hf,h2 hs⟩)⟩
    ·simp only [Zb.fn,h4,show ((3:Int) != 0)=true from rfl,cond_true]
     rw [h3 hn];rfl
    ·rw [h3 hn];rfl
   ·intro out m R ht hk hl
    simp only [Int.lt_irrefl,decide_false,cond_false]
    rw [ht];rfl
theorem ZpO {n i:Nat} (h:i < n):(List.range n).getD i 0=i:=by
 rw [ZX (by simpa using h)];simp
def PP (l:List (List Zc)):Prop:=l.length≤400∧∀ p∈l,p.length≤96∧∀ c∈p,Zi c=true
theorem PP.v {l:List (List Zc)} (h:PP l) {p:List Zc} (hp:p∈l):Zhf p:=⟨by have:=(h.2 p hp).1;omega,(h.2 p hp).2⟩
theorem PP.nil:PP []:=⟨by simp,by simp⟩
theorem ZpB {out out':List (List Zc)} {p:List Zc} (h:Zax out p=some out') (hl:PP out) (hp:Za2 p):PP out':=by
 refine ⟨Zim h hl.1,?_⟩
 unfold Zax at h
 split at h
 ·cases h
 ·split at h
  ·cases h;exact hl.2
  ·split at h
   ·cases h
   ·cases h
    intro q hq
    rcases List.mem_append.1 hq with hq | hq
    ·exact hl.2 q hq
    ·simp only [List.mem_singleton] at hq;subst hq
     exact ⟨Ziz p,Zi9 hp⟩
theorem ZmU:∀ {l:List (List Zc)} {out out':List (List Zc)},l.foldlM Zax out=some out'→PP out→(∀ p∈l,Za2 p)→PP out'
 | [],out,out',h,hl,_=>by cases h;exact hl
 | p::l,out,out',h,hl,hb=>by
   simp only [List.foldlM_cons,Option.bind_eq_bind,Option.bind_eq_some_iff] at h
   obtain ⟨s,h1,h2⟩:=h
   exact ZmU h2 (ZpB h1 hl (hb p (by simp))) fun q hq=>hb q (by simp [hq])
theorem ZsE {x:ZcB} (h:(ZaX x).2=0):PP (ZaX x).1.2∧(ZaX x).1.1=x.1:=by
 unfold ZaX at h ⊢
 split at h
 ·cases h
 ·rename_i hv
  rw [if_neg hv]
  rw [Bool.not_eq_false] at hv
  unfold Zg1 at h ⊢
  rcases ZaH (ZfQ x.2) with ho | ⟨out,ho⟩
  ·rw [ho] at h;cases h
  ·rw [ho]
   exact ⟨ZmU ho PP.nil fun p hp=>Zz.B hv hp,rfl⟩
theorem Zc5 {n m x y:Int} (hn:0≤n) (hm:0≤m) (h1:-n≤x) (h2:x≤n) (h3:-m≤y) (h4:y≤m):-(n*m)≤x*y∧x*y≤n*m:=by
 have h:(x*y).natAbs≤n.natAbs*m.natAbs:=by rw [Int.natAbs_mul];exact Nat.mul_le_mul (by omega) (by omega)
 have e:n*m=((n.natAbs*m.natAbs:Nat):Int):=by rw [Int.natCast_mul,Int.natAbs_of_nonneg hn,Int.natAbs_of_nonneg hm]
 rw [e];omega
def ZeM (p:List Zc) (n:Nat):Prop:=∀ c∈p,c.2.2.1.length=n
def Zwl (l:Lin) (n k:Int):Lin:=(l.1.map (·.tdiv n),k)
abbrev Z6.fn (x:Lin×Int×Int×Unit):Lin:=Zwl x.1 x.2.1 x.2.2.1
abbrev Z6.pre (x:Lin×Int×Int×Unit):Prop:=x.2.1≠0∧x.1.1.length≤1048576∧ZcM x.1.1
abbrev ZQ.fn (x:Zc×Unit):Zc×Int:=ZbE x.1
abbrev ZQ.pre (x:Zc×Unit):Prop:=condB x.1
def Zbt (a b:Zc):Int:=if a.2.2.1=b.2.2.1 then 1 else if a.2.2.1=Zb5 b.2.2.1 then -1 else 0
abbrev ZK.fn (x:Zc×Zc×Unit):Int:=Zbt x.1 x.2.1
abbrev ZK.pre (x:Zc×Zc×Unit):Prop:=x.1.2.2.1.length=x.2.1.2.2.1.length∧x.1.2.2.1.length≤1048576∧ZcM x.2.1.2.2.1
abbrev Z5.fn (x:List Int×List Int×Unit):Int:=ZcY x.1 x.2.1
abbrev Z5.pre (x:List Int×List Int×Unit):Prop:=x.1.length=x.2.1.length
abbrev ZaP.fn (x:Int×Unit):Int:=Zcc x.1
abbrev ZaZ.fn (x:Lin×Lin×Unit):Int:=ZcY (x.1.1++[x.1.2]) (x.2.1.1++[x.2.1.2])
abbrev ZaZ.pre (x:Lin×Lin×Unit):Prop:=x.1.1.length=x.2.1.1.length∧x.1.1.length≤1048576
abbrev ZaQ.fn (x:Zc×Zc×Unit):Int:=Zhu x.1 x.2.1
abbrev ZaQ.pre (x:Zc×Zc×Unit):Prop:=x.1.2.2.1.length=x.2.1.2.2.1.length∧x.1.2.2.1.length≤1048576
abbrev Z1.fn (x:List Zc×Unit):List Zc:=Zbd x.1
abbrev Z1.pre (x:List Zc×Unit):Prop:=x.1.length≤2199023255552∧∃ n,n≤1048576∧ZeM x.1 n
def Zn5 (p:List Zc):Prop:=Za2 p∧∃ n,ZeM p n
abbrev Zac.fn (x:List Zc×Unit):List Zc×Bool×Int:=Zaw x.1
abbrev Zac.pre (x:List Zc×Unit):Prop:=Zn5 x.1
abbrev Zaz.fn (x:List (List Zc)×List Zc×Unit):Bool:=decide (x.2.1∈x.1)
def Zb6 (out:List (List Zc)) (p:List Zc):Option (List (List Zc)) :=
 if (Zaw p).2.2≠0 then none else if (Zaw p).2.1=true∨(Zaw p).1∈out then some out else some (out++[(Zaw p).1])
def ZfD (l:List (List Zc)):List (List Zc)×Int:=match l.foldlM Zb6 [] with
 | none=>([],3)
 | some out=>(out,0)
abbrev ZJ.fn (x:List (List Zc)×Unit):List (List Zc)×Int:=ZfD x.1
abbrev ZJ.pre (x:List (List Zc)×Unit):Prop:=x.1.length≤1099511627776∧∀ p∈x.1,Zn5 p
abbrev Zav.fn (x:Int×List (List Zc)×Unit):ZcB×Int:=Zg1 x.1 (ZfQ x.2.1)
abbrev Zav.pre (x:Int×List (List Zc)×Unit):Prop:=x.2.1.length≤1099511627776∧∀ p∈x.2.1,Zn5 p
abbrev Zal.fn (x:ZcB×Unit):ZcB×Int:=ZaX x.1
def Zci (a:Int) (l:Lin) (b:Int) (m:Lin):Lin:=((List.range l.1.length).map fun i=>a*l.1.getD i 0+b*m.1.getD i 0,a*l.2+b*m.2)
def ZcR (l:Lin):Prop:=l.1.length≤1048576∧(∀ n∈l.1,-4294967296≤n∧n≤4294967296)∧-4294967296≤l.2∧l.2≤4294967296
abbrev ZE.fn (x:Int×Lin×Int×Lin×Unit):Lin:=Zci x.1 x.2.1 x.2.2.1 x.2.2.2.1
abbrev ZE.pre (x:Int×Lin×Int×Lin×Unit):Prop:=(-1048576≤x.1∧x.1≤1048576)∧ZcR x.2.1∧(-1048576≤x.2.2.1∧x.2.2.1≤1048576)∧ZcR x.2.2.2.1∧x.2.1.1.length=x.2.2.2.1.1.length
def isF (c:Zc) (p:List Int):Bool:=Zf6 c (c.2.2.2+ZfP c.2.2.1 p)
def Zkh (m:Int) (l:List ZcB):Bool:=l.all fun s=>s.2.all fun p=>decide ((p.length:Int)≤m)
def Zj7 (l:List ZcB):Int:=l.foldl (fun n s=>IntKind.wrap .i64 (n+(s.2.length:Int))) 0
abbrev ZW.fn (x:Int×Int×List ZcB×Unit):Bool:=Zkh x.2.1 x.2.2.1&&decide (Zj7 x.2.2.1≤x.1)
end Go.Proofs.YtgpdnmfpgkkgcaaGreatDoor
