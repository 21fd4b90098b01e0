/- Part of a proof that a law of the program holds for every input: what the functions answer, in plain Lean. No conditions. -/
import Derived.Lib.ItoaLen
import Derived.Test.YtgpdnmfpgkkgcaaGreatDoorK10
namespace Go.Proofs.YtgpdnmfpgkkgcaaGreatDoor
open Go
set_option linter.unusedVariables false
theorem Lp.iter {σ:Type} {body:σ→(σ→Prop)→Prop} (n:Nat) (I:Nat→σ→Prop) {x:σ} (hx:I 0 x) (h:∀ i y,i≤n→I i y→∀ R:σ→Prop,(i < n→∀ y',I (i+1) y'→R y')→body y R):Lp body x:=by
 intro R hR
 have key:∀ k i y,i+k=n→I i y→R y:=by
  intro k
  induction k with
  | zero=>exact fun i y e hi=>hR _ (h i y (by omega) hi R fun hlt=>by omega)
  | succ k ih=>exact fun i y e hi=>hR _ (h i y (by omega) hi R fun _ y' hy'=>ih (i+1) y' (by omega) hy')
 exact key n 0 x (by omega) hx
theorem ZT {α:Type} {l:List α} {d:α} {i:Nat} (h:i < l.length):l.getD i d=l[i]:=by
 rw [List.getD_eq_getElem?_getD,List.getElem?_eq_getElem h];rfl
theorem ZqI {α:Type} {l:List α} {d:α} {p:α→Bool} {i:Nat} (hi:i < l.length) (h:p (l.getD i d)=false):l.all p=false:=by
 rw [List.getD_eq_getElem?_getD,List.getElem?_eq_getElem hi] at h
 rw [List.all_eq_false]
 exact ⟨l[i],List.getElem_mem hi,by simpa using h⟩
theorem Zsu {α:Type} {l:List α} {d:α} {p:α→Bool} (h:∀ j,j < l.length→p (l.getD j d)=true):l.all p=true:=by
 rw [List.all_eq_true]
 intro x hx
 obtain ⟨i,hi,rfl⟩:=List.mem_iff_getElem.1 hx
 have:=h i hi
 rwa [List.getD_eq_getElem?_getD,List.getElem?_eq_getElem hi] at this
theorem Lp.all {α : Type} {body : Int → (Int → Prop) → Prop} (l : List α) (d : α) (p : α → Bool) (hl : l.length ≤ 9223372036854775807)
 (h:∀ (i:Nat) (R:Int→Prop),i < l.length→(i:Int) < (l.length:Int)→Zw .i64 ((i:Int)+1)→(p (l.getD i d)=true→R ((i:Int)+1))→(p (l.getD i d)=false→l.all p=false)→body (i:Int) R)
 (h2:∀ R:Int→Prop,l.all p=true→body (l.length:Int) R):Lp body 0:=by
 refine Lp.iter l.length (fun i y=>y=(i:Int)∧∀ j,j < i→p (l.getD j d)=true) ⟨rfl,fun j hj=>absurd hj (by omega)⟩ ?_
 rintro i y hle ⟨rfl,hi⟩ R hR
 by_cases e:i < l.length
 ·refine h i R e (by omega) ⟨by omega,by omega⟩ (fun hp=>hR e _ ⟨by omega,fun j hj=>?_⟩) (fun hp=>ZqI e hp)
  by_cases ej:j=i
  ·subst ej;exact hp
  ·exact hi j (by omega)
 ·have:i=l.length:=by omega
  subst this
  exact h2 R (Zsu hi)
theorem Lp.foldl {α τ : Type} {body : Int × τ → (Int × τ → Prop) → Prop} (l : List α) (d : α) (f : τ → α → τ) (a : τ) (hl : l.length ≤ 9223372036854775807)
 (h:∀ (i:Nat) (t:τ) (R:Int×τ→Prop),i < l.length→(i:Int) < (l.length:Int)→Zw .i64 ((i:Int)+1)→t=(l.take i).foldl f a→R ((i:Int)+1,f t (l.getD i d))→body ((i:Int),t) R)
 (h2:∀ R:Int×τ→Prop,body ((l.length:Int),l.foldl f a) R):Lp body (0,a):=by
 refine Lp.iter l.length (fun i y=>y=((i:Int),(l.take i).foldl f a)) rfl ?_
 rintro i y hle rfl R hR
 by_cases e:i < l.length
 ·refine h i _ R e (by omega) ⟨by omega,by omega⟩ rfl ?_
  refine hR e _ ?_
  have:l.take (i+1)=l.take i++[l.getD i d]:=by
   rw [List.getD_eq_getElem?_getD,List.getElem?_eq_getElem e];simp
  rw [this,List.foldl_append]
  rfl
 ·have:i=l.length:=by omega
  subst this
  rw [List.take_length]
  exact h2 R
theorem Zl {α:Type} {l:List α} {d:α} {i:Nat} (h:i < l.length):l.getD i d∈l:=by
 rw [ZT h];exact List.getElem_mem h
theorem Lp.foldO {α τ : Type} {body : Int × τ → (Int × τ → Prop) → Prop} (l : List α) (d : α) (f : τ → α → Option τ) (a : τ) (hl : l.length ≤ 9223372036854775807)
 (h:∀ (i:Nat) (t:τ) (R:Int×τ→Prop),i < l.length→(i:Int) < (l.length:Int)→Zw .i64 ((i:Int)+1)→(l.take i).foldlM f a=some t→(∀ t',f t (l.getD i d)=some t'→R ((i:Int)+1,t'))→(f t (l.getD i d)=none→l.foldlM f a=none)→body ((i:Int),t) R)
 (h2:∀ (t:τ) (R:Int×τ→Prop),l.foldlM f a=some t→body ((l.length:Int),t) R):Lp body (0,a):=by
 refine Lp.iter l.length (fun i y=>∃ t,y=((i:Int),t)∧(l.take i).foldlM f a=some t) ⟨a,rfl,rfl⟩ ?_
 rintro i y hle ⟨t,rfl,ht⟩ R hR
 by_cases e:i < l.length
 ·have hs:l.take (i+1)=l.take i++[l.getD i d]:=by
   rw [List.getD_eq_getElem?_getD,List.getElem?_eq_getElem e];simp
  refine h i t R e (by omega) ⟨by omega,by omega⟩ ht (fun t' ht'=>hR e _ ⟨t',rfl,?_⟩) (fun hn=>?_)
  ·rw [hs,List.foldlM_append,ht]
   show (f t (l.getD i d)).bind _=_
   rw [ht'];rfl
  ·have h3:l=l.take i++(l.getD i d::l.drop (i+1)):=by
    rw [List.getD_eq_getElem?_getD,List.getElem?_eq_getElem e]
    simp
   rw [h3,List.foldlM_append,ht]
   simp only [Option.bind_eq_bind,Option.bind_some,List.foldlM_cons]
   have e4:(l.take i++l.getD i d::l.drop (i+1)).getD i d=l.getD i d:=by rw [← h3]
   rw [hn];rfl
 ·have:i=l.length:=by omega
  subst this
  rw [List.take_length] at ht
  exact h2 t R ht
theorem Lp.fill {α β : Type} {body : Int × List β → (Int × List β → Prop) → Prop} (l : List α) (d : α) (z : β) (f : α → β) (hl : l.length ≤ 9223372036854775807)
 (h:∀ (i:Nat) (out:List β) (R:Int×List β→Prop),i < l.length→(i:Int) < (l.length:Int)→Zw .i64 ((i:Int)+1)→out.length=l.length→R ((i:Int)+1,out.set i (f (l.getD i d)))→body ((i:Int),out) R)
 (h2:∀ R:Int×List β→Prop,body ((l.length:Int),l.map f) R):Lp body (0,List.replicate l.length z):=by
 refine Lp.iter l.length (fun i y=>y=((i:Int),(l.take i).map f++List.replicate (l.length - i) z)) (by simp) ?_
 rintro i y hle rfl R hR
 by_cases e:i < l.length
 ·refine h i _ R e (by omega) ⟨by omega,by omega⟩ (by simp;omega) (hR e _ ?_)
  congr 1
  have h1:l.length - i=(l.length - (i+1))+1:=by omega
  rw [h1,List.replicate_succ,List.set_append_right _ _ (by simp;omega)]
  have h3:i - ((l.take i).map f).length=0:=by simp;omega
  rw [h3,List.set_cons_zero,ZT e]
  have h4:l.take (i+1)=l.take i++[l[i]]:=by simp
  rw [h4,List.map_append,List.append_assoc]
  rfl
 ·have:i=l.length:=by omega
  subst this
  simp only [List.take_length,Nat.sub_self,List.replicate_zero,List.append_nil]
  exact h2 R
abbrev Lin:=List Int×Int
abbrev Zc:=Int×Int×List Int×Int
abbrev Ze2:=Int×List (List Zc)
abbrev Zb:Zc:=(0,0,[],0)
def Fit (n:Int):Bool:=decide (-1048576≤n)&&decide (n≤1048576)
def Zaw (l:Lin):Bool:=l.1.all Fit&&(decide ((l.1.length:Int)≤12)&&Fit l.2)
def Zf (c:Zc):Bool:=if c.1=0∨c.1=1 then c.2.1 == 0&&Zaw c.2.2 else if c.1=2 then (decide (1≤c.2.1)&&decide (c.2.1≤512))&&Zaw c.2.2 else false
def Ze0 (p:List Zc) (n:Int):Bool:=p.all fun c=>Zf c&&((c.2.2.1.length:Int) == n)
def Z1 (s:Ze2):Bool:=decide (0≤s.1)&&decide (s.1≤12)&&decide ((s.2.length:Int)≤400)&&s.2.all fun p=>decide ((p.length:Int)≤96)&&Ze0 p s.1
abbrev Za2.fn (x:Int×Unit):Bool:=Fit x.1
abbrev ZaI.fn (x:Lin×Unit):Bool:=Zaw x.1
abbrev Zx.fn (x:Zc×Unit):Bool:=Zf x.1
abbrev Za0.fn (x:List Zc×Int×Unit):Bool:=Ze0 x.1 x.2.1
abbrev ZaA.fn (x:Ze2×Unit):Bool:=Z1 x.1
abbrev Zau.fn (x:Int×Unit):Bool:=Fit x.1
abbrev Zae.fn (x:Lin×Unit):Bool:=Zaw x.1
abbrev Z5.fn (x:Zc×Unit):Bool:=Zf x.1
abbrev ZaD.fn (x:Lin×Lin×Unit):Bool:=decide (x.1=x.2.1)
abbrev Zal.fn (x:Zc×Zc×Unit):Bool:=decide (x.1=x.2.1)
abbrev ZB.fn (x:List Zc×List Zc×Unit):Bool:=decide (x.1=x.2.1)
abbrev Zao.fn (x:Ze2×Ze2×Unit):Bool:=decide (x.1=x.2.1)
def ZaZ (l:List Int):Nat:=l.foldl (fun g n=>Nat.gcd g n.natAbs) 0
abbrev ZaU.fn (x:Int×Unit):Int:=if x.1 < 0 then IntKind.wrap .u64 (-IntKind.wrap .u64 x.1) else IntKind.wrap .u64 x.1
abbrev ZS.fn (x:Int×Int×Unit):Int:=if x.2.1≤0 then x.1 else if x.1 < 0 then x.2.1 else (Nat.gcd x.1.toNat x.2.1.toNat:Nat)
abbrev Zah.fn (x:Int×Int×Unit):Int:=ZS.fn (x.1,ZaU.fn (x.2.1,()),())
abbrev Zr.fn (x:List Int×Int×((Int×Int→Prop)×(Int×Int→Int))×Unit):Int:=x.1.foldl (fun g n=>x.2.2.1.2 (g,n)) x.2.1
abbrev Zr.pre (x:List Int×Int×((Int×Int→Prop)×(Int×Int→Int))×Unit):Prop:=∀ g,∀ n∈x.1,x.2.2.1.1 (g,n)
def Zcv (l:List Int):Prop:=∀ n∈l,-9223372036854775807≤n∧n≤9223372036854775807
abbrev ZaV.fn (x:List Int×Unit):Int×Int:=((ZaZ x.1:Nat),0)
abbrev ZaV.pre (x:List Int×Unit):Prop:=Zcv x.1
abbrev Zay.fn (x:List Int×Unit):Int×Int:=ZaV.fn x
abbrev Zay.pre (x:List Int×Unit):Prop:=Zcv x.1
abbrev Zab.fn (x:Int×Int×Unit):Int×Int:=if x.2.1 < 1 then (0,1) else (x.1 / x.2.1,0)
abbrev Zab.pre (x:Int×Int×Unit):Prop:=-9223372036854775807≤x.1∧x.1≤9223372036854775807
abbrev ZaT.fn (x:Int×Int×Unit):Int×Int:=if x.2.1 < 1 then (0,1) else (x.1 % x.2.1,0)
abbrev ZaT.pre (x:Int×Int×Unit):Prop:=x.2.1≤9223372036854775807
abbrev ZW.fn (x:Int×Int×Unit):Int×Int:=Zab.fn x
abbrev ZW.pre (x:Int×Int×Unit):Prop:=Zab.pre x
abbrev Zai.fn (x:Int×Int×Unit):Int×Int:=ZaT.fn x
abbrev Zai.pre (x:Int×Int×Unit):Prop:=ZaT.pre x
abbrev ZaN.fn (x:Int×Unit):Int:=ZaU.fn x
set_option maxRecDepth 4000
def Za2.wp (x0:Int) (Q:Bool→Prop):Prop:=((decide ((-(1048576:Int))≤x0)=true→(decide ((-(1048576:Int))≤x0)=true∧True))∧((decide ((-(1048576:Int))≤x0)=true→decide ((-(1048576:Int))≤x0)=true)∧Q (decide ((-(1048576:Int))≤x0)&&decide (x0≤(1048576:Int)))))
def ZaI.wp (x0:Lin) (Q:Bool→Prop):Prop:=Lp (σ:=Int) (fun y2 R2=>cond (decide (y2 < ((List.length x0.1:Nat):Int))) (((0:Int)≤y2∧y2 < ((List.length x0.1:Nat):Int))∧cond (!(Za2.fn ((List.getD x0.1 (Int.toNat y2) (0:Int)),()))) (Q false) (Zw IntKind.i64 (y2+(1:Int))∧R2 (y2+(1:Int)))) ((decide (((List.length x0.1:Nat):Int)≤(12:Int))=true→(decide (((List.length x0.1:Nat):Int)≤(12:Int))=true∧True))∧((decide (((List.length x0.1:Nat):Int)≤(12:Int))=true→(decide (((List.length x0.1:Nat):Int)≤(12:Int))=true∧True))∧((decide (((List.length x0.1:Nat):Int)≤(12:Int))=true→decide (((List.length x0.1:Nat):Int)≤(12:Int))=true)∧Q (decide (((List.length x0.1:Nat):Int)≤(12:Int))&&Za2.fn (x0.2,())))))) (0:Int)
def Zx.wp (x0:Zc) (Q:Bool→Prop):Prop:=let v0:=ZaI.fn (x0.2.2,());cond (x0.1 == (0:Int)) (cond (x0.1 == (0:Int)) (((x0.2.1 == (0:Int))=true→((x0.2.1 == (0:Int))=true∧True))∧(((x0.2.1 == (0:Int))=true→((x0.2.1 == (0:Int))=true∧True))∧(((x0.2.1 == (0:Int))=true→(x0.2.1 == (0:Int))=true)∧Q ((x0.2.1 == (0:Int))&&v0)))) (cond (x0.1 == (2:Int)) ((decide ((1:Int)≤x0.2.1)=true→(decide ((1:Int)≤x0.2.1)=true∧True))∧((decide ((1:Int)≤x0.2.1)=true→(decide ((1:Int)≤x0.2.1)=true∧True))∧((decide ((1:Int)≤x0.2.1)=true→decide ((1:Int)≤x0.2.1)=true)∧(((decide ((1:Int)≤x0.2.1)&&decide (x0.2.1≤(512:Int)))=true→((decide ((1:Int)≤x0.2.1)&&decide (x0.2.1≤(512:Int)))=true∧True))∧(((decide ((1:Int)≤x0.2.1)&&decide (x0.2.1≤(512:Int)))=true→((decide ((1:Int)≤x0.2.1)&&decide (x0.2.1≤(512:Int)))=true∧True))∧(((decide ((1:Int)≤x0.2.1)&&decide (x0.2.1≤(512:Int)))=true→(decide ((1:Int)≤x0.2.1)&&decide (x0.2.1≤(512:Int)))=true)∧Q ((decide ((1:Int)≤x0.2.1)&&decide (x0.2.1≤(512:Int)))&&v0))))))) (Q false))) (cond (x0.1 == (1:Int)) (((x0.2.1 == (0:Int))=true→((x0.2.1 == (0:Int))=true∧True))∧(((x0.2.1 == (0:Int))=true→((x0.2.1 == (0:Int))=true∧True))∧(((x0.2.1 == (0:Int))=true→(x0.2.1 == (0:Int))=true)∧Q ((x0.2.1 == (0:Int))&&v0)))) (cond (x0.1 == (2:Int)) ((decide ((1:Int)≤x0.2.1)=true→(decide ((1:Int)≤x0.2.1)=true∧True))∧((decide ((1:Int)≤x0.2.1)=true→(decide ((1:Int)≤x0.2.1)=true∧True))∧((decide ((1:Int)≤x0.2.1)=true→decide ((1:Int)≤x0.2.1)=true)∧(((decide ((1:Int)≤x0.2.1)&&decide (x0.2.1≤(512:Int)))=true→((decide ((1:Int)≤x0.2.1)&&decide (x0.2.1≤(512:Int)))=true∧True))∧(((decide ((1:Int)≤x0.2.1)&&decide (x0.2.1≤(512:Int)))=true→((decide ((1:Int)≤x0.2.1)&&decide (x0.2.1≤(512:Int)))=true∧True))∧(((decide ((1:Int)≤x0.2.1)&&decide (x0.2.1≤(512:Int)))=true→(decide ((1:Int)≤x0.2.1)&&decide (x0.2.1≤(512:Int)))=true)∧Q ((decide ((1:Int)≤x0.2.1)&&decide (x0.2.1≤(512:Int)))&&v0))))))) (Q false)))
def Za0.wp (x0:List Zc) (x1:Int) (Q:Bool→Prop):Prop:=Lp (σ:=Int) (fun y3 R3=>let v0:=List.getD x0 (Int.toNat y3) Zb;cond (decide (y3 < ((List.length x0:Nat):Int))) (((0:Int)≤y3∧y3 < ((List.length x0:Nat):Int))∧(((!(!(Zx.fn (v0,()))))=true→((!(!(Zx.fn (v0,()))))=true∧True))∧(((!(!(Zx.fn (v0,()))))=true→((!(!(Zx.fn (v0,()))))=true∧True))∧(((!(!(Zx.fn (v0,()))))=true→((!(!(Zx.fn (v0,()))))=true∧True))∧(((!(!(Zx.fn (v0,()))))=true→((!(!(Zx.fn (v0,()))))=true∧((!(!(Zx.fn (v0,()))))=true∧True)))∧(((!(Zx.fn (v0,())))=false→(!(!(Zx.fn (v0,()))))=true)∧cond ((!(Zx.fn (v0,())))||(((List.length v0.2.2.1:Nat):Int) != x1)) (Q false) (Zw IntKind.i64 (y3+(1:Int))∧R3 (y3+(1:Int))))))))) (Q true)) (0:Int)
def ZaA.wp (x0:Int×(List (List Zc))) (Q:Bool→Prop):Prop:=(((!(decide (x0.1 < (0:Int))))=true→((!(decide (x0.1 < (0:Int))))=true∧True))∧(((!(decide (x0.1 < (0:Int))))=true→((!(decide (x0.1 < (0:Int))))=true∧True))∧((decide (x0.1 < (0:Int))=false→(!(decide (x0.1 < (0:Int))))=true)∧(((!(decide (x0.1 < (0:Int))||decide ((12:Int) < x0.1)))=true→((!(decide (x0.1 < (0:Int))||decide ((12:Int) < x0.1)))=true∧True))∧(((!(decide (x0.1 < (0:Int))||decide ((12:Int) < x0.1)))=true→((!(decide (x0.1 < (0:Int))||decide ((12:Int) < x0.1)))=true∧True))∧(((!(decide (x0.1 < (0:Int))||decide ((12:Int) < x0.1)))=true→((!(decide (x0.1 < (0:Int))||decide ((12:Int) < x0.1)))=true∧True))∧(((decide (x0.1 < (0:Int))||decide ((12:Int) < x0.1))=false→(!(decide (x0.1 < (0:Int))||decide ((12:Int) < x0.1)))=true)∧cond ((decide (x0.1 < (0:Int))||decide ((12:Int) < x0.1))||decide ((400:Int) < ((List.length x0.2:Nat):Int))) (Q false) (Lp (σ:=Int) (fun y2 R2=>let v0:=List.getD x0.2 (Int.toNat y2) ([]:List (Zc));cond (decide (y2 < ((List.length x0.2:Nat):Int))) (((0:Int)≤y2∧y2 < ((List.length x0.2:Nat):Int))∧(((!(decide ((96:Int) < ((List.length v0:Nat):Int))))=true→((!(decide ((96:Int) < ((List.length v0:Nat):Int))))=true∧True))∧(((!(decide ((96:Int) < ((List.length v0:Nat):Int))))=true→((!(decide ((96:Int) < ((List.length v0:Nat):Int))))=true∧((!(decide ((96:Int) < ((List.length v0:Nat):Int))))=true∧True)))∧(((!(decide ((96:Int) < ((List.length v0:Nat):Int))))=true→((!(decide ((96:Int) < ((List.length v0:Nat):Int))))=true∧True))∧((decide ((96:Int) < ((List.length v0:Nat):Int))=false→(!(decide ((96:Int) < ((List.length v0:Nat):Int))))=true)∧cond (decide ((96:Int) < ((List.length v0:Nat):Int))||(!(Za0.fn (v0,(x0.1,()))))) (Q false) (Zw IntKind.i64 (y2+(1:Int))∧R2 (y2+(1:Int)))))))) (Q true)) (0:Int)))))))))
def Zau.wp (x0:Int) (Q:Bool→Prop):Prop:=((decide ((-(1048576:Int))≤x0)=true→(decide ((-(1048576:Int))≤x0)=true∧True))∧((decide ((-(1048576:Int))≤x0)=true→decide ((-(1048576:Int))≤x0)=true)∧Q (decide ((-(1048576:Int))≤x0)&&decide (x0≤(1048576:Int)))))
def Zae.wp (x0:Lin) (Q:Bool→Prop):Prop:=Lp (σ:=Int) (fun y2 R2=>cond (decide (y2 < ((List.length x0.1:Nat):Int))) (((0:Int)≤y2∧y2 < ((List.length x0.1:Nat):Int))∧cond (!(Zau.fn ((List.getD x0.1 (Int.toNat y2) (0:Int)),()))) (Q false) (Zw IntKind.i64 (y2+(1:Int))∧R2 (y2+(1:Int)))) ((decide (((List.length x0.1:Nat):Int)≤(12:Int))=true→(decide (((List.length x0.1:Nat):Int)≤(12:Int))=true∧True))∧((decide (((List.length x0.1:Nat):Int)≤(12:Int))=true→(decide (((List.length x0.1:Nat):Int)≤(12:Int))=true∧True))∧((decide (((List.length x0.1:Nat):Int)≤(12:Int))=true→decide (((List.length x0.1:Nat):Int)≤(12:Int))=true)∧Q (decide (((List.length x0.1:Nat):Int)≤(12:Int))&&(Zau.fn (x0.2,()))))))) (0:Int)
def Z5.wp (x0:Zc) (Q:Bool→Prop):Prop:=cond (!(Zae.fn (x0.2.2,()))) (Q false) (cond (x0.1 == (2:Int)) ((decide ((1:Int)≤x0.2.1)=true→(decide ((1:Int)≤x0.2.1)=true∧True))∧((decide ((1:Int)≤x0.2.1)=true→(decide ((1:Int)≤x0.2.1)=true∧True))∧((decide ((1:Int)≤x0.2.1)=true→decide ((1:Int)≤x0.2.1)=true)∧Q (decide ((1:Int)≤x0.2.1)&&decide (x0.2.1≤(512:Int)))))) (((!(x0.1 == (0:Int)))=true→((!(x0.1 == (0:Int)))=true∧True))∧(((!(x0.1 == (0:Int)))=true→((!(x0.1 == (0:Int)))=true∧True))∧(((x0.1 == (0:Int))=false→(!(x0.1 == (0:Int)))=true)∧((((x0.1 == (0:Int))||(x0.1 == (1:Int)))=true→(((x0.1 == (0:Int))||(x0.1 == (1:Int)))=true∧True))∧((((x0.1 == (0:Int))||(x0.1 == (1:Int)))=true→(((x0.1 == (0:Int))||(x0.1 == (1:Int)))=true∧True))∧((((x0.1 == (0:Int))||(x0.1 == (1:Int)))=true→((x0.1 == (0:Int))||(x0.1 == (1:Int)))=true)∧Q (((x0.1 == (0:Int))||(x0.1 == (1:Int)))&&(x0.2.1 == (0:Int))))))))))
def ZaD.wp (x0:Lin) (x1:Lin) (Q:Bool→Prop):Prop:=(((!(((List.length x0.1:Nat):Int) != ((List.length x1.1:Nat):Int)))=true→((!(((List.length x0.1:Nat):Int) != ((List.length x1.1:Nat):Int)))=true∧True))∧(((!(((List.length x0.1:Nat):Int) != ((List.length x1.1:Nat):Int)))=true→((!(((List.length x0.1:Nat):Int) != ((List.length x1.1:Nat):Int)))=true∧True))∧(((!(((List.length x0.1:Nat):Int) != ((List.length x1.1:Nat):Int)))=true→((!(((List.length x0.1:Nat):Int) != ((List.length x1.1:Nat):Int)))=true∧((!(((List.length x0.1:Nat):Int) != ((List.length x1.1:Nat):Int)))=true∧True)))∧(((((List.length x0.1:Nat):Int) != ((List.length x1.1:Nat):Int))=false→(!(((List.length x0.1:Nat):Int) != ((List.length x1.1:Nat):Int)))=true)∧cond ((((List.length x0.1:Nat):Int) != ((List.length x1.1:Nat):Int))||(x0.2 != x1.2)) (Q false) (Lp (σ:=Int) (fun y3 R3=>cond (decide (y3 < ((List.length x0.1:Nat):Int))) (((0:Int)≤y3∧y3 < ((List.length x0.1:Nat):Int))∧(((0:Int)≤y3∧y3 < ((List.length x1.1:Nat):Int))∧cond ((List.getD x0.1 (Int.toNat y3) (0:Int)) != (List.getD x1.1 (Int.toNat y3) (0:Int))) (Q false) (Zw IntKind.i64 (y3+(1:Int))∧R3 (y3+(1:Int))))) (Q true)) (0:Int))))))
def Zal.wp (x0:Zc) (x1:Zc) (Q:Bool→Prop):Prop:=(((x0.1 == x1.1)=true→((x0.1 == x1.1)=true∧True))∧(((x0.1 == x1.1)=true→((x0.1 == x1.1)=true∧True))∧(((x0.1 == x1.1)=true→((x0.1 == x1.1)=true∧((x0.1 == x1.1)=true∧True)))∧(((x0.1 == x1.1)=true→(x0.1 == x1.1)=true)∧((((x0.1 == x1.1)&&(x0.2.1 == x1.2.1))=true→(((x0.1 == x1.1)&&(x0.2.1 == x1.2.1))=true∧True))∧((((x0.1 == x1.1)&&(x0.2.1 == x1.2.1))=true→(((x0.1 == x1.1)&&(x0.2.1 == x1.2.1))=true∧True))∧((((x0.1 == x1.1)&&(x0.2.1 == x1.2.1))=true→(((x0.1 == x1.1)&&(x0.2.1 == x1.2.1))=true∧(((x0.1 == x1.1)&&(x0.2.1 == x1.2.1))=true∧True)))∧((((x0.1 == x1.1)&&(x0.2.1 == x1.2.1))=true→((x0.1 == x1.1)&&(x0.2.1 == x1.2.1))=true)∧Q (((x0.1 == x1.1)&&(x0.2.1 == x1.2.1))&&(ZaD.fn (x0.2.2,(x1.2.2,()))))))))))))
def ZB.wp (x0:List Zc) (x1:List Zc) (Q:Bool→Prop):Prop:=cond (((List.length x0:Nat):Int) != ((List.length x1:Nat):Int)) (Q false) (Lp (σ:=Int) (fun y3 R3=>cond (decide (y3 < ((List.length x0:Nat):Int))) (((0:Int)≤y3∧y3 < ((List.length x0:Nat):Int))∧(((0:Int)≤y3∧y3 < ((List.length x1:Nat):Int))∧cond (!(Zal.fn ((List.getD x0 (Int.toNat y3) Zb),((List.getD x1 (Int.toNat y3) Zb),())))) (Q false) (Zw IntKind.i64 (y3+(1:Int))∧R3 (y3+(1:Int))))) (Q true)) (0:Int))
def Zao.wp (x0:Int×(List (List Zc))) (x1:Int×(List (List Zc))) (Q:Bool→Prop):Prop:=(((!(x0.1 != x1.1))=true→((!(x0.1 != x1.1))=true∧True))∧(((!(x0.1 != x1.1))=true→((!(x0.1 != x1.1))=true∧True))∧(((!(x0.1 != x1.1))=true→((!(x0.1 != x1.1))=true∧True))∧(((!(x0.1 != x1.1))=true→((!(x0.1 != x1.1))=true∧True))∧(((!(x0.1 != x1.1))=true→((!(x0.1 != x1.1))=true∧((!(x0.1 != x1.1))=true∧True)))∧(((x0.1 != x1.1)=false→(!(x0.1 != x1.1))=true)∧cond ((x0.1 != x1.1)||(((List.length x0.2:Nat):Int) != ((List.length x1.2:Nat):Int))) (Q false) (Lp (σ:=Int) (fun y3 R3=>cond (decide (y3 < ((List.length x0.2:Nat):Int))) (((0:Int)≤y3∧y3 < ((List.length x0.2:Nat):Int))∧(((0:Int)≤y3∧y3 < ((List.length x1.2:Nat):Int))∧cond (!(ZB.fn ((List.getD x0.2 (Int.toNat y3) ([]:List (Zc))),((List.getD x1.2 (Int.toNat y3) ([]:List (Zc))),())))) (Q false) (Zw IntKind.i64 (y3+(1:Int))∧R3 (y3+(1:Int))))) (Q true)) (0:Int))))))))
def ZaU.wp (x0:Int) (Q:Int→Prop):Prop:=let v0:=IntKind.wrap IntKind.u64 x0;cond (decide (x0 < (0:Int))) (Q (IntKind.wrap IntKind.u64 (-v0))) (Q v0)
def ZS.wp (x0:Int) (x1:Int) (Q:Int→Prop):Prop:=Lp (σ:=Int×Int) (fun y3 R3=>cond (decide ((0:Int) < y3.1)) (y3.1≠(0:Int)∧R3 (Int.tmod y3.2 y3.1,y3.1)) (Q y3.2)) (x1,x0)
def Zah.wp (x0:Int) (x1:Int) (Q:Int→Prop):Prop:=Q (ZS.fn (x0,(ZaU.fn (x1,()),())))
def Zr.wp (x0:List Int) (x1:Int) (x2:(Int×Int→Prop)×(Int×Int→Int)) (Q:Int→Prop):Prop:=Lp (σ:=Int×Int) (fun y4 R4=>let v0:=List.getD x0 (Int.toNat y4.1) (0:Int);cond (decide (y4.1 < ((List.length x0:Nat):Int))) (((0:Int)≤y4.1∧y4.1 < ((List.length x0:Nat):Int))∧(x2.1 (y4.2,v0)∧(Zw IntKind.i64 (y4.1+(1:Int))∧R4 ((y4.1+(1:Int)),x2.2 (y4.2,v0))))) (Q y4.2)) ((0:Int),x1)
def ZaV.wp (x0:List Int) (Q:Int×Int→Prop):Prop:=let v0:=Zr.fn (x0,((0:Int),((fun (a2:Int×Int)=>True,fun (a2:Int×Int)=>Zah.fn (a2.1,(a2.2,()))),())));(Zr.pre (x0,((0:Int),((fun (a2:Int×Int)=>True,fun (a2:Int×Int)=>Zah.fn (a2.1,(a2.2,()))),())))∧cond (decide ((9223372036854775807:Int) < v0)) (Q ((0:Int),(3:Int))) (Zw IntKind.i64 v0∧Q (v0,(0:Int))))
def Zab.wp (x0:Int) (x1:Int) (Q:Int×Int→Prop):Prop:=cond (decide (x1 < (1:Int))) (Q ((0:Int),(1:Int))) ((x1≠(0:Int)∧Zw IntKind.i64 (Int.tdiv x0 x1))∧(x1≠(0:Int)∧cond (decide (Int.tmod x0 x1 < (0:Int))) (Zw IntKind.i64 (Int.tdiv x0 x1 - (1:Int))∧Q ((Int.tdiv x0 x1 - (1:Int)),(0:Int))) (Q (Int.tdiv x0 x1,(0:Int)))))
def ZaT.wp (x0:Int) (x1:Int) (Q:Int×Int→Prop):Prop:=cond (decide (x1 < (1:Int))) (Q ((0:Int),(1:Int))) (x1≠(0:Int)∧cond (decide (Int.tmod x0 x1 < (0:Int))) (Zw IntKind.i64 (Int.tmod x0 x1+x1)∧Q ((Int.tmod x0 x1+x1),(0:Int))) (Q (Int.tmod x0 x1,(0:Int))))
def Zay.wp (x0:List Int) (Q:Int×Int→Prop):Prop:=Lp (σ:=Int×Int) (fun y2 R2=>cond (decide (y2.1 < ((List.length x0:Nat):Int))) (((0:Int)≤y2.1∧y2.1 < ((List.length x0:Nat):Int))∧Lp (σ:=Int×Int) (fun y4 R4=>cond (y4.1 != (0:Int)) (y4.1≠(0:Int)∧R4 (Int.tmod y4.2 y4.1,y4.1)) (Zw IntKind.i64 (y2.1+(1:Int))∧R2 ((y2.1+(1:Int)),y4.2))) (ZaN.fn ((List.getD x0 (Int.toNat y2.1) (0:Int)),()),y2.2)) (cond (y2.2 == (9223372036854775808:Int)) (Q ((0:Int),(3:Int))) (Zw IntKind.i64 y2.2∧Q (y2.2,(0:Int))))) ((0:Int),(0:Int))
def ZW.wp (x0:Int) (x1:Int) (Q:Int×Int→Prop):Prop:=cond (decide (x1 < (1:Int))) (Q ((0:Int),(1:Int))) ((x1≠(0:Int)∧Zw IntKind.i64 (Int.tdiv x0 x1))∧(x1≠(0:Int)∧cond (decide (Int.tmod x0 x1 < (0:Int))) (Zw IntKind.i64 (Int.tdiv x0 x1 - (1:Int))∧Q ((Int.tdiv x0 x1 - (1:Int)),(0:Int))) (Q (Int.tdiv x0 x1,(0:Int)))))
def Zai.wp (x0:Int) (x1:Int) (Q:Int×Int→Prop):Prop:=cond (decide (x1 < (1:Int))) (Q ((0:Int),(1:Int))) (x1≠(0:Int)∧cond (decide (Int.tmod x0 x1 < (0:Int))) (Zw IntKind.i64 (Int.tmod x0 x1+x1)∧Q ((Int.tmod x0 x1+x1),(0:Int))) (Q (Int.tmod x0 x1,(0:Int))))
def ZaN.wp (x0:Int) (Q:Int→Prop):Prop:=let v0:=IntKind.wrap IntKind.u64 x0;cond (decide (x0 < (0:Int))) (Q (IntKind.wrap IntKind.u64 (-v0))) (Q v0)
theorem Za2.spec (x:Int):Za2.wp x (fun r=>r=Za2.fn (x,())):=by simp [Za2.wp,Za2.fn,Fit]
theorem Zau.spec (x:Int):Zau.wp x (fun r=>r=Zau.fn (x,())):=by simp [Zau.wp,Zau.fn,Fit]
theorem ZaI.spec (x:Lin) (hl:x.1.length≤9223372036854775807):ZaI.wp x (fun r=>r=ZaI.fn (x,())):=by
 refine Lp.all x.1 0 Fit hl (fun i R hi hi' hf ht hff=>?_) (fun R h=>?_)
 ·rw [decide_eq_true hi']
  refine ⟨⟨by omega,hi'⟩,?_⟩
  rw [Int.toNat_natCast]
  show cond (!Fit (x.1.getD i 0)) _ _
  cases h:Fit (x.1.getD i 0) with
  | true=>exact ⟨hf,ht h⟩
  | false=>simp [ZaI.fn,Zaw,hff h]
 ·simp [ZaI.fn,Za2.fn,Zaw,h]
theorem Zae.spec (x:Lin) (hl:x.1.length≤9223372036854775807):Zae.wp x (fun r=>r=Zae.fn (x,())):=by
 refine Lp.all x.1 0 Fit hl (fun i R hi hi' hf ht hff=>?_) (fun R h=>?_)
 ·rw [decide_eq_true hi']
  refine ⟨⟨by omega,hi'⟩,?_⟩
  rw [Int.toNat_natCast]
  show cond (!Fit (x.1.getD i 0)) _ _
  cases h:Fit (x.1.getD i 0) with
  | true=>exact ⟨hf,ht h⟩
  | false=>simp [Zae.fn,Zaw,hff h]
 ·simp [Zae.fn,Zau.fn,Zaw,h]
theorem Zx.spec (x:Zc):Zx.wp x (fun r=>r=Zx.fn (x,())):=by
 obtain ⟨k,m,l⟩:=x
 by_cases h0:k=0
 ·subst h0;simp [Zx.wp,Zx.fn,Zf,ZaI.fn]
 by_cases h1:k=1
 ·subst h1;simp [Zx.wp,Zx.fn,Zf,ZaI.fn]
 by_cases h2:k=2
 ·subst h2;simp [Zx.wp,Zx.fn,Zf,ZaI.fn]
 simp [Zx.wp,Zx.fn,Zf,ZaI.fn,h0,h1,h2]
theorem Z5.spec (x:Zc):Z5.wp x (fun r=>r=Z5.fn (x,())):=by
 obtain ⟨k,m,l⟩:=x
 simp only [Z5.wp,Z5.fn,Zf,Zae.fn]
 cases hl:Zaw l<;>by_cases h0:k=0
 all_goals first | (subst h0;simp;done) | skip
 all_goals by_cases h1:k=1
 all_goals first | (subst h1;simp;done) | skip
 all_goals by_cases h2:k=2
 all_goals first | (subst h2;simp;done) | skip
 all_goals simp [h0,h1,h2]
theorem Za0.spec (x:List Zc) (n:Int) (hl:x.length≤9223372036854775807):Za0.wp x n (fun r=>r=Za0.fn (x,n,())):=by
 refine Lp.all x Zb (fun c=>Zf c&&((c.2.2.1.length:Int) == n)) hl (fun i R hi hi' hf ht hff=>?_) (fun R h=>?_)
 ·simp only [decide_eq_true hi',Int.toNat_natCast,Zx.fn]
  refine ⟨⟨by omega,hi'⟩,?_⟩
  have ht':Zf (x.getD i Zb)=true→(((x.getD i Zb).2.2.1.length:Int) == n)=true→R ((i:Int)+1):=fun h1 h2=>ht (by rw [h1,h2];rfl)
  have hff':(Zf (x.getD i Zb)&&(((x.getD i Zb).2.2.1.length:Int) == n))=false→Za0.fn (x,n,())=false:=fun h=>hff h
  revert ht' hff'
  generalize x.getD i Zb=c
  intro ht' hff'
  cases h1:Zf c with
  | false=>simp [hff' (by rw [h1];rfl)]
  | true =>
    cases h2:((c.2.2.1.length:Int) == n) with
    | true=>simp [bne,h2,hf,ht' h1 h2]
    | false=>simp [bne,h2,hff' (by rw [h1,h2];rfl)]
 ·simp [Za0.fn,Ze0,h]
theorem ZaA.spec (x:Ze2) (hl:x.2.length≤9223372036854775807):ZaA.wp x (fun r=>r=ZaA.fn (x,())):=by
 obtain ⟨n,ps⟩:=x
 simp only [ZaA.wp,ZaA.fn]
 have hg:∀ b:Bool,(b=true→b=true∧True):=fun b h=>⟨h,trivial⟩
 have hn:∀ b:Bool,(b=false→(!b)=true):=fun b h=>by rw [h];rfl
 refine ⟨hg _,hg _,hn _,hg _,hg _,hg _,hn _,?_⟩
 by_cases h1:n < 0
 ·simp [h1,Z1,show ¬ 0≤n by omega]
 by_cases h2:12 < n
 ·simp [h1,h2,Z1,show ¬ n≤12 by omega]
 by_cases h3:(400:Int) < (ps.length:Int)
 ·simp only [decide_eq_true h3,Bool.or_true,cond_true]
  simp [Z1,show ¬ ((ps.length:Int)≤400) by omega]
 rw [decide_eq_false h1,decide_eq_false h2,decide_eq_false h3]
 have hv:∀ b,ps.all (fun p=>decide ((p.length:Int)≤96)&&Ze0 p n)=b→Z1 (n,ps)=b:=fun b h=>by
  simp only [Z1,h]
  rw [decide_eq_true (show (0:Int)≤n by omega),decide_eq_true (show n≤12 by omega),decide_eq_true (show (ps.length:Int)≤400 by omega)]
  rfl
 refine Lp.all ps [] (fun p=>decide ((p.length:Int)≤96)&&Ze0 p n) hl (fun i R hi hi' hf ht hff=>?_) (fun R h=>?_)
 ·simp only [decide_eq_true hi',Int.toNat_natCast,Za0.fn]
  refine ⟨⟨by omega,hi'⟩,?_⟩
  by_cases h4:(96:Int) < ((ps.getD i []).length:Int)
  ·simp only [decide_eq_true h4]
   have:=hv false (hff (by rw [decide_eq_false (show ¬ (((ps.getD i []).length:Int)≤96) by omega)];rfl))
   simp [this]
  ·simp only [decide_eq_false h4]
   cases h5:Ze0 (ps.getD i []) n with
   | true =>
     have:=ht (by rw [h5,decide_eq_true (show (((ps.getD i []).length:Int)≤96) by omega)];rfl)
     simp [hf,this]
   | false =>
     have:=hv false (hff (by rw [h5,Bool.and_false]))
     simp [this]
 ·simp [hv true h]
theorem Znj {α:Type} {a b:List α} {d:α} (hl:a.length=b.length) (h:∀ j,j < a.length→a.getD j d=b.getD j d):a=b:=by
 apply List.ext_getElem hl
 intro i h1 h2
 have:=h i h1
 rwa [ZT h1,ZT h2] at this
theorem ZaD.spec (x y:Lin) (hl:x.1.length≤9223372036854775807):ZaD.wp x y (fun r=>r=ZaD.fn (x,y,())):=by
 obtain ⟨c,k⟩:=x
 obtain ⟨d,m⟩:=y
 simp only [ZaD.wp,ZaD.fn]
 have hg:∀ b:Bool,(b=true→b=true∧True):=fun b h=>⟨h,trivial⟩
 refine ⟨hg _,hg _,fun h=>⟨h,h,trivial⟩,fun h=>by rw [h];rfl,?_⟩
 by_cases h1:c.length=d.length
 ·by_cases h2:k=m
  ·subst h2
   simp only [h1,bne_self_eq_false,Bool.or_false,cond_false]
   rw [show ((d.length:Nat):Int)=(c.length:Int) by omega]
   refine Lp.iter c.length (fun i y=>y=(i:Int)∧∀ j,j < i→c.getD j 0=d.getD j 0) ⟨rfl,fun j hj=>absurd hj (by omega)⟩ ?_
   rintro i y hle ⟨rfl,hi⟩ R hR
   by_cases e:i < c.length
   ·rw [decide_eq_true (show (i:Int) < (c.length:Int) by omega)]
    refine ⟨⟨by omega,by omega⟩,⟨by omega,by omega⟩,?_⟩
    rw [Int.toNat_natCast]
    by_cases h3:c.getD i 0=d.getD i 0
    ·rw [h3]
     simp only [bne_self_eq_false,cond_false]
     have hlc:c.length≤9223372036854775807:=hl
     refine ⟨⟨by omega,by omega⟩,hR e _ ⟨by omega,fun j hj=>?_⟩⟩
     by_cases ej:j=i
     ·subst ej;exact h3
     ·exact hi j (by omega)
    ·rw [bne_iff_ne.2 h3]
     refine (decide_eq_false fun h=>h3 ?_).symm
     rw [Prod.mk.injEq] at h
     rw [h.1]
   ·have:i=c.length:=by omega
    subst this
    simp only [Int.lt_irrefl,decide_false,cond_false]
    exact (decide_eq_true (by rw [Znj h1 hi])).symm
  ·simp only [bne_iff_ne.2 h2,Bool.or_true,cond_true]
   exact (decide_eq_false fun h=>h2 (by rw [Prod.mk.injEq] at h;exact h.2)).symm
 ·simp only [bne_iff_ne.2 (show ((c.length:Nat):Int)≠(d.length:Int) by omega),Bool.true_or,cond_true]
  exact (decide_eq_false fun h=>h1 (by rw [Prod.mk.injEq] at h;rw [h.1])).symm
theorem Zal.spec (x y:Zc):Zal.wp x y (fun r=>r=Zal.fn (x,y,())):=by
 obtain ⟨k,m,l⟩:=x
 obtain ⟨k',m',l'⟩:=y
 simp only [Zal.wp,Zal.fn,ZaD.fn]
 by_cases h1:k=k'<;>by_cases h2:m=m'<;>simp [h1,h2,Prod.ext_iff]
theorem Ziz {α : Type} {d : α} [DecidableEq α] {a b : List α} {Q : Bool → Prop} {body : Int → (Int → Prop) → Prop} (hl : a.length ≤ 9223372036854775807) (h1 : a.length = b.length) (hQ : Q (decide (a = b)))
 (h:∀ (i:Nat) (R:Int→Prop),i < a.length→i < b.length→Zw .i64 ((i:Int)+1)→(a.getD i d=b.getD i d→R ((i:Int)+1))→(a.getD i d≠b.getD i d→Q false)→body (i:Int) R) (h2:∀ R:Int→Prop,Q true→body (a.length:Int) R):Lp body 0:=by
 refine Lp.iter a.length (fun i y=>y=(i:Int)∧∀ j,j < i→a.getD j d=b.getD j d) ⟨rfl,fun j hj=>absurd hj (by omega)⟩ ?_
 rintro i y hle ⟨rfl,hi⟩ R hR
 by_cases e:i < a.length
 ·refine h i R e (by omega) ⟨by omega,by omega⟩ (fun he=>hR e _ ⟨by omega,fun j hj=>?_⟩) (fun hne=>?_)
  ·by_cases ej:j=i
   ·subst ej;exact he
   ·exact hi j (by omega)
  ·rwa [decide_eq_false (fun h=>hne (by rw [h]))] at hQ
 ·have:i=a.length:=by omega
  subst this
  refine h2 R ?_
  rwa [decide_eq_true (Znj h1 hi)] at hQ
theorem ZB.spec (x y:List Zc) (hl:x.length≤9223372036854775807):ZB.wp x y (fun r=>r=ZB.fn (x,y,())):=by
 simp only [ZB.wp]
 by_cases h1:x.length=y.length
 ·rw [h1]
  simp only [bne_self_eq_false,cond_false]
  rw [← h1]
  refine Ziz (d:=Zb) hl h1 (Q:=fun r=>r=ZB.fn (x,y,())) rfl (fun i R hi hi2 hf ht hff=>?_) (fun R h=>?_)
  ·rw [decide_eq_true (show (i:Int) < (x.length:Int) by omega)]
   refine ⟨⟨by omega,by omega⟩,⟨by omega,by omega⟩,?_⟩
   simp only [Int.toNat_natCast,Zal.fn]
   by_cases e:x.getD i Zb=y.getD i Zb
   ·rw [decide_eq_true e];exact ⟨hf,ht e⟩
   ·rw [decide_eq_false e];exact hff e
  ·simp only [Int.lt_irrefl,decide_false,cond_false];exact h
 ·rw [bne_iff_ne.2 (show ((x.length:Nat):Int)≠(y.length:Int) by omega)]
  exact (decide_eq_false fun h=>h1 (congrArg List.length h)).symm
theorem Zao.spec (x y:Ze2) (hl:x.2.length≤9223372036854775807):Zao.wp x y (fun r=>r=Zao.fn (x,y,())):=by
 obtain ⟨n,a⟩:=x
 obtain ⟨m,b⟩:=y
 simp only [Zao.wp]
 have hg:∀ b:Bool,(b=true→b=true∧True):=fun b h=>⟨h,trivial⟩
 refine ⟨hg _,hg _,hg _,hg _,fun h=>⟨h,h,trivial⟩,fun h=>by rw [h];rfl,?_⟩
 by_cases h0:n=m
 ·by_cases h1:a.length=b.length
  ·subst h0
   simp only [h1,bne_self_eq_false,Bool.or_false,cond_false]
   rw [← h1]
   refine Ziz (d:=[]) (a:=a) (b:=b) hl h1 (Q:=fun r=>r=Zao.fn ((n,a),(n,b),())) (by simp [Zao.fn]) (fun i R hi hi2 hf ht hff=>?_) (fun R h=>?_)
   ·rw [decide_eq_true (show (i:Int) < (a.length:Int) by omega)]
    refine ⟨⟨by omega,by omega⟩,⟨by omega,by omega⟩,?_⟩
    simp only [Int.toNat_natCast,ZB.fn]
    by_cases e:a.getD i []=b.getD i []
    ·rw [decide_eq_true e];exact ⟨hf,ht e⟩
    ·rw [decide_eq_false e];exact hff e
   ·simp only [Int.lt_irrefl,decide_false,cond_false];exact h
  ·simp only [bne_iff_ne.2 (show ((a.length:Nat):Int)≠(b.length:Int) by omega),Bool.or_true,cond_true]
   exact (decide_eq_false fun h=>h1 (by rw [Prod.mk.injEq] at h;rw [h.2])).symm
 ·simp only [bne_iff_ne.2 h0,Bool.true_or,cond_true]
  exact (decide_eq_false fun h=>h0 (by rw [Prod.mk.injEq] at h;rw [h.1])).symm
theorem ZaU.spec (n:Int):ZaU.wp n (fun r=>r=ZaU.fn (n,())):=by
 simp only [ZaU.wp,ZaU.fn]
 by_cases h:n < 0<;>simp [h]
theorem ZaN.spec (n:Int):ZaN.wp n (fun r=>r=ZaN.fn (n,())):=by
 simp only [ZaN.wp,ZaN.fn,ZaU.fn]
 by_cases h:n < 0<;>simp [h]
theorem Zpm (n:Int):IntKind.wrap .u64 n=n % 18446744073709551616:=by simp [IntKind.wrap,IntKind.bits,IntKind.signed]
theorem ZqT {n:Int} (h:-9223372036854775807≤n) (h2:n≤9223372036854775807):ZaU.fn (n,())=(n.natAbs:Int):=by
 simp only [ZaU.fn,Zpm]
 split
 ·have h3:n % 18446744073709551616=n+18446744073709551616:=by omega
  rw [h3];omega
 ·rw [Int.emod_eq_of_lt (by omega) (by omega)];omega
theorem Zn5 {a b:Int} (ha:0≤a) (hb:0 < b):Nat.gcd b.toNat (a.tmod b).toNat=Nat.gcd a.toNat b.toNat:=by
 obtain ⟨m,rfl⟩:∃ m:Nat,a=m:=⟨a.toNat,by omega⟩
 obtain ⟨k,rfl⟩:∃ k:Nat,b=k:=⟨b.toNat,by omega⟩
 rw [Int.tmod_eq_emod_of_nonneg ha,← Int.natCast_emod,Int.toNat_natCast,Int.toNat_natCast,Int.toNat_natCast,Nat.gcd_comm m k,Nat.gcd_rec k m,Nat.gcd_comm]
theorem ZS.spec (a b:Int):ZS.wp a b (fun r=>r=ZS.fn (a,b,())):=by
 simp only [ZS.wp]
 refine Lp.wf (fun y=>ZS.fn (y.2,y.1,())=ZS.fn (a,b,())) (fun y=>y.1.toNat) (fun y hy R hR=>?_) rfl
 obtain ⟨b',a'⟩:=y
 simp only at hy ⊢
 by_cases h:0 < b'
 ·rw [decide_eq_true h]
  have hlt:=Int.tmod_lt_of_pos a' h
  refine ⟨by omega,hR _ ?_ (by omega)⟩
  rw [← hy]
  simp only [ZS.fn]
  rw [if_neg (show ¬ b'≤0 by omega)]
  by_cases ha:a' < 0
  ·rw [if_pos ha,if_pos (show a'.tmod b'≤0 from by
    have:=Int.tmod_nonneg b' (show 0≤-a' by omega)
    rw [Int.neg_tmod] at this
    omega)]
  ·rw [if_neg ha]
   have h0:=Int.tmod_nonneg b' (show 0≤a' by omega)
   have:=Zn5 (show 0≤a' by omega) h
   by_cases hz:a'.tmod b'≤0
   ·rw [if_pos hz]
    have e:a'.tmod b'=0:=by omega
    rw [e] at this
    simp only [Int.toNat_zero,Nat.gcd_zero_right] at this
    rw [← this];omega
   ·rw [if_neg hz,if_neg (show ¬ b' < 0 by omega),this]
 ·rw [decide_eq_false h]
  rw [← hy]
  simp only [ZS.fn]
  rw [if_pos (show b'≤0 by omega)]
  rfl
theorem Zah.fn_eq (a n:Int) (ha:0≤a) (h:-9223372036854775807≤n) (h2:n≤9223372036854775807):Zah.fn (a,n,())=(Nat.gcd a.toNat n.natAbs:Nat):=by
 simp only [Zah.fn,ZqT h h2,ZS.fn]
 split
 ·have:n.natAbs=0:=by omega
  rw [this];simp;omega
 ·rw [if_neg (by omega)];simp
theorem Zah.spec (a b:Int):Zah.wp a b (fun r=>r=Zah.fn (a,b,())):=rfl
theorem Zr.spec (l:List Int) (a:Int) (f:(Int×Int→Prop)×(Int×Int→Int)) (hl:l.length≤9223372036854775807) (hp:Zr.pre (l,a,f,())):Zr.wp l a f (fun r=>r=Zr.fn (l,a,f,())):=by
 refine Lp.foldl l 0 (fun g n=>f.2 (g,n)) a hl (fun i t R hi hi' hf ht hR=>?_) (fun R=>?_)
 ·simp only [decide_eq_true hi',Int.toNat_natCast]
  exact ⟨⟨by omega,hi'⟩,hp _ _ (Zl hi),hf,hR⟩
 ·simp only [Int.lt_irrefl,decide_false,cond_false]
theorem Zh8 {l:List Int} (h:Zcv l):∀ g:Nat,l.foldl (fun g n=>Zah.fn (g,n,())) (g:Int)=((l.foldl (fun g n=>Nat.gcd g n.natAbs) g:Nat):Int):=by
 induction l with
 | nil=>exact fun g=>rfl
 | cons n l ih =>
   intro g
   have hn:=h n (by simp)
   simp only [List.foldl_cons]
   rw [Zah.fn_eq _ _ (by omega) hn.1 hn.2]
   exact ih (fun m hm=>h m (by simp [hm])) _
theorem ZiX {l:List Int}:∀ g:Nat,0 < g→l.foldl (fun g n=>Nat.gcd g n.natAbs) g≤g:=by
 induction l with
 | nil=>exact fun g _=>Nat.le_refl _
 | cons n l ih =>
   intro g hg
   simp only [List.foldl_cons]
   exact Nat.le_trans (ih _ (Nat.gcd_pos_of_pos_left _ hg)) (Nat.gcd_le_left _ hg)
theorem ZkC {l:List Int} (h:Zcv l):ZaZ l≤9223372036854775807:=by
 unfold ZaZ
 have key:∀ l:List Int,Zcv l→l.foldl (fun g n=>Nat.gcd g n.natAbs) 0≤9223372036854775807:=by
  intro l
  induction l with
  | nil=>exact fun _=>by simp
  | cons n l ih =>
    intro h
    have hn:=h n (by simp)
    simp only [List.foldl_cons,Nat.gcd_zero_left]
    by_cases e:n.natAbs=0
    ·rw [e];exact ih (fun m hm=>h m (by simp [hm]))
    ·exact Nat.le_trans (ZiX _ (by omega)) (by omega)
 exact key l h
theorem ZaV.spec (l:List Int) (hp:ZaV.pre (l,())):ZaV.wp l (fun r=>r=ZaV.fn (l,())):=by
 have hle:ZaZ l≤9223372036854775807:=ZkC hp
 have e:Zr.fn (l,0,(fun _=>True,fun a=>Zah.fn (a.1,a.2,())),())=(ZaZ l:Int):=Zh8 hp 0
 simp only [ZaV.wp]
 refine ⟨fun _ _ _=>trivial,?_⟩
 rw [e,decide_eq_false (show ¬ (9223372036854775807:Int) < (ZaZ l:Int) by omega)]
 exact ⟨⟨by omega,by omega⟩,rfl⟩
theorem ZhN {a b:Int} (hb:0 < b):(a.tmod b < 0→a.tdiv b - 1=a / b∧a.tmod b+b=a % b)∧(¬ a.tmod b < 0→a.tdiv b=a / b∧a.tmod b=a % b):=by
 have h1:=Int.emod_nonneg a (show b≠0 by omega)
 have h2:=Int.emod_lt_of_pos a hb
 rw [Int.tmod_eq_emod,Int.tdiv_eq_ediv]
 split
 ·exact ⟨fun h=>by omega,fun _=>⟨by omega,by omega⟩⟩
 ·rw [Int.sign_eq_one_of_pos hb]
  exact ⟨fun _=>⟨by omega,by omega⟩,fun h=>by omega⟩
theorem Zoc {a b:Int} (hb:0 < b) (h:-9223372036854775807≤a) (h2:a≤9223372036854775807):-9223372036854775807≤a / b∧a / b≤9223372036854775807:=by
 constructor
 ·rw [Int.le_ediv_iff_mul_le hb]
  have:=Int.mul_le_mul_of_nonneg_left (show (1:Int)≤b by omega) (show (0:Int)≤9223372036854775807 by omega)
  rw [show (-9223372036854775807:Int)=-(9223372036854775807) from rfl,Int.neg_mul]
  omega
 ·refine Int.le_of_lt_add_one ?_
  rw [Int.ediv_lt_iff_lt_mul hb]
  have:=Int.mul_le_mul_of_nonneg_left (show (1:Int)≤b by omega) (show (0:Int)≤9223372036854775808 by omega)
  omega
theorem ZnC {a b:Int} (hp:Zab.pre (a,b,())) {Q:Int×Int→Prop} (h:Q (Zab.fn (a,b,()))):cond (decide (b < (1:Int))) (Q ((0:Int),(1:Int))) ((b≠(0:Int)∧Zw IntKind.i64 (Int.tdiv a b))∧(b≠(0:Int)∧cond (decide (Int.tmod a b < (0:Int))) (Zw IntKind.i64 (Int.tdiv a b - (1:Int))∧Q ((Int.tdiv a b - (1:Int)),(0:Int))) (Q (Int.tdiv a b,(0:Int))))):=by
 simp only [Zab.fn] at h
 by_cases h1:b < 1
 ·rw [decide_eq_true h1];rwa [if_pos h1] at h
 ·rw [decide_eq_false h1]
  rw [if_neg h1] at h
  have hb:-9223372036854775807≤a / b∧a / b≤9223372036854775807:=Zoc (b:=b) (by omega) hp.1 hp.2
  have hf:=ZhN (a:=a) (b:=b) (by omega)
  have hq:Zw IntKind.i64 (a.tdiv b):=by
   by_cases h2:a.tmod b < 0
   ·have h5:=(hf.1 h2).1
    have ha:a < 0:=Int.not_le.1 fun h=>by have:=Int.tmod_nonneg b h;omega
    have:=Int.ediv_neg_of_neg_of_pos ha (show 0 < b by omega)
    exact ⟨by omega,by omega⟩
   ·have:=(hf.2 h2).1;exact ⟨by omega,by omega⟩
  refine ⟨⟨by omega,hq⟩,by omega,?_⟩
  by_cases h2:a.tmod b < 0
  ·rw [decide_eq_true h2]
   have:=(hf.1 h2).1
   rw [← this] at h
   exact ⟨⟨by omega,by omega⟩,h⟩
  ·rw [decide_eq_false h2]
   rw [← (hf.2 h2).1] at h
   exact h
theorem Zab.spec (a b:Int) (hp:Zab.pre (a,b,())):Zab.wp a b (fun r=>r=Zab.fn (a,b,())):=ZnC (Q:=fun r=>r=Zab.fn (a,b,())) hp rfl
theorem ZW.spec (a b:Int) (hp:ZW.pre (a,b,())):ZW.wp a b (fun r=>r=ZW.fn (a,b,())):=ZnC (Q:=fun r=>r=ZW.fn (a,b,())) hp rfl
theorem ZsD {a b:Int} (hp:ZaT.pre (a,b,())) {Q:Int×Int→Prop} (h:Q (ZaT.fn (a,b,()))):cond (decide (b < (1:Int))) (Q ((0:Int),(1:Int))) (b≠(0:Int)∧cond (decide (Int.tmod a b < (0:Int))) (Zw IntKind.i64 (Int.tmod a b+b)∧Q ((Int.tmod a b+b),(0:Int))) (Q (Int.tmod a b,(0:Int)))):=by
 simp only [ZaT.fn] at h
 have hp:b≤9223372036854775807:=hp
 by_cases h1:b < 1
 ·rw [decide_eq_true h1];rwa [if_pos h1] at h
 ·rw [decide_eq_false h1]
  rw [if_neg h1] at h
  have hf:=ZhN (a:=a) (b:=b) (by omega)
  have h3:=Int.emod_nonneg a (show b≠0 by omega)
  have h4:=Int.emod_lt_of_pos a (show 0 < b by omega)
  refine ⟨by omega,?_⟩
  by_cases h2:a.tmod b < 0
  ·rw [decide_eq_true h2]
   have:=(hf.1 h2).2
   rw [← this] at h
   exact ⟨⟨by omega,by omega⟩,h⟩
  ·rw [decide_eq_false h2]
   rw [← (hf.2 h2).2] at h
   exact h
theorem ZaT.spec (a b:Int) (hp:ZaT.pre (a,b,())):ZaT.wp a b (fun r=>r=ZaT.fn (a,b,())):=ZsD (Q:=fun r=>r=ZaT.fn (a,b,())) hp rfl
theorem Zai.spec (a b:Int) (hp:Zai.pre (a,b,())):Zai.wp a b (fun r=>r=Zai.fn (a,b,())):=ZsD (Q:=fun r=>r=Zai.fn (a,b,())) hp rfl
theorem Zay.spec (l:List Int) (hl:l.length≤9223372036854775807) (hp:Zay.pre (l,())):Zay.wp l (fun r=>r=Zay.fn (l,())):=by
 have e:=Zh8 hp 0
 have hle:ZaZ l≤9223372036854775807:=ZkC hp
 refine Lp.foldl l 0 (fun g n=>Zah.fn (g,n,())) 0 hl (fun i t R hi hi' hf ht hR=>?_) (fun R=>?_)
 ·simp only [decide_eq_true hi',Int.toNat_natCast]
  refine ⟨⟨by omega,hi'⟩,?_⟩
  have hn:=hp _ (Zl (d:=0) hi)
  have h0:0≤t:=by
   have:=Zh8 (l:=l.take i) (fun m hm=>hp m (List.mem_of_mem_take hm)) 0
   rw [ht,show (0:Int)=((0:Nat):Int) from rfl,this];omega
  rw [Zah.fn_eq _ _ h0 hn.1 hn.2] at hR
  show Lp _ (ZaU.fn (l.getD i 0,()),t)
  rw [ZqT hn.1 hn.2]
  revert hR
  generalize (l.getD i 0).natAbs=m
  intro hR
  refine Lp.wf (fun y=>0≤y.1∧0≤y.2∧Nat.gcd y.2.toNat y.1.toNat=Nat.gcd t.toNat m) (fun y=>y.1.toNat) (fun y hy R2 hR2=>?_) ⟨by simp,h0,by simp⟩
  obtain ⟨b',a'⟩:=y
  obtain ⟨h1,h2,h3⟩:=hy
  simp only at h1 h2 h3 ⊢
  by_cases hz:b'=0
  ·subst hz
   simp only [bne_self_eq_false,cond_false]
   refine ⟨hf,?_⟩
   rw [← h3] at hR
   simp only [Int.toNat_zero,Nat.gcd_zero_right,Int.toNat_of_nonneg h2] at hR
   exact hR
  ·rw [bne_iff_ne.2 hz]
   have hlt:=Int.tmod_lt_of_pos a' (show 0 < b' by omega)
   have h0':=Int.tmod_nonneg b' h2
   exact ⟨hz,hR2 _ ⟨h0',h1,by rw [Zn5 h2 (by omega)];exact h3⟩ (by show (a'.tmod b').toNat < b'.toNat;omega)⟩
 ·simp only [Int.lt_irrefl,decide_false,cond_false]
  have e':l.foldl (fun g n=>Zah.fn (g,n,())) 0=(ZaZ l:Int):=e
  rw [e']
  have:((ZaZ l:Int) == 9223372036854775808)=false:=by
   rw [beq_eq_false_iff_ne];omega
  rw [this]
  exact ⟨⟨by omega,by omega⟩,rfl⟩
def ZeP (n:Int):Prop:=-2305843009213693952≤n∧n≤2305843009213693952
def linB (l:Lin):Prop:=l.1.length≤1048576∧(∀ n∈l.1,ZeP n)∧ZeP l.2
def ZoD (c:Zc):Prop:=c.1=0∨c.1=1∨(c.1=2∧1≤c.2.1∧c.2.1≤2305843009213693952)
def condB (c:Zc):Prop:=ZoD c∧linB c.2.2
def ZaG (p:List Zc):Prop:=p.length≤1048576∧∀ c∈p,condB c
def Zcm (b:Bool):Zc×Int:=(Zb,if b then 1 else -1)
def geF (c:Zc):Zc×Int:=if ZaZ c.2.2.1=0 then Zcm (decide (0≤c.2.2.2)) else ((0,0,c.2.2.1.map (·.tdiv (ZaZ c.2.2.1)),c.2.2.2 / (ZaZ c.2.2.1:Int)),0)
def ZaW:List Int→Bool
 | []=>false
 | n::l=>if n=0 then ZaW l else decide (n < 0)
def Za5 (c:Zc):Int:=if ZaW c.2.2.1 then -(ZaZ c.2.2.1:Int) else (ZaZ c.2.2.1:Int)
def eqF (c:Zc):Zc×Int:=if ZaZ c.2.2.1=0∨c.2.2.2.tmod (ZaZ c.2.2.1)≠0 then Zcm (decide (ZaZ c.2.2.1=0)&&(c.2.2.2 == 0)) else ((1,0,c.2.2.1.map (·.tdiv (Za5 c)),c.2.2.2.tdiv (Za5 c)),0)
def ZbM (c:Zc):Nat:=ZaZ (c.2.1::c.2.2.1.map (· % c.2.1))
def ZjR (c:Zc):Zc×Int:=if (c.2.2.2 % c.2.1).tmod (ZbM c)≠0 then Zcm false else if c.2.1=ZbM c then Zcm true else ((2,c.2.1.tdiv (ZbM c),(c.2.2.1.map (· % c.2.1)).map (·.tdiv (ZbM c)),(c.2.2.2 % c.2.1).tdiv (ZbM c)),0)
def Zbm (c:Zc):Zc×Int:=if c.1=0 then geF c else if c.1=1 then eqF c else ZjR c
abbrev Zq.fn (x:Zc×Int×Unit):List Int:=x.1.2.2.1.map (·.tdiv x.2.1)
abbrev Zq.pre (x:Zc×Int×Unit):Prop:=x.2.1≠0∧x.1.2.2.1.length≤1048576∧Zcv x.1.2.2.1
abbrev Zar.fn (x:Bool×Unit):Zc×Int:=Zcm x.1
abbrev Zac.fn (x:Bool×Unit):Zc×Int:=Zcm x.1
abbrev ZC.fn (x:Zc×Unit):Zc×Int:=geF x.1
abbrev ZC.pre (x:Zc×Unit):Prop:=linB x.1.2.2
abbrev ZD.fn (x:Zc×Unit):Zc×Int:=eqF x.1
abbrev ZD.pre (x:Zc×Unit):Prop:=linB x.1.2.2
abbrev Zy.fn (x:Zc×Unit):Zc×Int:=ZjR x.1
abbrev Zy.pre (x:Zc×Unit):Prop:=linB x.1.2.2∧1≤x.1.2.1∧x.1.2.1≤2305843009213693952
abbrev Zaq.fn (x:Zc×Unit):Zc×Int:=Zbm x.1
abbrev Zaq.pre (x:Zc×Unit):Prop:=condB x.1
def Zgx (a b:Int):Int:=if a < b then -1 else if b < a then 1 else 0
def Zcx:List Int→List Int→Int
 | [],[]=>0
 | [],_::_=>-1
 | _::_,[]=>1
 | x::a,y::b=>if Zgx x y=0 then Zcx a b else Zgx x y
def orL:List Int→Int
 | []=>0
 | n::l=>if n=0 then orL l else n
def ZbP (k:Int):Int:=if k=0 then 1 else if k=1 then 0 else 2
def ZgX (a b:Zc):Int:=orL [Zgx (ZbP a.1) (ZbP b.1),Zgx a.2.1 b.2.1,Zcx a.2.2.1 b.2.2.1,Zgx a.2.2.2 b.2.2.2]
abbrev ZM.fn (x:Int×Unit):Bool:=false
abbrev Zu.fn (x:Int×Int×Unit):Int:=Zgx x.1 x.2.1
abbrev ZaP.fn (x:List Int×Unit):Int:=orL x.1
abbrev Zk.fn (x:List Int×List Int×Unit):Int:=Zcx x.1 x.2.1
def Zfy (k:Int):Prop:=k=0∨k=1∨k=2
abbrev Z4.fn (x:Zc×Zc×Unit):Int:=ZgX x.1 x.2.1
abbrev Z4.pre (x:Zc×Zc×Unit):Prop:=Zfy x.1.1∧Zfy x.2.1.1
abbrev ZaF.fn (x:Zc×Unit):Bool:=!Zf x.1
abbrev ZZ.fn (x:Zc×Zc×Unit):Bool:=ZgX x.1 x.2.1 == 0
abbrev ZZ.pre (x:Zc×Zc×Unit):Prop:=Zfy x.1.1∧Zfy x.2.1.1
def ZoN {α:Type} (f:α→Bool):List α→Int→Int
 | [],_=>-1
 | x::l,i=>if f x then i else ZoN f l (i+1)
abbrev Ze.fn (x:List Zc×((Zc→Prop)×(Zc→Bool))×Unit):Int:=ZoN x.2.1.2 x.1 0
abbrev Ze.pre (x:List Zc×((Zc→Prop)×(Zc→Bool))×Unit):Prop:=∀ c∈x.1,x.2.1.1 c
abbrev Zd.fn (x:List Zc×((Zc→Prop)×(Zc→Bool))×Unit):Bool:=x.1.any x.2.1.2
abbrev Zd.pre (x:List Zc×((Zc→Prop)×(Zc→Bool))×Unit):Prop:=∀ c∈x.1,x.2.1.1 c
def Zq.wp (x0:Zc) (x1:Int) (Q:(List Int)→Prop):Prop:=(((0:Int)≤((List.length x0.2.2.1:Nat):Int)∧(((List.length x0.2.2.1:Nat):Int)≤((List.length x0.2.2.1:Nat):Int)∧((((List.length x0.2.2.1:Nat):Int)*((8:Nat):Int))≤(140737488355328:Int)∧((List.length x0.2.2.1:Nat):Int)≤(9223372036854775807:Int))))∧Lp (σ:=Int×List Int) (fun y3 R3=>let v2:=List.getD x0.2.2.1 (Int.toNat y3.1) (0:Int);cond (decide (y3.1 < ((List.length x0.2.2.1:Nat):Int))) (((0:Int)≤y3.1∧y3.1 < ((List.length x0.2.2.1:Nat):Int))∧((x1≠(0:Int)∧Zw IntKind.i64 (Int.tdiv v2 x1))∧(((0:Int)≤y3.1∧y3.1 < ((List.length y3.2:Nat):Int))∧(Int.toNat y3.1 < List.length y3.2∧(Zw IntKind.i64 (y3.1+(1:Int))∧R3 ((y3.1+(1:Int)),(List.set y3.2 (Int.toNat y3.1) (Int.tdiv v2 x1)))))))) (Q y3.2)) ((0:Int),(List.replicate (Int.toNat ((List.length x0.2.2.1:Nat):Int)) (0:Int))))
def Zar.wp (x0:Bool) (Q:Zc×Int→Prop):Prop:=cond x0 (Q (Zb,(1:Int))) (Q (Zb,(-(1:Int))))
def ZC.wp (x0:Zc) (Q:Zc×Int→Prop):Prop:=let v0:=ZaV.fn (x0.2.2.1,());(ZaV.pre (x0.2.2.1,())∧cond (v0.1 == (0:Int)) (Q (Zar.fn (decide ((0:Int)≤x0.2.2.2),()))) (Zab.pre (x0.2.2.2,(v0.1,()))∧(Zq.pre (x0,(v0.1,()))∧Q (((0:Int),((0:Int),((Zq.fn (x0,(v0.1,()))),(Zab.fn (x0.2.2.2,(v0.1,()))).1))),(0:Int)))))
def ZD.wp (x0:Zc) (Q:Zc×Int→Prop):Prop:=let v0:=ZaV.fn (x0.2.2.1,());let v3:=Int.tdiv x0.2.2.2 (-v0.1);let v5:=Zq.fn (x0,(v0.1,()));(ZaV.pre (x0.2.2.1,())∧(((!(v0.1 == (0:Int)))=true→((!(v0.1 == (0:Int)))=true∧True))∧(((!(v0.1 == (0:Int)))=true→((!(v0.1 == (0:Int)))=true∧True))∧(((!(v0.1 == (0:Int)))=true→((!(v0.1 == (0:Int)))=true∧True))∧(((!(v0.1 == (0:Int)))=true→((!(v0.1 == (0:Int)))=true∧((!(v0.1 == (0:Int)))=true∧v0.1≠(0:Int))))∧(((!(v0.1 == (0:Int)))=true→((!(v0.1 == (0:Int)))=true∧True))∧(((v0.1 == (0:Int))=false→(!(v0.1 == (0:Int)))=true)∧cond ((v0.1 == (0:Int))||(Int.tmod x0.2.2.2 v0.1 != (0:Int))) (((v0.1 == (0:Int))=true→((v0.1 == (0:Int))=true∧True))∧(((v0.1 == (0:Int))=true→((v0.1 == (0:Int))=true∧True))∧(((v0.1 == (0:Int))=true→((v0.1 == (0:Int))=true∧True))∧(((v0.1 == (0:Int))=true→((v0.1 == (0:Int))=true∧True))∧(((v0.1 == (0:Int))=true→(v0.1 == (0:Int))=true)∧Q (Zar.fn (((v0.1 == (0:Int))&&(x0.2.2.2 == (0:Int))),()))))))) (Lp (σ:=Int) (fun y2 R2=>let v2:=List.getD x0.2.2.1 (Int.toNat y2) (0:Int);cond (decide (y2 < ((List.length x0.2.2.1:Nat):Int))) (((0:Int)≤y2∧y2 < ((List.length x0.2.2.1:Nat):Int))∧cond (v2 != (0:Int)) (cond (decide (v2 < (0:Int))) (Zw IntKind.i64 (-v0.1)∧(Zq.pre (x0,((-v0.1),()))∧(((-v0.1)≠(0:Int)∧Zw IntKind.i64 v3)∧Q (((1:Int),((0:Int),((Zq.fn (x0,((-v0.1),()))),v3))),(0:Int))))) (Zq.pre (x0,(v0.1,()))∧((v0.1≠(0:Int)∧Zw IntKind.i64 (Int.tdiv x0.2.2.2 v0.1))∧Q (((1:Int),((0:Int),(v5,Int.tdiv x0.2.2.2 v0.1))),(0:Int))))) (Zw IntKind.i64 (y2+(1:Int))∧R2 (y2+(1:Int)))) (Zq.pre (x0,(v0.1,()))∧((v0.1≠(0:Int)∧Zw IntKind.i64 (Int.tdiv x0.2.2.2 v0.1))∧Q (((1:Int),((0:Int),(v5,Int.tdiv x0.2.2.2 v0.1))),(0:Int))))) (0:Int)))))))))
def Zy.wp (x0:Zc) (Q:Zc×Int→Prop):Prop:=let v7:=ZaT.fn (x0.2.2.2,(x0.2.1,()));(((0:Int)≤((List.length x0.2.2.1:Nat):Int)∧(((List.length x0.2.2.1:Nat):Int)≤((List.length x0.2.2.1:Nat):Int)∧((((List.length x0.2.2.1:Nat):Int)*((8:Nat):Int))≤(140737488355328:Int)∧((List.length x0.2.2.1:Nat):Int)≤(9223372036854775807:Int))))∧Lp (σ:=Int×Int×List Int) (fun y2 R2=>let v2:=List.getD x0.2.2.1 (Int.toNat y2.1) (0:Int);let v4:=List.set y2.2.2 (Int.toNat y2.1) (ZaT.fn (v2,(x0.2.1,()))).1;let v5:=List.getD v4 (Int.toNat y2.1) (0:Int);cond (decide (y2.1 < ((List.length x0.2.2.1:Nat):Int))) (((0:Int)≤y2.1∧y2.1 < ((List.length x0.2.2.1:Nat):Int))∧(ZaT.pre (v2,(x0.2.1,()))∧(((0:Int)≤y2.1∧y2.1 < ((List.length y2.2.2:Nat):Int))∧(Int.toNat y2.1 < List.length y2.2.2∧(((0:Int)≤y2.1∧y2.1 < ((List.length v4:Nat):Int))∧(Int.toNat y2.1 < List.length v4∧(ZaV.pre ([y2.2.1,v5],())∧(Zw IntKind.i64 (y2.1+(1:Int))∧R2 ((y2.1+(1:Int)),((ZaV.fn ([y2.2.1,v5],())).1,v4)))))))))) (ZaT.pre (x0.2.2.2,(x0.2.1,()))∧(y2.2.1≠(0:Int)∧cond (Int.tmod v7.1 y2.2.1 != (0:Int)) (Q (Zar.fn (false,()))) (cond (x0.2.1 == y2.2.1) (Q ((((Zar.fn (true,())).1).1,((((Zar.fn (true,())).1).2).1,((((Zar.fn (true,())).1).2).2))),(Zar.fn (true,())).2)) (Zq.pre (((0:Int),((0:Int),(y2.2.2,v7.1))),(y2.2.1,()))∧((y2.2.1≠(0:Int)∧Zw IntKind.i64 (Int.tdiv v7.1 y2.2.1))∧((y2.2.1≠(0:Int)∧Zw IntKind.i64 (Int.tdiv x0.2.1 y2.2.1))∧Q (((2:Int),(Int.tdiv x0.2.1 y2.2.1,((Zq.fn (((0:Int),((0:Int),(y2.2.2,v7.1))),(y2.2.1,()))),Int.tdiv v7.1 y2.2.1))),(0:Int))))))))) ((0:Int),(x0.2.1,(List.replicate (Int.toNat ((List.length x0.2.2.1:Nat):Int)) (0:Int)))))
def Zaq.wp (x0:Zc) (Q:Zc×Int→Prop):Prop:=cond (decide (x0.1=(0:Int))) (ZC.pre (((0:Int),x0.2),())∧Q (ZC.fn (((0:Int),x0.2),()))) (cond (decide (x0.1=(1:Int))) (ZD.pre (((1:Int),x0.2),())∧Q (ZD.fn (((1:Int),x0.2),()))) (cond (decide (x0.1=(2:Int))) (Zy.pre (((2:Int),x0.2),())∧Q (Zy.fn (((2:Int),x0.2),()))) False))
def ZM.wp (x0:Int) (Q:Bool→Prop):Prop:=Q (x0 != x0)
def Zu.wp (x0:Int) (x1:Int) (Q:Int→Prop):Prop:=let v1:=ZM.fn (x1,());cond (ZM.fn (x0,())) (cond v1 (Q (0:Int)) (Q (-(1:Int)))) (cond v1 (Q (1:Int)) (cond (decide (x0 < x1)) (Q (-(1:Int))) (cond (decide (x1 < x0)) (Q (1:Int)) (Q (0:Int)))))
def ZaP.wp (x0:List Int) (Q:Int→Prop):Prop:=Lp (σ:=Int) (fun y2 R2=>let v0:=List.getD x0 (Int.toNat y2) (0:Int);cond (decide (y2 < ((List.length x0:Nat):Int))) (((0:Int)≤y2∧y2 < ((List.length x0:Nat):Int))∧cond (v0 != (0:Int)) (Q v0) (Zw IntKind.i64 (y2+(1:Int))∧R2 (y2+(1:Int)))) (Q (0:Int))) (0:Int)
def Zk.wp (x0:List Int) (x1:List Int) (Q:Int→Prop):Prop:=Lp (σ:=Int) (fun y3 R3=>let v2:=Zu.fn ((List.getD x0 (Int.toNat y3) (0:Int)),((List.getD x1 (Int.toNat y3) (0:Int)),()));cond (decide (y3 < ((List.length x0:Nat):Int))) (((0:Int)≤y3∧y3 < ((List.length x0:Nat):Int))∧cond (decide (((List.length x1:Nat):Int)≤y3)) (Q (1:Int)) (((0:Int)≤y3∧y3 < ((List.length x1:Nat):Int))∧cond (v2 != (0:Int)) (Q v2) (Zw IntKind.i64 (y3+(1:Int))∧R3 (y3+(1:Int))))) (cond (decide (((List.length x0:Nat):Int) < ((List.length x1:Nat):Int))) (Q (-(1:Int))) (Q (0:Int)))) (0:Int)
def Z4.wp (x0:Zc) (x1:Zc) (Q:Int→Prop):Prop:=let v1:=[(1:Int),(0:Int),(2:Int)];(3=List.length (List.replicate 3 (0:Int))∧(((0:Int)≤x0.1∧x0.1 < ((3:Nat):Int))∧(Int.toNat x0.1 < List.length v1∧(((0:Int)≤x1.1∧x1.1 < ((3:Nat):Int))∧(Int.toNat x1.1 < List.length v1∧Q (ZaP.fn ([(Zu.fn ((List.getD v1 (Int.toNat x0.1) (0:Int)),((List.getD v1 (Int.toNat x1.1) (0:Int)),()))),(Zu.fn (x0.2.1,(x1.2.1,()))),(Zk.fn (x0.2.2.1,(x1.2.2.1,()))),(Zu.fn (x0.2.2.2,(x1.2.2.2,())))],())))))))
def ZaF.wp (x0:Zc) (Q:Bool→Prop):Prop:=Q (!(Zx.fn (x0,())))
def ZZ.wp (x0:Zc) (x1:Zc) (Q:Bool→Prop):Prop:=(Z4.pre (x0,(x1,()))∧Q ((Z4.fn (x0,(x1,()))) == (0:Int)))
def Ze.wp (x0:List Zc) (x1:(Zc→Prop)×(Zc→Bool)) (Q:Int→Prop):Prop:=Lp (σ:=Int) (fun y3 R3=>let v0:=List.getD x0 (Int.toNat y3) Zb;cond (decide (y3 < ((List.length x0:Nat):Int))) (((0:Int)≤y3∧y3 < ((List.length x0:Nat):Int))∧(x1.1 v0∧cond (x1.2 v0) (Q y3) (Zw IntKind.i64 (y3+(1:Int))∧R3 (y3+(1:Int))))) (Q (-(1:Int)))) (0:Int)
def Zd.wp (x0:List Zc) (x1:(Zc→Prop)×(Zc→Bool)) (Q:Bool→Prop):Prop:=(Ze.pre (x0,((fun (a3:Zc)=>x1.1 a3,fun (a3:Zc)=>x1.2 a3),()))∧Q (decide ((0:Int)≤(Ze.fn (x0,((fun (a3:Zc)=>x1.1 a3,fun (a3:Zc)=>x1.2 a3),()))))))
theorem linB.ints {l:Lin} (h:linB l):Zcv l.1:=fun n hn=>by have:=h.2.1 n hn;unfold ZeP at this;omega
theorem Zch (n g:Int):(n.tdiv g).natAbs≤n.natAbs:=by rw [Int.natAbs_tdiv];exact Nat.div_le_self _ _
theorem Zcn {n g:Int} (h:-9223372036854775807≤n) (h2:n≤9223372036854775807):Zw .i64 (n.tdiv g):=by
 have:=Zch n g
 exact ⟨by omega,by omega⟩
theorem Zq.spec (c:Zc) (g:Int) (hp:Zq.pre (c,g,())):Zq.wp c g (fun r=>r=Zq.fn (c,g,())):=by
 obtain ⟨h1,h2,h3⟩:=hp
 simp only at h1 h2 h3
 simp only [Zq.wp,Int.toNat_natCast]
 refine ⟨⟨by omega,by omega,by omega,by omega⟩,?_⟩
 refine Lp.fill c.2.2.1 0 0 (·.tdiv g) (by omega) (fun i out R hi hi' hf ho hR=>?_) (fun R=>?_)
 ·simp only [decide_eq_true hi',Int.toNat_natCast]
  have hn:=h3 _ (Zl (d:=0) hi)
  exact ⟨⟨by omega,hi'⟩,⟨h1,Zcn hn.1 hn.2⟩,⟨by omega,by omega⟩,by omega,hf,hR⟩
 ·simp only [Int.lt_irrefl,decide_false,cond_false]
theorem Zar.spec (b:Bool):Zar.wp b (fun r=>r=Zar.fn (b,())):=by cases b<;>rfl
theorem ZfI:∀ {l:List Int} {g:Nat},(l.foldl (fun g n=>Nat.gcd g n.natAbs) g ∣ g)∧∀ n∈l,l.foldl (fun g n=>Nat.gcd g n.natAbs) g ∣ n.natAbs
 | [],g=>⟨Nat.dvd_refl _,fun n hn=>by cases hn⟩
 | m::l,g=>by
   obtain ⟨h1,h2⟩:=ZfI (l:=l) (g:=Nat.gcd g m.natAbs)
   refine ⟨Nat.dvd_trans h1 (Nat.gcd_dvd_left _ _),fun n hn=>?_⟩
   rcases List.mem_cons.1 hn with rfl | hn
   ·exact Nat.dvd_trans h1 (Nat.gcd_dvd_right _ _)
   ·exact h2 n hn
theorem Zht {l:List Int} (h:ZaZ l=0):∀ n∈l,n=0:=fun n hn=>by
 have:=(ZfI (l:=l) (g:=0)).2 n hn
 have h':l.foldl (fun g n=>Nat.gcd g n.natAbs) 0=0:=h
 rw [h',Nat.zero_dvd] at this
 omega
theorem ZC.spec (c:Zc) (hp:ZC.pre (c,())):ZC.wp c (fun r=>r=ZC.fn (c,())):=by
 have hb:linB c.2.2:=hp
 obtain ⟨h1,h2,h3⟩:=id hb
 unfold ZeP at h3
 simp only [ZC.wp,ZaV.fn,ZC.fn,geF,Zar.fn]
 refine ⟨hb.ints,?_⟩
 by_cases hg:ZaZ c.2.2.1=0
 ·rw [hg];simp
 ·rw [beq_eq_false_iff_ne.2 (show ((ZaZ c.2.2.1:Nat):Int)≠0 by omega),if_neg hg]
  refine ⟨⟨by show -9223372036854775807≤c.2.2.2;omega,by show c.2.2.2≤9223372036854775807;omega⟩,⟨by show ((ZaZ c.2.2.1:Nat):Int)≠0;omega,h1,hb.ints⟩,?_⟩
  simp only [Zq.fn,Zab.fn]
  rw [if_neg (show ¬ ((ZaZ c.2.2.1:Nat):Int) < 1 by omega)]
theorem Zct {l:List Int} {i:Nat} (h:∀ j,j < i→l.getD j 0=0):ZaW l=ZaW (l.drop i):=by
 induction i generalizing l with
 | zero=>rfl
 | succ i ih =>
   cases l with
   | nil=>rfl
   | cons n l =>
     have h0:=h 0 (by omega)
     simp at h0
     simp only [ZaW,if_pos h0,List.drop_succ_cons]
     exact ih (fun j hj=>by have:=h (j+1) (by omega);simpa using this)
theorem ZD.spec (c:Zc) (hp:ZD.pre (c,())):ZD.wp c (fun r=>r=ZD.fn (c,())):=by
 have hb:linB c.2.2:=hp
 obtain ⟨h1,h2,h3⟩:=id hb
 unfold ZeP at h3
 have hgl:ZaZ c.2.2.1≤9223372036854775807:=ZkC hb.ints
 simp only [ZD.wp,ZaV.fn,Zar.fn,Zq.fn]
 have hg:∀ b:Bool,(b=true→b=true∧True):=fun b h=>⟨h,trivial⟩
 refine ⟨hb.ints,hg _,hg _,hg _,?_,hg _,fun h=>by rw [h];rfl,?_⟩
 ·intro h
  refine ⟨h,h,?_⟩
  intro e
  rw [e] at h;simp at h
 have hfn:ZD.fn (c,())=eqF c:=rfl
 by_cases hz:ZaZ c.2.2.1=0
 ·rw [hfn,eqF,if_pos (.inl hz),hz]
  simp
 ·have hzi:((ZaZ c.2.2.1:Nat):Int)≠0:=by omega
  rw [beq_eq_false_iff_ne.2 hzi]
  by_cases hm:c.2.2.2.tmod (ZaZ c.2.2.1)≠0
  ·rw [bne_iff_ne.2 hm,hfn,eqF,if_pos (.inr hm)]
   simp [hz]
  ·have hm':c.2.2.2.tmod (ZaZ c.2.2.1)=0:=by simpa using hm
   rw [hm',bne_self_eq_false,Bool.or_false,cond_false,hfn,eqF,if_neg (by simp [hz,hm'])]
   have hby:∀ g:Int,g≠0→Zq.pre (c,g,()):=fun g hg=>⟨hg,h1,hb.ints⟩
   have hkf:∀ g:Int,Zw .i64 (c.2.2.2.tdiv g):=fun g=>Zcn (by omega) (by omega)
   refine Lp.iter c.2.2.1.length (fun i y=>y=(i:Int)∧∀ j,j < i→c.2.2.1.getD j 0=0) ⟨rfl,fun j hj=>absurd hj (by omega)⟩ ?_
   rintro i y hle ⟨rfl,hi⟩ R hR
   by_cases e:i < c.2.2.1.length
   ·rw [decide_eq_true (show (i:Int) < (c.2.2.1.length:Int) by omega)]
    refine ⟨⟨by omega,by omega⟩,?_⟩
    simp only [Int.toNat_natCast]
    by_cases hn:c.2.2.1.getD i 0=0
    ·simp only [hn,bne_self_eq_false,cond_false]
     refine ⟨⟨by omega,by omega⟩,hR e _ ⟨by omega,fun j hj=>?_⟩⟩
     by_cases ej:j=i
     ·subst ej;exact hn
     ·exact hi j (by omega)
    ·simp only [bne_iff_ne.2 hn,cond_true]
     have hfn:ZaW c.2.2.1=decide (c.2.2.1.getD i 0 < 0):=by
      rw [Zct hi,List.drop_eq_getElem_cons e]
      rw [ZT e] at hn
      simp only [ZaW,if_neg hn,ZT e]
     by_cases hneg:c.2.2.1.getD i 0 < 0
     ·rw [decide_eq_true hneg] at hfn
      simp only [decide_eq_true hneg,cond_true]
      refine ⟨⟨by omega,by omega⟩,hby _ (by omega),⟨by omega,hkf _⟩,?_⟩
      simp only [Za5,hfn,if_true]
     ·rw [decide_eq_false hneg] at hfn
      simp only [decide_eq_false hneg,cond_false]
      refine ⟨hby _ hzi,⟨hzi,hkf _⟩,?_⟩
      simp [Za5,hfn]
   ·have:i=c.2.2.1.length:=by omega
    subst this
    rw [decide_eq_false (Int.lt_irrefl _)]
    refine ⟨hby _ hzi,⟨hzi,hkf _⟩,?_⟩
    have hfn:ZaW c.2.2.1=false:=by rw [Zct hi,List.drop_length];rfl
    simp [Za5,hfn]
theorem ZH {α:Type} {l:List α} {i:Nat} (d:α) (h:i < l.length):l.take (i+1)=l.take i++[l.getD i d]:=by
 rw [ZT h];simp
theorem Zpc {α β:Type} {l:List α} {d:α} {z:β} {f:α→β} {i:Nat} (e:i < l.length):((l.take i).map f++List.replicate (l.length - i) z).set i (f (l.getD i d))=(l.take (i+1)).map f++List.replicate (l.length - (i+1)) z:=by
 have h1:l.length - i=(l.length - (i+1))+1:=by omega
 rw [h1,List.replicate_succ,List.set_append_right _ _ (by simp;omega)]
 have h3:i - ((l.take i).map f).length=0:=by simp;omega
 rw [h3,List.set_cons_zero,ZH d e,List.map_append,List.append_assoc]
 rfl
theorem ZgT (m:Int) (l:List Int) (n:Int):ZaZ (m::(l++[n]))=Nat.gcd (ZaZ (m::l)) n.natAbs:=by
 simp only [ZaZ,List.foldl_cons,List.foldl_append,List.foldl_nil]
theorem Zqq (a b:Int):ZaZ [a,b]=Nat.gcd a.natAbs b.natAbs:=by simp [ZaZ]
theorem ZfR {m:Int} (h:1≤m) (l:List Int):0 < ZaZ (m::l):=by
 rcases Nat.eq_zero_or_pos (ZaZ (m::l)) with h0 | h0
 ·have:=Zht h0 m (by simp);omega
 ·exact h0
theorem ZdQ {m:Int} (h:1≤m) (l:List Int):ZaZ (m::l)≤m.toNat:=by
 have:=ZiX (l:=l) m.natAbs (by omega)
 simp only [ZaZ,List.foldl_cons,Nat.gcd_zero_left]
 omega
theorem Zy.spec (c:Zc) (hp:Zy.pre (c,())):Zy.wp c (fun r=>r=Zy.fn (c,())):=by
 obtain ⟨hb,hm1,hm2⟩:=hp
 simp only at hb hm1 hm2
 obtain ⟨h1,h2,h3⟩:=id hb
 unfold ZeP at h3
 have hfn:Zy.fn (c,())=ZjR c:=rfl
 simp only [Zy.wp,Int.toNat_natCast]
 refine ⟨⟨by omega,by omega,by omega,by omega⟩,?_⟩
 have hmod:∀ n,ZaT.fn (n,c.2.1,())=(n % c.2.1,0):=fun n=>by
  simp only [ZaT.fn];rw [if_neg (by omega)]
 simp only [hmod]
 refine Lp.iter c.2.2.1.length (fun i y=>y=((i:Int),((ZaZ (c.2.1::(c.2.2.1.take i).map (· % c.2.1)):Nat):Int),(c.2.2.1.take i).map (· % c.2.1)++List.replicate (c.2.2.1.length - i) 0)) ?_ ?_
 ·have:ZaZ [c.2.1]=c.2.1.natAbs:=by simp [ZaZ]
  simp [this];omega
 rintro i y hle rfl R hR
 have hr:∀ n:Int,0≤n % c.2.1∧n % c.2.1 < c.2.1:=fun n=>⟨Int.emod_nonneg _ (by omega),Int.emod_lt_of_pos _ (by omega)⟩
 have hgl:=ZdQ hm1 ((c.2.2.1.take i).map (· % c.2.1))
 by_cases e:i < c.2.2.1.length
 ·have hfs:=Zpc (z:=(0:Int)) (f:=(· % c.2.1)) (d:=(0:Int)) e
  simp only [decide_eq_true (show (i:Int) < (c.2.2.1.length:Int) by omega),Int.toNat_natCast,cond_true]
  rw [hfs]
  have hlen:((c.2.2.1.take (i+1)).map (· % c.2.1)++List.replicate (c.2.2.1.length - (i+1)) (0:Int)).length=c.2.2.1.length:=by simp;omega
  have hget:((c.2.2.1.take (i+1)).map (· % c.2.1)++List.replicate (c.2.2.1.length - (i+1)) (0:Int)).getD i 0=c.2.2.1.getD i 0 % c.2.1:=by
   rw [ZT (by rw [hlen];exact e),List.getElem_append_left (by simp;omega),ZT e]
   simp
  rw [hget]
  have hq:=hr (c.2.2.1.getD i 0)
  refine ⟨⟨by omega,by omega⟩,by show c.2.1≤9223372036854775807;omega,⟨by omega,by simp;omega⟩,by simp;omega,⟨by omega,by rw [hlen];omega⟩,by rw [hlen];exact e,?_,⟨by omega,by omega⟩,hR e _ ?_⟩
  ·intro n hn
   simp only [List.mem_cons,List.not_mem_nil,or_false] at hn
   rcases hn with rfl | rfl<;>constructor<;>omega
  ·simp only [ZaV.fn,Zqq,Int.natAbs_natCast]
   rw [ZH 0 e,List.map_append,List.map_cons,List.map_nil,ZgT]
   rfl
 ·have:i=c.2.2.1.length:=by omega
  subst this
  simp only [List.take_length,Nat.sub_self,List.replicate_zero,List.append_nil,Int.lt_irrefl,decide_false,cond_false]
  have hpos:=ZfR hm1 (c.2.2.1.map (· % c.2.1))
  rw [List.take_length] at hgl
  have hdg:ZbM c=ZaZ (c.2.1::c.2.2.1.map (· % c.2.1)):=rfl
  rw [← hdg] at hpos hgl ⊢
  have hq:=hr c.2.2.2
  refine ⟨by show c.2.1≤9223372036854775807;omega,by omega,?_⟩
  rw [hfn,ZjR]
  by_cases ht:(c.2.2.2 % c.2.1).tmod (ZbM c)≠0
  ·rw [bne_iff_ne.2 ht,if_pos ht];rfl
  ·rw [if_neg ht]
   have ht:(c.2.2.2 % c.2.1).tmod (ZbM c)=0:=by simpa using ht
   rw [ht,bne_self_eq_false]
   by_cases he:c.2.1=ZbM c
   ·rw [if_pos he]
    simp only [beq_iff_eq.2 he,cond_true,cond_false]
   ·rw [if_neg he,beq_eq_false_iff_ne.2 he]
    refine ⟨⟨by show ((ZbM c:Nat):Int)≠0;omega,by simpa using h1,fun n hn=>?_⟩,⟨by omega,Zcn (by omega) (by omega)⟩,⟨by omega,Zcn (by omega) (by omega)⟩,rfl⟩
    simp only [List.mem_map] at hn
    obtain ⟨a,_,rfl⟩:=hn
    have:=hr a
    constructor<;>omega
theorem Zaq.spec (c:Zc) (hp:Zaq.pre (c,())):Zaq.wp c (fun r=>r=Zaq.fn (c,())):=by
 obtain ⟨hk,hl⟩:ZoD c∧linB c.2.2:=hp
 obtain ⟨k,r⟩:=c
 simp only [Zaq.wp,Zaq.fn,Zbm,ZC.fn,ZD.fn,Zy.fn]
 rcases hk with h | h | ⟨h,h2,h3⟩
 ·have h:k=0:=h
  subst h;exact ⟨hl,rfl⟩
 ·have h:k=1:=h
  subst h;exact ⟨hl,rfl⟩
 ·have h:k=2:=h
  subst h;exact ⟨⟨hl,h2,h3⟩,rfl⟩
theorem Fit.bound {n:Int} (h:Fit n=true):-1048576≤n∧n≤1048576:=by simpa [Fit] using h
theorem Zaw.b {l:Lin} (h:Zaw l=true):l.1.length≤12∧(∀ n∈l.1,-1048576≤n∧n≤1048576)∧-1048576≤l.2∧l.2≤1048576:=by
 simp only [Zaw,Bool.and_eq_true,List.all_eq_true,decide_eq_true_eq] at h
 exact ⟨by omega,fun n hn=>Fit.bound (h.1 n hn),Fit.bound h.2.2⟩
theorem Zf.lin {c:Zc} (h:Zf c=true):Zaw c.2.2=true:=by
 unfold Zf at h
 split at h
 ·simp only [Bool.and_eq_true] at h;exact h.2
 ·split at h
  ·simp only [Bool.and_eq_true] at h;exact h.2
  ·cases h
theorem Zf.kind {c:Zc} (h:Zf c=true):(c.1=0∧c.2.1=0)∨(c.1=1∧c.2.1=0)∨(c.1=2∧1≤c.2.1∧c.2.1≤512):=by
 unfold Zf at h
 split at h
 ·rename_i hk
  simp only [Bool.and_eq_true,beq_iff_eq] at h
  rcases hk with hk | hk
  ·exact .inl ⟨hk,h.1⟩
  ·exact .inr (.inl ⟨hk,h.1⟩)
 ·split at h
  ·rename_i hk
   simp only [Bool.and_eq_true,decide_eq_true_eq] at h
   exact .inr (.inr ⟨hk,h.1.1,h.1.2⟩)
  ·cases h
theorem Zaw.linB {l:Lin} (h:Zaw l=true):linB l:=by
 have:=Zaw.b h
 exact ⟨by omega,fun n hn=>by have:=this.2.1 n hn;exact ⟨by omega,by omega⟩,by omega,by omega⟩
theorem Zf.condB {c:Zc} (h:Zf c=true):condB c:=by
 refine ⟨?_,Zaw.linB (Zf.lin h)⟩
 rcases Zf.kind h with h | h | h
 ·exact .inl h.1
 ·exact .inr (.inl h.1)
 ·exact .inr (.inr ⟨h.1,h.2.1,by omega⟩)
theorem Zdr (b:Bool):(Zcm b).2=1∨(Zcm b).2=-1:=by cases b<;>simp [Zcm]
theorem ZoV (c:Zc):(Zbm c).2=0∨(Zbm c).2=1∨(Zbm c).2=-1:=by
 unfold Zbm geF eqF ZjR
 split
 ·split
  ·exact .inr (Zdr _)
  ·exact .inl rfl
 ·split
  ·split
   ·exact .inr (Zdr _)
   ·exact .inl rfl
  ·split
   ·exact .inr (Zdr _)
   ·split
    ·exact .inr (Zdr _)
    ·exact .inl rfl
theorem ZiZ {α β:Type} {f:List β→α→Option (List β)} (hf:∀ t x t',f t x=some t'→t'.length≤t.length+1):∀ (l:List α) (a t:List β),l.foldlM f a=some t→t.length≤a.length+l.length
 | [],a,t,h=>by cases h;simp
 | x::l,a,t,h=>by
   rw [List.foldlM_cons] at h
   cases hx:f a x with
   | none=>rw [hx] at h;cases h
   | some b =>
     rw [hx] at h
     have:=ZiZ hf l b t h
     have:=hf a x b hx
     simp only [List.length_cons];omega
theorem ZM.spec (n:Int):ZM.wp n (fun r=>r=ZM.fn (n,())):=by simp [ZM.wp,ZM.fn]
theorem Zu.spec (a b:Int):Zu.wp a b (fun r=>r=Zu.fn (a,b,())):=by
 simp only [Zu.wp,ZM.fn,Zu.fn,Zgx,cond_false]
 by_cases h:a < b
 ·simp [h]
 ·by_cases h2:b < a<;>simp [h,h2]
theorem ZrF {l:List Int} {i:Nat} (h:∀ j,j < i→l.getD j 0=0):orL l=orL (l.drop i):=by
 induction i generalizing l with
 | zero=>rfl
 | succ i ih =>
   cases l with
   | nil=>rfl
   | cons n l =>
     have h0:=h 0 (by omega)
     simp at h0
     simp only [orL,if_pos h0,List.drop_succ_cons]
     exact ih (fun j hj=>by have:=h (j+1) (by omega);simpa using this)
theorem ZaP.spec (l:List Int) (hl:l.length≤9223372036854775807):ZaP.wp l (fun r=>r=ZaP.fn (l,())):=by
 refine Lp.iter l.length (fun i y=>y=(i:Int)∧∀ j,j < i→l.getD j 0=0) ⟨rfl,fun j hj=>absurd hj (by omega)⟩ ?_
 rintro i y hle ⟨rfl,hi⟩ R hR
 have hd:=ZrF hi
 by_cases e:i < l.length
 ·simp only [decide_eq_true (show (i:Int) < (l.length:Int) by omega),Int.toNat_natCast,cond_true]
  refine ⟨⟨by omega,by omega⟩,?_⟩
  rw [List.drop_eq_getElem_cons e] at hd
  by_cases h0:l.getD i 0=0
  ·simp only [h0,bne_self_eq_false,cond_false]
   refine ⟨⟨by omega,by omega⟩,hR e _ ⟨by omega,fun j hj=>?_⟩⟩
   by_cases ej:j=i
   ·subst ej;exact h0
   ·exact hi j (by omega)
  ·simp only [bne_iff_ne.2 h0,cond_true]
   rw [ZT e] at h0 ⊢
   simp only [orL,if_neg h0] at hd
   exact hd.symm
 ·have:i=l.length:=by omega
  subst this
  simp only [Int.lt_irrefl,decide_false,cond_false]
  rw [List.drop_length] at hd
  exact hd.symm
theorem Zk.spec (a b:List Int) (hl:a.length≤9223372036854775807):Zk.wp a b (fun r=>r=Zk.fn (a,b,())):=by
 refine Lp.iter a.length (fun i y=>y=(i:Int)∧i≤b.length∧Zcx a b=Zcx (a.drop i) (b.drop i)) ⟨rfl,Nat.zero_le _,rfl⟩ ?_
 rintro i y hle ⟨rfl,hib,hd⟩ R hR
 have hfn:Zk.fn (a,b,())=Zcx a b:=rfl
 rw [hfn]
 by_cases e:i < a.length
 ·simp only [decide_eq_true (show (i:Int) < (a.length:Int) by omega),Int.toNat_natCast,cond_true,Zu.fn]
  refine ⟨⟨by omega,by omega⟩,?_⟩
  rw [List.drop_eq_getElem_cons e] at hd
  by_cases hb:i < b.length
  ·rw [decide_eq_false (show ¬ (b.length:Int)≤(i:Int) by omega)]
   rw [List.drop_eq_getElem_cons hb] at hd
   refine ⟨⟨by omega,by omega⟩,?_⟩
   rw [ZT e,ZT hb]
   simp only [Zcx] at hd
   by_cases hc:Zgx a[i] b[i]=0
   ·rw [if_pos hc] at hd
    rw [hc,bne_self_eq_false]
    exact ⟨⟨by omega,by omega⟩,hR e _ ⟨by omega,hb,hd⟩⟩
   ·rw [if_neg hc] at hd
    rw [bne_iff_ne.2 hc]
    exact hd.symm
  ·rw [decide_eq_true (show (b.length:Int)≤(i:Int) by omega)]
   rw [List.drop_eq_nil_of_le (show b.length≤i by omega)] at hd
   exact hd.symm
 ·have:i=a.length:=by omega
  subst this
  simp only [Int.lt_irrefl,decide_false,cond_false]
  rw [List.drop_length] at hd
  by_cases hb:a.length < b.length
  ·rw [decide_eq_true (show (a.length:Int) < (b.length:Int) by omega)]
   rw [List.drop_eq_getElem_cons hb] at hd
   exact hd.symm
  ·rw [decide_eq_false (show ¬ (a.length:Int) < (b.length:Int) by omega)]
   rw [List.drop_eq_nil_of_le (show b.length≤a.length by omega)] at hd
   exact hd.symm
theorem Z4.spec (a b:Zc) (hp:Z4.pre (a,b,())):Z4.wp a b (fun r=>r=Z4.fn (a,b,())):=by
 obtain ⟨ha,hb⟩:=hp
 obtain ⟨ka,ma,ca⟩:=a
 obtain ⟨kb,mb,cb⟩:=b
 simp only [Z4.wp,Z4.fn,ZgX,ZaP.fn,Zu.fn,Zk.fn]
 rcases ha with h | h | h<;>rcases hb with h' | h' | h'<;>(simp only at h h';subst h h';simp [ZbP])
theorem ZaF.spec (c:Zc):ZaF.wp c (fun r=>r=ZaF.fn (c,())):=rfl
theorem ZZ.spec (a b:Zc) (hp:ZZ.pre (a,b,())):ZZ.wp a b (fun r=>r=ZZ.fn (a,b,())):=⟨hp,rfl⟩
theorem Zqd {α:Type} {f:α→Bool} {l:List α} {d:α} {i:Nat} (h:∀ j,j < i→f (l.getD j d)=false) (hi:i≤l.length) (k:Int):ZoN f l k=ZoN f (l.drop i) (k+i):=by
 induction i generalizing l k with
 | zero=>simp
 | succ i ih =>
   cases l with
   | nil=>simp at hi
   | cons x l =>
     have h0:=h 0 (by omega)
     simp at h0
     simp only [ZoN,h0,Bool.false_eq_true,if_false,List.drop_succ_cons]
     rw [ih (fun j hj=>by have:=h (j+1) (by omega);simpa using this) (by simpa using hi)]
     congr 1;omega
theorem Ze.spec (l:List Zc) (f:(Zc→Prop)×(Zc→Bool)) (hl:l.length≤9223372036854775807) (hp:Ze.pre (l,f,())):Ze.wp l f (fun r=>r=Ze.fn (l,f,())):=by
 refine Lp.iter l.length (fun i y=>y=(i:Int)∧∀ j,j < i→f.2 (l.getD j Zb)=false) ⟨rfl,fun j hj=>absurd hj (by omega)⟩ ?_
 rintro i y hle ⟨rfl,hi⟩ R hR
 have hd:=Zqd hi hle 0
 have hfn:Ze.fn (l,f,())=ZoN f.2 l 0:=rfl
 rw [hfn]
 by_cases e:i < l.length
 ·simp only [decide_eq_true (show (i:Int) < (l.length:Int) by omega),Int.toNat_natCast,cond_true]
  refine ⟨⟨by omega,by omega⟩,hp _ (Zl e),?_⟩
  rw [List.drop_eq_getElem_cons e] at hd
  cases h0:f.2 (l.getD i Zb) with
  | true =>
    rw [ZT e] at h0
    simp only [ZoN,h0,if_true] at hd
    show (i:Int)=_
    omega
  | false =>
    refine ⟨⟨by omega,by omega⟩,hR e _ ⟨by omega,fun j hj=>?_⟩⟩
    by_cases ej:j=i
    ·subst ej;exact h0
    ·exact hi j (by omega)
 ·have:i=l.length:=by omega
  subst this
  simp only [Int.lt_irrefl,decide_false,cond_false]
  rw [List.drop_length] at hd
  exact hd.symm
theorem ZnW {α:Type} {f:α→Bool}:∀ {l:List α} {k:Int},0≤k→decide (0≤ZoN f l k)=l.any f
 | [],k,_=>by simp [ZoN]
 | x::l,k,hk=>by
   simp only [List.any_cons]
   by_cases h:f x=true
   ·simp [ZoN,h,hk]
   ·rw [show ZoN f (x::l) k=ZoN f l (k+1) by simp [ZoN,h],ZnW (by omega)]
    simp [h]
theorem Zd.spec (l:List Zc) (f:(Zc→Prop)×(Zc→Bool)) (hp:Zd.pre (l,f,())):Zd.wp l f (fun r=>r=Zd.fn (l,f,())) :=
 ⟨hp,ZnW (Int.le_refl 0)⟩
def ZdH (l:List Int) (s:Int):List Int:=l.flatMap fun n=>Zbq (s*n)++[44]
def Zb4 (p:List Zc):List Int:=p.flatMap fun c=>Zbq c.1++[58]++Zbq c.2.1++[58]++ZdH c.2.2.1 1++Zbq c.2.2.2++[59]
abbrev Zam.fn (x:List Int×Int×Unit):ByteArray:=ZbA (ZdH x.1 x.2.1)
abbrev Zam.pre (x:List Int×Int×Unit):Prop:=x.1.length≤1048576∧Zcv x.1∧(x.2.1=1∨x.2.1=-1)
abbrev Zn.fn (x:List Zc×Unit):ByteArray:=ZbA (Zb4 x.1)
def nameOk (p:List Zc):Prop:=p.length≤1048576∧∀ c∈p,c.2.2.1.length≤4096∧Zcv c.2.2.1∧Zcv [c.1,c.2.1,c.2.2.2]
abbrev Zn.pre (x:List Zc×Unit):Prop:=nameOk x.1
def ZdI (C:List Int) (out:List Zc):Option Nat:=out.findIdx? fun d=>decide (d.1=0∧d.2.2.1=C)
def ZgC (d:Zc) (k:Int):Zc:=(d.1,d.2.1,d.2.2.1,min d.2.2.2 k)
def Za3 (out:List Zc) (c:Zc):List Zc:=if c.1≠0 then out++[c] else match ZdI c.2.2.1 out with
 | some i=>out.set i (ZgC (out.getD i Zb) c.2.2.2)
 | none=>out++[c]
def Zbf (l:List Zc):List Zc:=l.foldl Za3 []
abbrev Zas.fn (x:List Zc×Unit):List Zc:=Zbf x.1
def ZsQ (l:List Zc):Prop:=l.length≤1048576∧∀ c∈l,c.2.2.1.length≤1048576∧Zcv c.2.2.1
abbrev Zas.pre (x:List Zc×Unit):Prop:=ZsQ x.1
def ZbK (C:List Int):List Int:=C.map fun n=>-n
def Zcr (C:List Int):List Zc→Nat→Option Nat
 | [],_=>none
 | d::l,i=>match Zcr C l (i+1) with
   | some j=>some j
   | none=>if d.1=0∧d.2.2.1=C then some i else none
def ZbE (l:List Zc) (st:List Zc×(Int→Option Bool)) (ic:Nat×Zc):Option (List Zc×(Int→Option Bool)) :=
 if (st.2 (ic.1:Int)).getD false then some st else match (if ic.2.1≠0 then none else Zcr (ZbK ic.2.2.2.1) l 0) with
 | none=>some (st.1++[ic.2],st.2)
 | some j=>if ic.2.2.2.2+(l.getD j Zb).2.2.2 < 0 then none else if ic.2.2.2.2+(l.getD j Zb).2.2.2=0 then some (st.1++[(Zbm (1,0,ic.2.2.2)).1],Zc6 st.2 (j:Int) true) else some (st.1++[ic.2],st.2)
def Zcp (l:List Zc):List (Nat×Zc):=(List.range l.length).map fun i=>(i,l.getD i Zb)
def ZdT (l:List Zc):Option (List Zc):=((Zcp l).foldlM (ZbE l) ([],fun _=>none)).map (·.1)
abbrev Z3.fn (x:List Zc×Unit):List Zc×Bool:=match ZdT x.1 with
 | none=>([],true)
 | some out=>(out,false)
abbrev Z3.pre (x:List Zc×Unit):Prop:=ZaG x.1
def eqK (C:List Int) (l:List Zc):Option Int:=(l.reverse.find? fun d=>decide (d.1=1∧d.2.2.1=C)).map (·.2.2.2)
def Zdl (seen:List Zc) (c:Zc):Option (List Zc):=if c.1≠1 then some (seen++[c]) else match eqK c.2.2.1 seen with
 | some n=>if n≠c.2.2.2 then none else some (seen++[c])
 | none=>some (seen++[c])
def Zdb (l:List Zc) (out:List Zc) (c:Zc):Option (List Zc):=if c.1≠0 then some (out++[c]) else match eqK c.2.2.1 l with
 | some n=>if c.2.2.2 < n then none else some out
 | none=>match eqK (ZbK c.2.2.1) l with
   | some n=>if c.2.2.2+n < 0 then none else some out
   | none=>some (out++[c])
def ZbH (l:List Zc):Option (List Zc):=match l.foldlM Zdl [] with
 | none=>none
 | some _=>l.foldlM (Zdb l) []
def Zg7 (c:Zc):List Zc→List Zc
 | []=>[c]
 | d::l=>if ZgX d c < 0 then d::Zg7 c l else if d=c then d::l else c::d::l
def ZaX (l:List Zc):List Zc:=l.foldl (fun out c=>Zg7 c out) []
def ZaH (p:List Zc):List Zc×Bool×Int :=
 if (p.map Zbm).any (fun r=>decide (r.2 < 0)) then ([],true,0) else
 let l:=((p.map Zbm).filter fun r=>decide (r.2=0)).map (·.1)
 match (ZdT (Zbf l)).bind ZbH with
 | none=>([],true,0)
 | some out=>if l.any (fun c=>!Zf c)||decide (96 < (ZaX out).length) then ([],false,3) else (ZaX out,false,0)
abbrev Za.fn (x:List Zc×Unit):List Zc×Bool×Int:=ZaH x.1
abbrev Za.pre (x:List Zc×Unit):Prop:=ZaG x.1
theorem ZcF:∀ (u:Nat),∀ b∈Lib.decDigits u,48≤b.toNat∧b.toNat≤57:=by
 intro u
 induction u using Nat.strongRecOn with
 | _ u ih =>
   intro b hb
   rw [Lib.decDigits] at hb
   split at hb
   ·rename_i h
    simp only [List.mem_singleton] at hb
    subst hb
    simp;omega
   ·rename_i h
    rcases List.mem_append.1 hb with hb | hb
    ·exact ih (u / 10) (by omega) b hb
    ·simp only [List.mem_singleton] at hb
     subst hb
     simp;omega
def ZvJ (l:List UInt8):Nat:=l.foldl (fun a b=>a*10+(b.toNat - 48)) 0
theorem Znz (u:Nat):ZvJ (Lib.decDigits u)=u:=by
 induction u using Nat.strongRecOn with
 | _ u ih =>
   rw [Lib.decDigits]
   split
   ·rename_i h
    simp [ZvJ];omega
   ·rename_i h
    have:=ih (u / 10) (by omega)
    unfold ZvJ at this ⊢
    rw [List.foldl_append,this]
    simp;omega
theorem ZfP {u v:Nat} (h:Lib.decDigits u=Lib.decDigits v):u=v:=by rw [← Znz u,← Znz v,h]
theorem Zou (n:Int):∀ b∈Lib.itoa n,b.toNat=45∨(48≤b.toNat∧b.toNat≤57):=by
 intro b hb
 unfold Lib.itoa at hb
 split at hb
 ·rcases List.mem_cons.1 hb with rfl | hb
  ·exact .inl rfl
  ·exact .inr (ZcF _ b hb)
 ·exact .inr (ZcF _ b hb)
theorem ZrN {n m:Int} (h:Lib.itoa n=Lib.itoa m):n=m:=by
 have key:∀ u v:Nat,(45:UInt8)::Lib.decDigits u≠Lib.decDigits v:=fun u v e=>by
  have:=ZcF v 45 (by rw [← e];simp)
  simp at this
 unfold Lib.itoa at h
 split at h<;>split at h
 ·have:=ZfP (List.cons.inj h).2;omega
 ·exact absurd h (key _ _)
 ·exact absurd h.symm (key _ _)
 ·have:=ZfP h;omega
theorem ZfC {n m:Int} (h:Zbq n=Zbq m):n=m:=by
 refine ZrN (List.map_inj_right (f:=fun b:UInt8=>(b.toNat:Int)) (fun a b e=>?_) |>.1 h)
 exact UInt8.toNat_inj.1 (Int.ofNat_inj.1 e)
theorem ZbS (n:Int):∀ b∈Zbq n,b=45∨(48≤b∧b≤57):=by
 intro b hb
 simp only [Zbq,List.mem_map] at hb
 obtain ⟨c,hc,rfl⟩:=hb
 have:=Zou n c hc
 omega
theorem Zcj {n:Int} (h:-9223372036854775807≤n) (h2:n≤9223372036854775807):(Zbq n).length≤21:=by
 simp only [Zbq,List.length_map]
 exact Lib.itoa_length_le n (by omega) h2
theorem ZfT {s:Int}:∀ {a a' r r':List Int},s∉a→s∉a'→a++s::r=a'++s::r'→a=a'∧r=r'
 | [],[],r,r',_,_,h=>⟨rfl,(List.cons.inj h).2⟩
 | [],x::a',r,r',_,h2,h=>by
   have:=(List.cons.inj h).1
   exact absurd (by rw [this];simp) h2
 | x::a,[],r,r',h1,_,h=>by
   have:=(List.cons.inj h).1
   exact absurd (by rw [← this];simp) h1
 | x::a,y::a',r,r',h1,h2,h=>by
   obtain ⟨e,h⟩:=List.cons.inj h
   simp only [List.mem_cons,not_or] at h1 h2
   obtain ⟨e1,e2⟩:=ZfT h1.2 h2.2 h
   exact ⟨by rw [e,e1],e2⟩
theorem Zvk (n:Int):(44:Int)∉Zbq n:=fun h=>by have:=ZbS n _ h;omega
theorem Zd0 (n:Int) (l:List Int) (s:Int):ZdH (n::l) s=Zbq (s*n)++44::ZdH l s:=by simp [ZdH]
theorem Zkp:∀ {l l':List Int} {s s':Int} {r r':List Int},(44:Int)∉r→(44:Int)∉r'→ZdH l s++r=ZdH l' s'++r'→l.map (s*·)=l'.map (s'*·)∧r=r'
 | [],[],s,s',r,r',_,_,h=>⟨rfl,h⟩
 | [],n::l',s,s',r,r',h1,_,h=>by
   rw [Zd0] at h
   exact absurd (by rw [show r=_ from h];simp) h1
 | n::l,[],s,s',r,r',_,h2,h=>by
   rw [Zd0] at h
   exact absurd (by rw [show r'=_ from h.symm];simp) h2
 | n::l,m::l',s,s',r,r',h1,h2,h=>by
   rw [Zd0,Zd0,List.append_assoc,List.append_assoc,List.cons_append,List.cons_append] at h
   obtain ⟨e1,e2⟩:=ZfT (Zvk _) (Zvk _) h
   obtain ⟨e3,e4⟩:=Zkp h1 h2 e2
   exact ⟨by rw [List.map_cons,List.map_cons,ZfC e1,e3],e4⟩
theorem ZeA (l:List Int) (s:Int):∀ b∈ZdH l s,44≤b∧b≤57:=by
 intro b hb
 simp only [ZdH,List.mem_flatMap,List.mem_append,List.mem_singleton] at hb
 obtain ⟨n,_,hb | rfl⟩:=hb
 ·have:=ZbS _ b hb;omega
 ·omega
theorem ZlF:∀ {l l':List Int},(∀ b∈l,0≤b∧b≤255)→(∀ b∈l',0≤b∧b≤255)→l.map (fun n=>UInt8.ofNat n.toNat)=l'.map (fun n=>UInt8.ofNat n.toNat)→l=l'
 | [],[],_,_,_=>rfl
 | [],_::_,_,_,h=>by simp at h
 | _::_,[],_,_,h=>by simp at h
 | a::l,b::l',h1,h2,h=>by
   simp only [List.map_cons,List.cons.injEq] at h
   have h3:=h1 a (by simp)
   have h4:=h2 b (by simp)
   have e:=congrArg UInt8.toNat h.1
   simp at e
   have:a=b:=by omega
   rw [this,ZlF (fun c hc=>h1 c (by simp [hc])) (fun c hc=>h2 c (by simp [hc])) h.2]
theorem Zla {l l':List Int} (h1:∀ b∈l,0≤b∧b≤255) (h2:∀ b∈l',0≤b∧b≤255) (h:ZbA l=ZbA l'):l=l':=by
 refine ZlF h1 h2 ?_
 have:=congrArg (fun x:ByteArray=>x.data.toList) h
 simpa [ZbA] using this
theorem Zkk {l:List Int} (h:∀ b∈l,0≤b∧b≤255):Zc7 (ZbA l)=l:=by
 simp only [Zc7,ZbA,List.map_map]
 conv=>rhs;rw [← List.map_id l]
 refine List.map_congr_left fun b hb=>?_
 have:=h b hb
 simp;omega
theorem Ziu (l:List Int):l.map ((1:Int)*·)=l:=by
 conv=>rhs;rw [← List.map_id l]
 exact List.map_congr_left fun n _=>by simp
theorem ZtC (l:List Int):l.map ((-1:Int)*·)=ZbK l:=List.map_congr_left fun n _=>by omega
theorem Zq8 {C C':List Int} {s s':Int}:ZbA (ZdH C s)=ZbA (ZdH C' s')↔C.map (s*·)=C'.map (s'*·):=by
 have hb:∀ (l:List Int) (s:Int),∀ b∈ZdH l s,0≤b∧b≤255:=fun l s b hb=>by have:=ZeA l s b hb;omega
 constructor
 ·intro h
  have:=Zla (hb _ _) (hb _ _) h
  exact (Zkp (r:=[]) (r':=[]) (by simp) (by simp) (by simpa using this)).1
 ·intro h
  have:∀ (l:List Int) (s:Int),ZdH l s=(l.map (s*·)).flatMap fun n=>Zbq n++[44]:=fun l s=>by
   simp [ZdH,List.flatMap_map]
  rw [this,this,h]
theorem Zkf {C C':List Int}:ZbA (ZdH C 1)=ZbA (ZdH C' 1)↔C=C':=by rw [Zq8,Ziu,Ziu]
theorem Znd {C C':List Int}:ZbA (ZdH C (-1))=ZbA (ZdH C' 1)↔ZbK C=C':=by rw [Zq8,Ziu,ZtC]
theorem Zdk (c:Zc) (p:List Zc):Zb4 (c::p)=Zbq c.1++58::(Zbq c.2.1++58::((ZdH c.2.2.1 1++Zbq c.2.2.2)++59::Zb4 p)):=by
 simp [Zb4]
theorem Zk6:∀ {p q:List Zc},Zb4 p=Zb4 q→p=q
 | [],[],_=>rfl
 | [],c::q,h=>by rw [Zdk] at h;simp [Zb4] at h
 | c::p,[],h=>by rw [Zdk] at h;simp [Zb4] at h
 | c::p,d::q,h=>by
   rw [Zdk,Zdk] at h
   have n58:∀ n,(58:Int)∉Zbq n:=fun n h=>by have:=ZbS n _ h;omega
   have n59:∀ C K,(59:Int)∉ZdH C 1++Zbq K:=fun C K h=>by
    rcases List.mem_append.1 h with h | h
    ·have:=ZeA _ _ _ h;omega
    ·have:=ZbS _ _ h;omega
   obtain ⟨e1,h⟩:=ZfT (n58 _) (n58 _) h
   obtain ⟨e2,h⟩:=ZfT (n58 _) (n58 _) h
   obtain ⟨e3,h⟩:=ZfT (n59 _ _) (n59 _ _) h
   obtain ⟨e4,e5⟩:=Zkp (Zvk _) (Zvk _) e3
   rw [Ziu,Ziu] at e4
   have ih:=Zk6 h
   rw [ih,Prod.ext (ZfC e1) (Prod.ext (ZfC e2) (Prod.ext e4 (ZfC e5)))]
theorem Zh3 (p:List Zc):∀ b∈Zb4 p,0≤b∧b≤255:=by
 intro b hb
 simp only [Zb4,List.mem_flatMap,List.mem_append,List.mem_singleton] at hb
 obtain ⟨c,_,hb⟩:=hb
 rcases hb with (((((hb | rfl) | hb) | rfl) | hb) | hb) | rfl
 ·have:=ZbS _ _ hb;omega
 ·omega
 ·have:=ZbS _ _ hb;omega
 ·omega
 ·have:=ZeA _ _ _ hb;omega
 ·have:=ZbS _ _ hb;omega
 ·omega
theorem Zn7 {p q:List Zc}:ZbA (Zb4 p)=ZbA (Zb4 q)↔p=q :=
 ⟨fun h=>Zk6 (Zla (Zh3 p) (Zh3 q) h),fun h=>by rw [h]⟩
def Zam.wp (x0:List Int) (x1:Int) (Q:ByteArray→Prop):Prop:=let v2:=List.length ([(44:Int)]);Lp (σ:=Int×List Int) (fun y3 R3=>let v0:=List.getD x0 (Int.toNat y3.1) (0:Int);let v1:=List.length (y3.2++Zbq (x1*v0));cond (decide (y3.1 < ((List.length x0:Nat):Int))) (((0:Int)≤y3.1∧y3.1 < ((List.length x0:Nat):Int))∧(Zw IntKind.i64 (x1*v0)∧(Zof (x1*v0) y3.2∧((((v1+v2)*1)≤140737488355328∧(v1+v2)≤9223372036854775807)∧(Zw IntKind.i64 (y3.1+(1:Int))∧R3 ((y3.1+(1:Int)),((y3.2++Zbq (x1*v0))++[(44:Int)]))))))) (Q (ZbA y3.2))) ((0:Int),([]:List Int))
def Zn.wp (x0:List Zc) (Q:ByteArray→Prop):Prop:=let v2:=List.length ([(58:Int)]);let v8:=List.length ([(59:Int)]);Lp (σ:=Int×List Int) (fun y2 R2=>let v0:=List.getD x0 (Int.toNat y2.1) Zb;let v1:=List.length (y2.2++Zbq v0.1);let v3:=List.length (((y2.2++Zbq v0.1)++[(58:Int)])++Zbq v0.2.1);let v4:=List.length ((((y2.2++Zbq v0.1)++[(58:Int)])++Zbq v0.2.1)++[(58:Int)]);let v5:=Zam.fn (v0.2.2.1,((1:Int),()));let v6:=List.length (Zc7 v5);let v7:=List.length ((((((y2.2++Zbq v0.1)++[(58:Int)])++Zbq v0.2.1)++[(58:Int)])++Zc7 v5)++Zbq v0.2.2.2);cond (decide (y2.1 < ((List.length x0:Nat):Int))) (((0:Int)≤y2.1∧y2.1 < ((List.length x0:Nat):Int))∧(Zof v0.1 y2.2∧((((v1+v2)*1)≤140737488355328∧(v1+v2)≤9223372036854775807)∧(Zof v0.2.1 ((y2.2++Zbq v0.1)++[(58:Int)])∧((((v3+v2)*1)≤140737488355328∧(v3+v2)≤9223372036854775807)∧(Zam.pre (v0.2.2.1,((1:Int),()))∧((((v4+v6)*1)≤140737488355328∧(v4+v6)≤9223372036854775807)∧(Zof v0.2.2.2 (((((y2.2++Zbq v0.1)++[(58:Int)])++Zbq v0.2.1)++[(58:Int)])++Zc7 v5)∧((((v7+v8)*1)≤140737488355328∧(v7+v8)≤9223372036854775807)∧(Zw IntKind.i64 (y2.1+(1:Int))∧R2 ((y2.1+(1:Int)),(((((((y2.2++Zbq v0.1)++[(58:Int)])++Zbq v0.2.1)++[(58:Int)])++Zc7 v5)++Zbq v0.2.2.2)++[(59:Int)])))))))))))) (Q (ZbA y2.2))) ((0:Int),([]:List Int))
def Zas.wp (x0:List Zc) (Q:(List Zc)→Prop):Prop:=Lp (σ:=Int×(List (Zc))×(ByteArray→Option Int)) (fun y2 R2=>let v0:=List.getD x0 (Int.toNat y2.1) Zb;let v1:=Zam.fn (v0.2.2.1,((1:Int),()));let v3:=Option.getD (y2.2.2 v1) (0:Int);let v4:=List.getD y2.2.1 (Int.toNat v3) Zb;cond (decide (y2.1 < ((List.length x0:Nat):Int))) (((0:Int)≤y2.1∧y2.1 < ((List.length x0:Nat):Int))∧cond (v0.1 != (0:Int)) ((((List.length y2.2.1+List.length [v0])*48)≤140737488355328∧(List.length y2.2.1+List.length [v0])≤9223372036854775807)∧(Zw IntKind.i64 (y2.1+(1:Int))∧R2 ((y2.1+(1:Int)),((y2.2.1++[v0]),y2.2.2)))) (Zam.pre (v0.2.2.1,((1:Int),()))∧cond (Option.isSome (y2.2.2 v1)) (((0:Int)≤v3∧v3 < ((List.length y2.2.1:Nat):Int))∧(Int.toNat v3 < List.length y2.2.1∧(((0:Int)≤v3∧v3 < ((List.length y2.2.1:Nat):Int))∧(Int.toNat v3 < List.length y2.2.1∧(Zw IntKind.i64 (y2.1+(1:Int))∧R2 ((y2.1+(1:Int)),((List.set y2.2.1 (Int.toNat v3) (v4.1,(v4.2.1,(v4.2.2.1,(Min.min v4.2.2.2 v0.2.2.2))))),y2.2.2))))))) ((((List.length y2.2.1+List.length [v0])*48)≤140737488355328∧(List.length y2.2.1+List.length [v0])≤9223372036854775807)∧(Zw IntKind.i64 (y2.1+(1:Int))∧R2 ((y2.1+(1:Int)),((y2.2.1++[v0]),(Zc6 y2.2.2 v1 ((List.length y2.2.1:Nat):Int)))))))) (Q y2.2.1)) ((0:Int),(([]:List (Zc)),fun (a2:ByteArray)=>(none:Option Int)))
def Z3.wp (x0:List Zc) (Q:(List Zc)×Bool→Prop):Prop:=Lp (σ:=Int×(ByteArray→Option Int)) (fun y2 R2=>let v0:=List.getD x0 (Int.toNat y2.1) Zb;cond (decide (y2.1 < ((List.length x0:Nat):Int))) (((0:Int)≤y2.1∧y2.1 < ((List.length x0:Nat):Int))∧cond (v0.1 == (0:Int)) (Zam.pre (v0.2.2.1,((1:Int),()))∧(Zw IntKind.i64 (y2.1+(1:Int))∧R2 ((y2.1+(1:Int)),Zc6 y2.2 (Zam.fn (v0.2.2.1,((1:Int),()))) y2.1))) (Zw IntKind.i64 (y2.1+(1:Int))∧R2 ((y2.1+(1:Int)),y2.2))) (Lp (σ:=Int×(List (Zc))×(Int→Option Bool)) (fun y4 R4=>let v3:=List.getD x0 (Int.toNat y4.1) Zb;let v4:=Zam.fn (v3.2.2.1,((-(1:Int)),()));let v6:=Option.getD (y2.2 v4) (0:Int);let v7:=List.getD x0 (Int.toNat v6) Zb;let v8:=Zaq.fn (((1:Int),((0:Int),v3.2.2)),());cond (decide (y4.1 < ((List.length x0:Nat):Int))) (((0:Int)≤y4.1∧y4.1 < ((List.length x0:Nat):Int))∧cond (Option.getD (y4.2.2 y4.1) false) (Zw IntKind.i64 (y4.1+(1:Int))∧R4 ((y4.1+(1:Int)),y4.2)) (Zam.pre (v3.2.2.1,((-(1:Int)),()))∧(((!(v3.1 != (0:Int)))=true→((!(v3.1 != (0:Int)))=true∧True))∧(((v3.1 != (0:Int))=false→(!(v3.1 != (0:Int)))=true)∧cond ((v3.1 != (0:Int))||(!(Option.isSome (y2.2 v4)))) ((((List.length y4.2.1+List.length [v3])*48)≤140737488355328∧(List.length y4.2.1+List.length [v3])≤9223372036854775807)∧(Zw IntKind.i64 (y4.1+(1:Int))∧R4 ((y4.1+(1:Int)),((y4.2.1++[v3]),y4.2.2)))) (((0:Int)≤v6∧v6 < ((List.length x0:Nat):Int))∧(Zw IntKind.i64 (v3.2.2.2+v7.2.2.2)∧cond (decide ((v3.2.2.2+v7.2.2.2) < (0:Int))) (Q (([]:List (Zc)),true)) (cond ((v3.2.2.2+v7.2.2.2) == (0:Int)) (Zaq.pre (((1:Int),((0:Int),v3.2.2)),())∧((((List.length y4.2.1+List.length [v8.1])*48)≤140737488355328∧(List.length y4.2.1+List.length [v8.1])≤9223372036854775807)∧(Zw IntKind.i64 (y4.1+(1:Int))∧R4 ((y4.1+(1:Int)),((y4.2.1++[v8.1]),Zc6 y4.2.2 v6 true))))) ((((List.length y4.2.1+List.length [v3])*48)≤140737488355328∧(List.length y4.2.1+List.length [v3])≤9223372036854775807)∧(Zw IntKind.i64 (y4.1+(1:Int))∧R4 ((y4.1+(1:Int)),((y4.2.1++[v3]),y4.2.2))))))))))) (Q (y4.2.1,false))) ((0:Int),(([]:List (Zc)),fun (a4:Int)=>(none:Option Bool))))) ((0:Int),fun (a2:ByteArray)=>(none:Option Int))
def Za.wp (x0:List Zc) (Q:(List Zc)×Bool×Int→Prop):Prop:=Lp (σ:=Int×List (Zc)) (fun y2 R2=>let v0:=List.getD x0 (Int.toNat y2.1) Zb;let v1:=[(((Zaq.fn (v0,())).1).1,((((Zaq.fn (v0,())).1).2).1,((((Zaq.fn (v0,())).1).2).2)))];let v2:=Z3.fn (Zas.fn (y2.2,()),());let v14:=Zd.fn (y2.2,((fun (a9:Zc)=>True,fun (a9:Zc)=>ZaF.fn (a9,())),()));let v28:=Zd.fn (y2.2,((fun (a13:Zc)=>True,fun (a13:Zc)=>ZaF.fn (a13,())),()));let v31:=Zd.fn (y2.2,((fun (a11:Zc)=>True,fun (a11:Zc)=>ZaF.fn (a11,())),()));cond (decide (y2.1 < ((List.length x0:Nat):Int))) (((0:Int)≤y2.1∧y2.1 < ((List.length x0:Nat):Int))∧(Zaq.pre (v0,())∧cond (decide ((Zaq.fn (v0,())).2 < (0:Int))) (Q (([]:List (Zc)),(true,(0:Int)))) (cond ((Zaq.fn (v0,())).2 == (0:Int)) ((((List.length y2.2+List.length v1)*48)≤140737488355328∧(List.length y2.2+List.length v1)≤9223372036854775807)∧(Zw IntKind.i64 (y2.1+(1:Int))∧R2 ((y2.1+(1:Int)),(y2.2++v1)))) (Zw IntKind.i64 (y2.1+(1:Int))∧R2 ((y2.1+(1:Int)),y2.2))))) (Zd.pre (y2.2,((fun (a4:Zc)=>True,fun (a4:Zc)=>ZaF.fn (a4,())),()))∧(Zas.pre (y2.2,())∧(Z3.pre (Zas.fn (y2.2,()),())∧cond v2.2 (Q (([]:List (Zc)),(true,(0:Int)))) (Lp (σ:=Int×(ByteArray→Option Int)) (fun y4 R4=>let v3:=List.getD v2.1 (Int.toNat y4.1) Zb;let v4:=Zam.fn (v3.2.2.1,((1:Int),()));let v5:=Option.isSome (y4.2 v4);cond (decide (y4.1 < ((List.length v2.1:Nat):Int))) (((0:Int)≤y4.1∧y4.1 < ((List.length v2.1:Nat):Int))∧cond (v3.1 != (1:Int)) (Zw IntKind.i64 (y4.1+(1:Int))∧R4 ((y4.1+(1:Int)),y4.2)) (Zam.pre (v3.2.2.1,((1:Int),()))∧((v5=true→(v5=true∧True))∧((v5=true→(v5=true∧True))∧((v5=true→(v5=true∧(v5=true∧True)))∧((v5=true→v5=true)∧cond (v5&&((Option.getD (y4.2 v4) (0:Int)) != v3.2.2.2)) (Q (([]:List (Zc)),(true,(0:Int)))) (Zw IntKind.i64 (y4.1+(1:Int))∧R4 ((y4.1+(1:Int)),Zc6 y4.2 v4 v3.2.2.2)))))))) (Lp (σ:=Int×List (Zc)) (fun y6 R6=>let v7:=List.getD v2.1 (Int.toNat y6.1) Zb;let v8:=Zam.fn (v7.2.2.1,((1:Int),()));let v11:=Zam.fn (v7.2.2.1,((-(1:Int)),()));let v13:=Option.getD (y4.2 v11) (0:Int);cond (decide (y6.1 < ((List.length v2.1:Nat):Int))) (((0:Int)≤y6.1∧y6.1 < ((List.length v2.1:Nat):Int))∧cond (v7.1 == (0:Int)) (Zam.pre (v7.2.2.1,((1:Int),()))∧cond (Option.isSome (y4.2 v8)) (cond (decide (v7.2.2.2 < (Option.getD (y4.2 v8) (0:Int)))) (Q (([]:List (Zc)),(true,(0:Int)))) (Zw IntKind.i64 (y6.1+(1:Int))∧R6 ((y6.1+(1:Int)),y6.2))) (Zam.pre (v7.2.2.1,((-(1:Int)),()))∧cond (Option.isSome (y4.2 v11)) (Zw IntKind.i64 (v7.2.2.2+v13)∧cond (decide ((v7.2.2.2+v13) < (0:Int))) (Q (([]:List (Zc)),(true,(0:Int)))) (Zw IntKind.i64 (y6.1+(1:Int))∧R6 ((y6.1+(1:Int)),y6.2))) ((((List.length y6.2+List.length [v7])*48)≤140737488355328∧(List.length y6.2+List.length [v7])≤9223372036854775807)∧(Zw IntKind.i64 (y6.1+(1:Int))∧R6 ((y6.1+(1:Int)),(y6.2++[v7])))))) ((((List.length y6.2+List.length [v7])*48)≤140737488355328∧(List.length y6.2+List.length [v7])≤9223372036854775807)∧(Zw IntKind.i64 (y6.1+(1:Int))∧R6 ((y6.1+(1:Int)),(y6.2++[v7]))))) (Zpb (fun (a8:Zc)=>fun (a9:Zc)=>Z4.pre (a8,(a9,()))) y6.2∧∀ b8:List (Zc),((List.Perm y6.2 b8∧Zen (fun (a9:Zc)=>fun (a10:Zc)=>Z4.fn (a9,(a10,()))) b8)→cond (decide (((List.length b8:Nat):Int) < (2:Int))) (((!v14)=true→((!v14)=true∧True))∧(((!v14)=true→((!v14)=true∧True))∧((v14=false→(!v14)=true)∧cond (v14||decide ((96:Int) < ((List.length b8:Nat):Int))) (Q (([]:List (Zc)),(false,(3:Int)))) (Q (b8,(false,(0:Int))))))) (Lp (σ:=Int) (fun y9 R9=>let v15:=Int.toNat (y9 - (1:Int));let v16:=List.getD b8 (Int.toNat y9) Zb;let v17:=List.getD b8 v15 Zb;cond (decide (y9 < ((List.length b8:Nat):Int))) (((0:Int)≤y9∧y9 < ((List.length b8:Nat):Int))∧(Int.toNat y9 < List.length b8∧(Zw IntKind.i64 (y9 - (1:Int))∧(((0:Int)≤(y9 - (1:Int))∧(y9 - (1:Int)) < ((List.length b8:Nat):Int))∧(v15 < List.length b8∧(ZZ.pre (v16,(v17,()))∧cond (ZZ.fn (v16,(v17,()))) (((0:Int)≤y9∧y9≤((List.length b8:Nat):Int))∧Lp (σ:=Int×Int×List (Zc)) (fun y11 R11=>let v19:=Int.toNat (y11.1 - (1:Int));let v20:=List.getD y11.2.2 ((0+Int.toNat y9)+Int.toNat y11.1) Zb;let v21:=List.getD y11.2.2 ((0+Int.toNat y9)+v19) Zb;let v24:=List.take (0+Int.toNat y11.2.1) y11.2.2;let v25:=List.replicate (List.length y11.2.2 - Int.toNat y11.2.1) Zb;let v26:=List.drop ((0+Int.toNat y11.2.1)+(List.length y11.2.2 - Int.toNat y11.2.1)) y11.2.2;let v27:=List.length ((v24++v25)++v26);let v30:=List.take (Int.toNat y11.2.1) (List.drop 0 ((v24++v25)++v26));cond (decide (y11.1 < (((List.length b8 - Int.toNat y9):Nat):Int))) (((0:Int)≤y11.1∧(y11.1 < (((List.length b8 - Int.toNat y9):Nat):Int)∧((0+Int.toNat y9)+(List.length b8 - Int.toNat y9))≤List.length y11.2.2))∧(((0+Int.toNat y9)+Int.toNat y11.1) < List.length y11.2.2∧(Zw IntKind.i64 (y11.1 - (1:Int))∧(((0:Int)≤(y11.1 - (1:Int))∧((y11.1 - (1:Int)) < (((List.length b8 - Int.toNat y9):Nat):Int)∧((0+Int.toNat y9)+(List.length b8 - Int.toNat y9))≤List.length y11.2.2))∧(((0+Int.toNat y9)+v19) < List.length y11.2.2∧(ZZ.pre (v20,(v21,()))∧cond (!(ZZ.fn (v20,(v21,())))) (((0:Int)≤y11.1∧(y11.1 < (((List.length b8 - Int.toNat y9):Nat):Int)∧((0+Int.toNat y9)+(List.length b8 - Int.toNat y9))≤List.length y11.2.2))∧(((0+Int.toNat y9)+Int.toNat y11.1) < List.length y11.2.2∧(((0:Int)≤y11.2.1∧y11.2.1 < ((List.length y11.2.2:Nat):Int))∧(Int.toNat y11.2.1 < List.length y11.2.2∧(Zw IntKind.i64 (y11.2.1+(1:Int))∧(Zw IntKind.i64 (y11.1+(1:Int))∧R11 ((y11.1+(1:Int)),((y11.2.1+(1:Int)),(List.set y11.2.2 (Int.toNat y11.2.1) v20))))))))) (Zw IntKind.i64 (y11.1+(1:Int))∧R11 ((y11.1+(1:Int)),y11.2)))))))) (((0:Int)≤y11.2.1∧y11.2.1≤((List.length y11.2.2:Nat):Int))∧(((0+Int.toNat y11.2.1)+(List.length y11.2.2 - Int.toNat y11.2.1))≤List.length y11.2.2∧(((0:Int)≤y11.2.1∧y11.2.1≤((v27:Nat):Int))∧((0+Int.toNat y11.2.1)≤v27∧(((!v28)=true→((!v28)=true∧True))∧(((!v28)=true→((!v28)=true∧True))∧((v28=false→(!v28)=true)∧cond (v28||decide ((96:Int) < ((List.length v30:Nat):Int))) (Q (([]:List (Zc)),(false,(3:Int)))) (Q (v30,(false,(0:Int)))))))))))) ((1:Int),(y9,b8))) (Zw IntKind.i64 (y9+(1:Int))∧R9 (y9+(1:Int))))))))) (((!v31)=true→((!v31)=true∧True))∧(((!v31)=true→((!v31)=true∧True))∧((v31=false→(!v31)=true)∧cond (v31||decide ((96:Int) < ((List.length b8:Nat):Int))) (Q (([]:List (Zc)),(false,(3:Int)))) (Q (b8,(false,(0:Int)))))))) (1:Int))))) ((0:Int),([]:List (Zc))))) ((0:Int),fun (a4:ByteArray)=>(none:Option Int))))))) ((0:Int),([]:List (Zc)))
theorem Zoz (l:List Int) (s:Int):∀ b∈ZdH l s,0≤b∧b≤255:=fun b hb=>by have:=ZeA l s b hb;omega
theorem ZmN (l:List Int) (s:Int):Zc7 (ZbA (ZdH l s))=ZdH l s:=Zkk (Zoz l s)
theorem Zqn (l:List Int) (n s:Int):ZdH (l++[n]) s=ZdH l s++Zbq (s*n)++[44]:=by simp [ZdH]
theorem Zoi (p:List Zc) (c:Zc):Zb4 (p++[c])=Zb4 p++Zbq c.1++[58]++Zbq c.2.1++[58]++ZdH c.2.2.1 1++Zbq c.2.2.2++[59]:=by simp [Zb4]
theorem Zg6 {s:Int} (hs:s=1∨s=-1):∀ {l:List Int},Zcv l→(ZdH l s).length≤22*l.length
 | [],_=>by simp [ZdH]
 | n::l,h=>by
   rw [Zd0]
   have h1:=Zg6 hs (l:=l) fun m hm=>h m (by simp [hm])
   have h2:=h n (by simp)
   have h3:(Zbq (s*n)).length≤21:=by rcases hs with rfl | rfl<;>exact Zcj (by omega) (by omega)
   simp only [List.length_append,List.length_cons];omega
theorem ZkW:∀ {p:List Zc},(∀ c∈p,c.2.2.1.length≤4096∧Zcv c.2.2.1∧Zcv [c.1,c.2.1,c.2.2.2])→(Zb4 p).length≤90200*p.length
 | [],_=>by simp [Zb4]
 | c::p,h=>by
   rw [Zdk]
   have h1:=ZkW (p:=p) fun m hm=>h m (by simp [hm])
   obtain ⟨h2,h3,h4⟩:=h c (by simp)
   have h5:=Zg6 (.inl rfl) h3
   have a1:=Zcj (h4 c.1 (by simp)).1 (h4 c.1 (by simp)).2
   have a2:=Zcj (h4 c.2.1 (by simp)).1 (h4 c.2.1 (by simp)).2
   have a3:=Zcj (h4 c.2.2.2 (by simp)).1 (h4 c.2.2.2 (by simp)).2
   simp only [List.length_append,List.length_cons];omega
theorem ZoO {l:List Int} (i:Nat) (h:Zcv l):Zcv (l.take i):=fun n hn=>h n (List.mem_of_mem_take hn)
theorem Zam.spec (l:List Int) (s:Int) (hp:Zam.pre (l,s,())):Zam.wp l s (fun r=>r=Zam.fn (l,s,())):=by
 obtain ⟨hl,hi,hs⟩:=hp
 simp only at hl hi hs
 have hfn:Zam.fn (l,s,())=ZbA (ZdH l s):=rfl
 simp only [Zam.wp,hfn]
 refine Lp.iter l.length (fun i y=>y=((i:Int),ZdH (l.take i) s)) (by simp [ZdH]) ?_
 rintro i y hle rfl R hR
 by_cases e:i < l.length
 ·have hk:=Zg6 hs (ZoO i hi)
  have hn:=hi _ (Zl (d:=0) e)
  have hlt:(l.take i).length≤1048576:=by simp;omega
  have h3:(Zbq (s*l.getD i 0)).length≤21:=by rcases hs with rfl | rfl<;>exact Zcj (by omega) (by omega)
  have hf:Zw .i64 (s*l.getD i 0):=by
   show -9223372036854775808≤s*l.getD i 0∧s*l.getD i 0≤9223372036854775807
   rcases hs with rfl | rfl<;>omega
  simp only [decide_eq_true (show (i:Int) < (l.length:Int) by omega),Int.toNat_natCast,cond_true]
  refine ⟨⟨by omega,by omega⟩,hf,⟨hf,by omega⟩,⟨?_,?_⟩,⟨by omega,by omega⟩,hR e _ ?_⟩
  ·simp only [List.length_append,List.length_cons,List.length_nil];omega
  ·simp only [List.length_append,List.length_cons,List.length_nil];omega
  ·rw [ZH 0 e,Zqn]
   rfl
 ·have:i=l.length:=by omega
  subst this
  simp only [Int.lt_irrefl,decide_false,cond_false,List.take_length]
theorem Zn.spec (p:List Zc) (hp:Zn.pre (p,())):Zn.wp p (fun r=>r=Zn.fn (p,())):=by
 obtain ⟨hl,hi⟩:=hp
 simp only at hl hi
 have hfn:Zn.fn (p,())=ZbA (Zb4 p):=rfl
 simp only [Zn.wp,hfn,Zam.fn,ZmN]
 refine Lp.iter p.length (fun i y=>y=((i:Int),Zb4 (p.take i))) (by simp [Zb4]) ?_
 rintro i y hle rfl R hR
 by_cases e:i < p.length
 ·have hk:=ZkW (p:=p.take i) fun c hc=>hi c (List.mem_of_mem_take hc)
  obtain ⟨h2,h3,h4⟩:=hi _ (Zl (d:=Zb) e)
  have h5:=Zg6 (.inl rfl) h3
  have b1:=h4 (p.getD i Zb).1 (by simp)
  have b2:=h4 (p.getD i Zb).2.1 (by simp)
  have b3:=h4 (p.getD i Zb).2.2.2 (by simp)
  have a1:=Zcj b1.1 b1.2
  have a2:=Zcj b2.1 b2.2
  have a3:=Zcj b3.1 b3.2
  have hlt:(p.take i).length≤1048576:=by simp;omega
  have hf:∀ n:Int,-9223372036854775807≤n∧n≤9223372036854775807→Zw .i64 n:=fun n h=>⟨by omega,h.2⟩
  simp only [decide_eq_true (show (i:Int) < (p.length:Int) by omega),Int.toNat_natCast,cond_true]
  generalize hc:p.getD i Zb=c at *
  generalize hA:Zb4 (p.take i)=A at *
  have g1:(A++Zbq c.1).length≤A.length+21:=by simp only [List.length_append];omega
  refine ⟨⟨by omega,by omega⟩,⟨hf _ b1,by omega⟩,⟨?_,?_⟩,⟨hf _ b2,?_⟩,⟨?_,?_⟩,⟨(by omega:c.2.2.1.length≤1048576),h3,.inl rfl⟩,⟨?_,?_⟩,⟨hf _ b3,?_⟩,⟨?_,?_⟩,⟨by omega,by omega⟩,hR e _ ?_⟩
  any_goals (simp only [List.length_append,List.length_cons,List.length_nil];omega)
  rw [ZH Zb e,Zoi,hA,hc]
  rfl
 ·have:i=p.length:=by omega
  subst this
  simp only [Int.lt_irrefl,decide_false,cond_false,List.take_length]
theorem ZmD {C:List Int} {out:List Zc} {c:Zc} (h:c.1≠0):ZdI C (out++[c])=ZdI C out:=by
 simp only [ZdI,List.findIdx?_append]
 simp [h]
theorem Zon {C:List Int} {out:List Zc} {c:Zc} (h:c.1=0):ZdI C (out++[c])=(ZdI C out).or (if C=c.2.2.1 then some out.length else none):=by
 simp only [ZdI,List.findIdx?_append]
 by_cases h2:C=c.2.2.1
 ·simp [h,h2]
 ·rw [if_neg h2];simp [h,show ¬ c.2.2.1=C from fun e=>h2 e.symm]
theorem Zk2 (C:List Int) (out:List Zc):ZdI C out=(out.map fun d=>(d.1,d.2.2.1)).findIdx? fun d=>decide (d.1=0∧d.2=C):=by
 simp only [ZdI,List.findIdx?_map]
 rfl
theorem Zpe {C:List Int} {out:List Zc} {i:Nat} {x:Zc} (h:x.1=(out.getD i Zb).1) (h2:x.2.2.1=(out.getD i Zb).2.2.1):ZdI C (out.set i x)=ZdI C out:=by
 by_cases e:i < out.length
 ·rw [Zk2,Zk2,List.map_set,h,h2,ZT e]
  congr 1
  have:((out[i].1,out[i].2.2.1):Int×List Int)=(out.map fun d=>(d.1,d.2.2.1))[i]'(by simpa using e):=by simp
  rw [this,List.set_getElem_self]
 ·rw [List.set_eq_of_length_le (by omega)]
theorem Zf7 {C:List Int} {out:List Zc} {i:Nat} (h:ZdI C out=some i):∃ hi:i < out.length,out[i].1=0∧out[i].2.2.1=C:=by
 obtain ⟨hi,h1,_⟩:=List.findIdx?_eq_some_iff_getElem.1 h
 exact ⟨hi,by simpa using h1⟩
theorem ZjQ (out:List Zc) (c:Zc):(Za3 out c).length≤out.length+1:=by
 unfold Za3
 split
 ·simp
 ·split<;>simp
theorem Zgf:∀ (l out:List Zc),(l.foldl Za3 out).length≤out.length+l.length
 | [],out=>by simp
 | c::l,out=>by
   have:=Zgf l (Za3 out c)
   have:=ZjQ out c
   simp only [List.foldl_cons,List.length_cons];omega
def Zun (out:List Zc) (m:ByteArray→Option Int):Prop:=∀ C,m (ZbA (ZdH C 1))=(ZdI C out).map fun (i:Nat)=>(i:Int)
theorem Zas.spec (l:List Zc) (hp:Zas.pre (l,())):Zas.wp l (fun r=>r=Zas.fn (l,())):=by
 obtain ⟨hl,hi⟩:=hp
 simp only at hl hi
 have hfn:Zas.fn (l,())=Zbf l:=rfl
 simp only [Zas.wp,hfn,Zam.fn]
 refine Lp.iter l.length (fun i y=>y.1=(i:Int)∧y.2.1=Zbf (l.take i)∧Zun y.2.1 y.2.2) ⟨rfl,by simp [Zbf],fun C=>by simp [ZdI]⟩ ?_
 rintro i ⟨y,out,m⟩ hle ⟨hy,ho,hm⟩ R hR
 simp only at hy ho hm
 subst hy
 by_cases e:i < l.length
 ·have hlen:=Zgf (l.take i) []
  have hlt:(l.take i).length≤1048576:=by simp;omega
  rw [show (l.take i).foldl Za3 []=out from ho.symm] at hlen
  simp only [List.length_nil] at hlen
  have hst:Zbf (l.take (i+1))=Za3 out (l.getD i Zb):=by
   rw [ZH Zb e,Zbf,List.foldl_append,ho];rfl
  obtain ⟨hc1,hc2⟩:=hi _ (Zl (d:=Zb) e)
  simp only [decide_eq_true (show (i:Int) < (l.length:Int) by omega),Int.toNat_natCast,cond_true]
  generalize l.getD i Zb=c at *
  refine ⟨⟨by omega,by omega⟩,?_⟩
  by_cases hk:c.1=0
  ·rw [hk]
   simp only [bne_self_eq_false,cond_false]
   refine ⟨⟨hc1,hc2,.inl rfl⟩,?_⟩
   have hmC:=hm c.2.2.1
   cases hg:ZdI c.2.2.1 out with
   | none =>
     rw [hg] at hmC
     simp only [hmC,Option.map_none,Option.isSome_none,cond_false]
     refine ⟨⟨by simp;omega,by simp;omega⟩,⟨by omega,by omega⟩,hR e _ ⟨by simp,?_,?_⟩⟩
     ·simp only [hst,Za3,hk,hg];rfl
     ·intro C
      simp only [Zc6,Zkf]
      rw [Zon hk]
      by_cases hC:C=c.2.2.1
      ·rw [if_pos hC,if_pos hC,hC,hg];rfl
      ·rw [if_neg hC,if_neg hC,hm C];simp
   | some j =>
     rw [hg] at hmC
     obtain ⟨hj,h1,h2⟩:=Zf7 hg
     simp only [hmC,Option.map_some,Option.isSome_some,cond_true,Option.getD_some,Int.toNat_natCast]
     have hgj:=ZT (d:=Zb) hj
     refine ⟨⟨by omega,by omega⟩,hj,⟨by omega,by omega⟩,hj,⟨by omega,by omega⟩,hR e _ ⟨by simp,?_,?_⟩⟩
     ·simp only [hst,Za3,hk,hg];rfl
     ·intro C
      exact (hm C).trans (congrArg _ (Zpe (C:=C) (out:=out) (i:=j) (x:=ZgC (out.getD j Zb) c.2.2.2) rfl rfl).symm)
  ·rw [bne_iff_ne.2 hk]
   simp only [cond_true]
   refine ⟨⟨by simp;omega,by simp;omega⟩,⟨by omega,by omega⟩,hR e _ ⟨by simp,?_,?_⟩⟩
   ·simp only [hst,Za3,if_pos hk]
   ·intro C
    exact (hm C).trans (congrArg _ (ZmD hk).symm)
 ·have:i=l.length:=by omega
  subst this
  simp only [Int.lt_irrefl,decide_false,cond_false,ho,List.take_length]
theorem Ze3 (C:List Int) (c:Zc):∀ (l:List Zc) (k:Nat),Zcr C (l++[c]) k=if c.1=0∧c.2.2.1=C then some (k+l.length) else Zcr C l k
 | [],k=>by
   simp only [List.nil_append,Zcr,List.length_nil,Nat.add_zero]
 | d::l,k=>by
   simp only [List.cons_append,Zcr,Ze3 C c l (k+1),List.length_cons]
   by_cases h:c.1=0∧c.2.2.1=C
   ·simp only [if_pos h];congr 1;omega
   ·simp only [if_neg h]
theorem Zfg {C:List Int}:∀ {l:List Zc} {k j:Nat},Zcr C l k=some j→k≤j∧∃ h:j - k < l.length,l[j - k].1=0∧l[j - k].2.2.1=C
 | [],k,j,h=>by cases h
 | d::l,k,j,h=>by
   simp only [Zcr] at h
   cases h1:Zcr C l (k+1) with
   | some i =>
     rw [h1] at h
     cases h
     obtain ⟨h2,h3,h4⟩:=Zfg h1
     have e:j - k=(j - (k+1))+1:=by omega
     refine ⟨by omega,by simp;omega,?_⟩
     simp only [e,List.getElem_cons_succ]
     exact h4
   | none =>
     rw [h1] at h
     simp only at h
     split at h
     ·rename_i h2
      cases h
      refine ⟨Nat.le_refl _,by simp,?_⟩
      simp only [Nat.sub_self,List.getElem_cons_zero]
      exact h2
     ·cases h
theorem ZlO {l:List Zc} {st st':List Zc×(Int→Option Bool)} {ic:Nat×Zc} (h:ZbE l st ic=some st'):st'.1.length≤st.1.length+1:=by
 unfold ZbE at h
 split at h
 ·cases h;omega
 ·split at h
  ·cases h;simp
  ·split at h
   ·cases h
   ·split at h<;>(cases h;simp)
theorem Zhj {l:List Zc}:∀ {m:List (Nat×Zc)} {st st':List Zc×(Int→Option Bool)},m.foldlM (ZbE l) st=some st'→st'.1.length≤st.1.length+m.length
 | [],st,st',h=>by cases h;simp
 | x::m,st,st',h=>by
   simp only [List.foldlM_cons,Option.bind_eq_bind,Option.bind_eq_some_iff] at h
   obtain ⟨s,h1,h2⟩:=h
   have:=ZlO h1
   have:=Zhj h2
   simp only [List.length_cons];omega
theorem ZbI (l:List Zc):(Zcp l).length=l.length:=by simp [Zcp]
theorem ZgF {l:List Zc} {i:Nat} (h:i < l.length):(Zcp l).getD i (0,Zb)=(i,l.getD i Zb):=by
 rw [ZT (by rw [ZbI];exact h)]
 simp [Zcp]
theorem Zco {l:Lin} (h:linB l):Zcv l.1:=fun n hn=>by have:=h.2.1 n hn;unfold ZeP at this;omega
theorem Z3.spec (l:List Zc) (hp:Z3.pre (l,())):Z3.wp l (fun r=>r=Z3.fn (l,())):=by
 obtain ⟨hl,hi⟩:=hp
 simp only at hl hi
 simp only [Z3.wp,Zam.fn]
 refine Lp.iter l.length (fun i y=>y.1=(i:Int)∧∀ C,y.2 (ZbA (ZdH C 1))=(Zcr C (l.take i) 0).map fun (i:Nat)=>(i:Int)) ⟨rfl,fun C=>rfl⟩ ?_
 rintro i ⟨y,m⟩ hle ⟨hy,hm⟩ R hR
 simp only at hy hm
 subst hy
 by_cases e:i < l.length
 ·obtain ⟨hk0,hb⟩:=hi _ (Zl (d:=Zb) e)
  simp only [decide_eq_true (show (i:Int) < (l.length:Int) by omega),Int.toNat_natCast,cond_true]
  refine ⟨⟨by omega,by omega⟩,?_⟩
  have hts:=ZH Zb e
  generalize l.getD i Zb=c at *
  by_cases hk:c.1=0
  ·simp only [hk,beq_self_eq_true,cond_true]
   refine ⟨⟨hb.1,Zco hb,.inl rfl⟩,⟨by omega,by omega⟩,hR e _ ⟨rfl,fun C=>?_⟩⟩
   rw [hts,Ze3]
   simp only [Zc6,Zkf]
   by_cases hC:C=c.2.2.1
   ·rw [if_pos hC,if_pos ⟨hk,hC.symm⟩];simp;omega
   ·rw [if_neg hC,if_neg (fun h=>hC h.2.symm)];exact hm C
  ·rw [beq_eq_false_iff_ne.2 hk]
   simp only [cond_false]
   refine ⟨⟨by omega,by omega⟩,hR e _ ⟨rfl,fun C=>?_⟩⟩
   rw [hts,Ze3,if_neg (fun h=>hk h.1)]
   exact hm C
 clear hR
 have hil:i=l.length:=by omega
 subst hil
 simp only [Int.lt_irrefl,decide_false,cond_false]
 rw [List.take_length] at hm
 have hfn:Z3.fn (l,())=(match ((Zcp l).foldlM (ZbE l) ([],fun _=>none)).map (·.1) with | none=>([],true) | some out=>(out,false)):=rfl
 refine Lp.foldO (Zcp l) (0,Zb) (ZbE l) ([],fun _=>none) (by rw [ZbI];omega) ?_ ?_
 ·rintro i ⟨out,gone⟩ R e _ hf ht hR1 hR2
  rw [ZbI] at e
  rw [ZgF e] at hR1 hR2
  have hlen:=Zhj ht
  simp only [List.length_nil,List.length_take,ZbI] at hlen
  obtain ⟨hk0,hb⟩:=hi _ (Zl (d:=Zb) e)
  simp only [decide_eq_true (show (i:Int) < (l.length:Int) by omega),Int.toNat_natCast,cond_true]
  refine ⟨⟨by omega,by omega⟩,?_⟩
  have hat:∀ j,j < l.length→l.getD j Zb∈l:=fun j hj=>Zl hj
  simp only [ZbE] at hR1 hR2
  by_cases hg:(gone (i:Int)).getD false=true
  ·simp only [hg,cond_true,if_true] at hR1 ⊢
   exact ⟨hf,hR1 _ rfl⟩
  rw [Bool.not_eq_true] at hg
  simp only [hg,cond_false,Bool.false_eq_true,if_false] at hR1 hR2 ⊢
  refine ⟨⟨hb.1,Zco hb,.inr rfl⟩,fun h=>⟨h,trivial⟩,fun h=>by rw [h];rfl,?_⟩
  have hw:m (ZbA (ZdH (l.getD i Zb).2.2.1 (-1)))=(Zcr (ZbK (l.getD i Zb).2.2.1) l 0).map fun (i:Nat)=>(i:Int):=by
   rw [← hm,Znd.2 rfl]
  simp only [hw]
  by_cases hk:(l.getD i Zb).1=0
  ·simp only [hk,bne_self_eq_false,Bool.false_or,ne_eq,not_true_eq_false,if_false] at hR1 hR2 ⊢
   cases hj:Zcr (ZbK (l.getD i Zb).2.2.1) l 0 with
   | none =>
     rw [hj] at hR1
     simp only [Option.map_none,Option.isSome_none,Bool.not_false,cond_true]
     exact ⟨⟨by simp;omega,by simp;omega⟩,hf,hR1 _ rfl⟩
   | some j =>
     rw [hj] at hR1 hR2
     obtain ⟨_,hj1,hj2,hj3⟩:=Zfg hj
     simp only [Nat.sub_zero] at hj1 hj2 hj3
     obtain ⟨_,hb'⟩:=hi _ (hat j hj1)
     have q1:=hb.2.2
     have q2:=hb'.2.2
     unfold ZeP at q1 q2
     simp only [Option.map_some,Option.isSome_some,Bool.not_true,cond_false,Option.getD_some,Int.toNat_natCast] at hR1 hR2 ⊢
     refine ⟨⟨by omega,by omega⟩,⟨by omega,by omega⟩,?_⟩
     by_cases h1:(l.getD i Zb).2.2.2+(l.getD j Zb).2.2.2 < 0
     ·simp only [decide_eq_true h1,cond_true]
      rw [hfn,hR2 (by rw [if_pos h1])]
      rfl
     ·simp only [decide_eq_false h1,cond_false]
      rw [if_neg h1] at hR1
      by_cases h2:(l.getD i Zb).2.2.2+(l.getD j Zb).2.2.2=0
      ·rw [if_pos h2] at hR1
       simp only [h2,beq_self_eq_true,cond_true]
       exact ⟨⟨.inr (.inl rfl),hb⟩,⟨by simp;omega,by simp;omega⟩,hf,hR1 _ rfl⟩
      ·rw [if_neg h2] at hR1
       rw [beq_eq_false_iff_ne.2 h2]
       simp only [cond_false]
       exact ⟨⟨by simp;omega,by simp;omega⟩,hf,hR1 _ rfl⟩
  ·simp only [bne_iff_ne.2 hk,Bool.true_or,cond_true,ne_eq,hk,not_false_eq_true,if_true] at hR1 ⊢
   exact ⟨⟨by simp;omega,by simp;omega⟩,hf,hR1 _ rfl⟩
 ·rintro ⟨out,gone⟩ R ht
  rw [ZbI]
  simp only [Int.lt_irrefl,decide_false,cond_false]
  rw [hfn,ht]
  rfl
def ZfF {α:Type} (f:α→α→Int):Prop:=(∀ x y,f x y=-f y x)∧∀ x y z,f x y≤0→f y z≤0→f x z≤0∧(f x z=0→f x y=0∧f y z=0)
theorem ZfF.zero {α:Type} {f:α→α→Int} (h:ZfF f) {x y z:α} (h1:f x y=0) (h2:f y z=0):f x z=0:=by
 have a:=(h.2 x y z (by omega) (by omega)).1
 have b:=(h.2 z y x (by have:=h.1 z y;omega) (by have:=h.1 y x;omega)).1
 have:=h.1 x z
 omega
theorem ZfF.lex {α β:Type} {f:α→α→Int} {g:β→β→Int} (hf:ZfF f) (hg:ZfF g):ZfF fun x y:α×β=>if f x.1 y.1=0 then g x.2 y.2 else f x.1 y.1:=by
 refine ⟨fun x y=>?_,fun x y z=>?_⟩
 ·have:=hf.1 x.1 y.1
  have:=hg.1 x.2 y.2
  simp only
  split<;>split<;>omega
 ·have h1:=hf.2 x.1 y.1 z.1
  have h2:=hg.2 x.2 y.2 z.2
  have h3:=@ZfF.zero _ _ hf x.1 y.1 z.1
  simp only
  intro ha hb
  split at ha<;>split at hb<;>split<;>(try split)<;>(try split)<;>omega
theorem ZfF.comap {α β:Type} {f:α→α→Int} (hf:ZfF f) (g:β→α):ZfF fun x y=>f (g x) (g y):=⟨fun x y=>hf.1 _ _,fun x y z=>hf.2 _ _ _⟩
theorem Zdg:ZfF Zgx:=by
 refine ⟨fun x y=>?_,fun x y z=>?_⟩
 ·unfold Zgx;repeat' split
  all_goals omega
 ·unfold Zgx;repeat' split
  all_goals omega
theorem ZlG:∀ a b:List Int,Zcx a b=-Zcx b a
 | [],[]=>rfl
 | [],_::_=>rfl
 | _::_,[]=>rfl
 | x::a,y::b=>by
   have h1:=Zdg.1 x y
   have h2:=ZlG a b
   simp only [Zcx]
   split<;>split<;>omega
theorem ZiN:∀ a b c:List Int,Zcx a b≤0→Zcx b c≤0→Zcx a c≤0∧(Zcx a c=0→Zcx a b=0∧Zcx b c=0)
 | [],[],[]=>by simp [Zcx]
 | [],[],_::_=>by simp [Zcx]
 | [],_::_,[]=>by simp [Zcx]
 | [],_::_,_::_=>by simp [Zcx]
 | _::_,[],_=>by simp [Zcx]
 | _::_,_::_,[]=>by simp [Zcx]
 | x::a,y::b,z::c=>by
   have h1:=Zdg.2 x y z
   have h2:=ZiN a b c
   have h3:=@ZfF.zero _ _ Zdg x y z
   simp only [Zcx]
   intro ha hb
   split at ha<;>split at hb<;>split<;>(try split)<;>(try split)<;>omega
theorem Zpr:ZfF Zcx:=⟨ZlG,ZiN⟩
theorem ZkQ {a b:Int} (h:Zgx a b=0):a=b:=by
 unfold Zgx at h
 split at h
 ·omega
 ·split at h<;>omega
theorem ZpG:∀ {a b:List Int},Zcx a b=0→a=b
 | [],[],_=>rfl
 | [],_::_,h=>by simp [Zcx] at h
 | _::_,[],h=>by simp [Zcx] at h
 | x::a,y::b,h=>by
   simp only [Zcx] at h
   split at h
   ·rename_i h1
    rw [ZkQ h1,ZpG h]
   ·rename_i h1;exact absurd h h1
theorem Zg4 (a b:Zc):ZgX a b=if Zgx (ZbP a.1) (ZbP b.1)=0 then (if Zgx a.2.1 b.2.1=0 then (if Zcx a.2.2.1 b.2.2.1=0 then Zgx a.2.2.2 b.2.2.2 else Zcx a.2.2.1 b.2.2.1) else Zgx a.2.1 b.2.1) else Zgx (ZbP a.1) (ZbP b.1):=by
 simp only [ZgX,orL]
 split
 ·split
  ·split
   ·split<;>omega
   ·rfl
  ·rfl
 ·rfl
theorem Zck:ZfF ZgX:=by
 have h:=(Zdg.comap ZbP).lex (Zdg.lex (Zpr.lex Zdg))
 refine ⟨fun x y=>?_,fun x y z=>?_⟩
 ·have:=h.1 x y
  simp only [Zg4];exact this
 ·have:=h.2 x y z
  simp only [Zg4];exact this
theorem Zfu (a:Zc):ZgX a a=0:=by have:=Zck.1 a a;omega
theorem Zp0 {a b:Int} (ha:Zfy a) (hb:Zfy b) (h:ZbP a=ZbP b):a=b:=by
 rcases ha with rfl | rfl | rfl<;>rcases hb with rfl | rfl | rfl<;>first | rfl | (simp [ZbP] at h)
theorem ZjZ {a b:Zc} (ha:Zfy a.1) (hb:Zfy b.1) (h:ZgX a b=0):a=b:=by
 rw [Zg4] at h
 split at h
 ·rename_i h1
  split at h
  ·rename_i h2
   split at h
   ·rename_i h3
    exact Prod.ext (Zp0 ha hb (ZkQ h1)) (Prod.ext (ZkQ h2) (Prod.ext (ZpG h3) (ZkQ h)))
   ·rename_i h3;exact absurd h h3
  ·rename_i h2;exact absurd h h2
 ·rename_i h1;exact absurd h h1
def SS (l:List Zc):Prop:=l.Pairwise fun a b=>ZgX a b < 0
def K3 (l:List Zc):Prop:=∀ c∈l,Zfy c.1
theorem Zrb:∀ {l m:List Zc},SS l→SS m→(∀ c,c∈l↔c∈m)→l=m
 | [],[],_,_,_=>rfl
 | [],b::m,_,_,h=>by have:=(h b).2 (by simp);simp at this
 | a::l,[],_,_,h=>by have:=(h a).1 (by simp);simp at this
 | a::l,b::m,h1,h2,h=>by
   obtain ⟨h1a,h1b⟩:=List.pairwise_cons.1 h1
   obtain ⟨h2a,h2b⟩:=List.pairwise_cons.1 h2
   have e:a=b:=by
    rcases List.mem_cons.1 ((h a).1 (by simp)) with e | ha
    ·exact e
    rcases List.mem_cons.1 ((h b).2 (by simp)) with e | hb
    ·exact e.symm
    have:=h1a b hb
    have:=h2a a ha
    have:=Zck.1 a b
    omega
   subst e
   congr 1
   refine Zrb h1b h2b fun c=>?_
   have hc:=h c
   simp only [List.mem_cons] at hc
   have hn1:c∈l→c≠a:=fun hm e=>by subst e;have:=h1a _ hm;have:=Zfu c;omega
   have hn2:c∈m→c≠a:=fun hm e=>by subst e;have:=h2a _ hm;have:=Zfu c;omega
   exact ⟨fun hm=>(hc.1 (.inr hm)).resolve_left (hn1 hm),fun hm=>(hc.2 (.inr hm)).resolve_left (hn2 hm)⟩
theorem Zft {c x:Zc}:∀ {l:List Zc},x∈Zg7 c l↔x=c∨x∈l
 | []=>by simp [Zg7]
 | d::l=>by
   simp only [Zg7]
   split
   ·simp only [List.mem_cons,Zft (l:=l)]
    constructor
    ·rintro (h | h | h)<;>simp [h]
    ·rintro (h | h | h)<;>simp [h]
   ·split
    ·rename_i h;subst h;simp
    ·simp
theorem Zpy {c:Zc}:∀ {l:List Zc},Zfy c.1→K3 l→SS l→SS (Zg7 c l)
 | [],_,_,_=>List.pairwise_singleton _ _
 | d::l,hc,hk,h=>by
   obtain ⟨h1,h2⟩:=List.pairwise_cons.1 h
   simp only [Zg7]
   split
   ·rename_i hd
    refine List.pairwise_cons.2 ⟨fun x hx=>?_,Zpy hc (fun x hx=>hk x (by simp [hx])) h2⟩
    rcases Zft.1 hx with rfl | hx
    ·exact hd
    ·exact h1 x hx
   ·rename_i hd
    split
    ·exact h
    ·rename_i he
     have hlt:ZgX c d < 0:=by
      have:=Zck.1 c d
      have:ZgX d c≠0:=fun e=>he (ZjZ (hk d (by simp)) hc e)
      omega
     refine List.pairwise_cons.2 ⟨fun x hx=>?_,h⟩
     rcases List.mem_cons.1 hx with rfl | hx
     ·exact hlt
     ·have:=h1 x hx
      have:=Zck.2 c d x (by omega) (by omega)
      omega
theorem ZkH:∀ {l out:List Zc},K3 l→K3 out→SS out→SS (l.foldl (fun out c=>Zg7 c out) out)∧∀ x,x∈l.foldl (fun out c=>Zg7 c out) out↔x∈l∨x∈out
 | [],out,_,_,h=>⟨h,by simp⟩
 | c::l,out,h1,h2,h=>by
   have hc:=h1 c (by simp)
   obtain ⟨g1,g2⟩:=ZkH (l:=l) (out:=Zg7 c out) (fun x hx=>h1 x (by simp [hx])) (fun x hx=>by
    rcases Zft.1 hx with rfl | hx
    ·exact hc
    ·exact h2 x hx) (Zpy hc h2 h)
   refine ⟨g1,fun x=>?_⟩
   rw [List.foldl_cons,g2,Zft,List.mem_cons]
   constructor
   ·rintro (h | h | h)<;>simp [h]
   ·rintro ((h | h) | h)<;>simp [h]
theorem Zg1 {l:List Zc} (h:K3 l):SS (ZaX l):=(ZkH h (by intro c hc;simp at hc) List.Pairwise.nil).1
theorem Zcl {l:List Zc} (h:K3 l) (x:Zc):x∈ZaX l↔x∈l:=by
 have:=(ZkH h (out:=[]) (by intro c hc;simp at hc) List.Pairwise.nil).2 x
 simpa [ZaX] using this
theorem Zjk {l m:List Zc} (h:K3 l) (hs:SS m) (hm:∀ c,c∈m↔c∈l):m=ZaX l:=Zrb hs (Zg1 h) fun c=>by rw [hm,Zcl h]
def Zb1 (out:List Zc) (x:Zc):List Zc:=if out.getLast?=some x then out else out++[x]
def ZeY (l:List Zc):List Zc:=l.foldl Zb1 []
theorem Zkh:∀ {l out:List Zc},K3 l→K3 out→SS out→l.Pairwise (fun a b=>ZgX a b≤0)→(∀ a∈out,∀ b∈l,ZgX a b≤0)→SS (l.foldl Zb1 out)∧∀ x,x∈l.foldl Zb1 out↔x∈l∨x∈out
 | [],out,_,_,h,_,_=>⟨h,by simp⟩
 | c::l,out,h1,h2,h,h3,h4=>by
   obtain ⟨h3a,h3b⟩:=List.pairwise_cons.1 h3
   have h1':K3 l:=fun x hx=>h1 x (by simp [hx])
   rw [List.foldl_cons]
   by_cases e:out.getLast?=some c
   ·rw [show Zb1 out c=out by rw [Zb1,if_pos e]]
    obtain ⟨g1,g2⟩:=Zkh h1' h2 h h3b fun a ha b hb=>h4 a ha b (by simp [hb])
    refine ⟨g1,fun x=>?_⟩
    have hmem:c∈out:=List.mem_of_getLast? e
    rw [g2,List.mem_cons]
    constructor
    ·rintro (h | h)<;>simp [h]
    ·rintro ((h | h) | h)
     ·subst h;exact .inr hmem
     ·exact .inl h
     ·exact .inr h
   ·rw [show Zb1 out c=out++[c] by rw [Zb1,if_neg e]]
    have hlt:∀ a∈out,ZgX a c < 0:=by
     intro a ha
     have h5:=h4 a ha c (by simp)
     rcases Int.lt_or_eq_of_le h5 with h6 | h6
     ·exact h6
     ·have hac:=ZjZ (h2 a ha) (h1 c (by simp)) h6
      subst hac
      rcases List.eq_nil_or_concat out with h7 | ⟨i,z,h7⟩
      ·subst h7;simp at ha
      ·rw [List.concat_eq_append] at h7
       subst h7
       rw [List.getLast?_append] at e
       simp only [List.getLast?_singleton,Option.some_or,Option.some.injEq] at e
       have h8:=(List.pairwise_append.1 h).2.2
       rcases List.mem_append.1 ha with ha | ha
       ·have h9:=h8 a ha z (by simp)
        have h10:=h4 z (by simp) a (by simp)
        have:=Zck.1 a z
        omega
       ·simp only [List.mem_singleton] at ha
        exact absurd ha.symm e
    obtain ⟨g1,g2⟩:=Zkh (out:=out++[c]) h1' (fun x hx=>by
     rcases List.mem_append.1 hx with hx | hx
     ·exact h2 x hx
     ·simp only [List.mem_singleton] at hx;subst hx;exact h1 x (by simp)) (List.pairwise_append.2 ⟨h,List.pairwise_singleton _ _,fun a ha b hb=>by
      simp only [List.mem_singleton] at hb;subst hb;exact hlt a ha⟩) h3b (fun a ha b hb=>by
     rcases List.mem_append.1 ha with ha | ha
     ·exact h4 a ha b (by simp [hb])
     ·simp only [List.mem_singleton] at ha;subst ha;exact h3a b hb)
    refine ⟨g1,fun x=>?_⟩
    rw [g2,List.mem_append,List.mem_singleton,List.mem_cons]
    constructor
    ·rintro (h | h | h)<;>simp [h]
    ·rintro ((h | h) | h)<;>simp [h]
theorem Zsw {l b:List Zc} (hk:K3 l) (hp:l.Perm b) (hs:Zen ZgX b):ZeY b=ZaX l:=by
 have hk':K3 b:=fun c hc=>hk c (hp.mem_iff.2 hc)
 obtain ⟨g1,g2⟩:=Zkh (out:=[]) hk' (by intro c hc;simp at hc) List.Pairwise.nil (hs.imp fun {a b} h=>by have:=Zck.1 a b;omega) (by intro a ha;simp at ha)
 refine Zjk hk g1 fun c=>?_
 have:=g2 c
 rw [hp.mem_iff]
 simpa [ZeY] using this
theorem ZkA (out:List Zc) (x:Zc):(Zb1 out x).getLast?=some x:=by
 unfold Zb1
 split
 ·assumption
 ·simp
theorem Zd5 {n g:Int} (h:ZeP n):ZeP (n.tdiv g):=by
 have:=Zch n g
 unfold ZeP at *
 omega
theorem ZpP {n:Int} {g:Nat} (hg:0 < g) (h:ZeP n):ZeP (n / (g:Int)):=by
 unfold ZeP at *
 have h1:=Int.emod_add_mul_ediv n g
 have h2:=Int.emod_nonneg n (show (g:Int)≠0 by omega)
 have h3:=Int.emod_lt_of_pos n (show (0:Int) < g by omega)
 have h4:(1:Int)≤g:=by omega
 generalize n / (g:Int)=q at *
 constructor
 ·apply Int.le_of_not_gt
  intro hq
  have:(g:Int)*q≤1*q:=by
   have:=Int.mul_le_mul_of_nonpos_right h4 (show q≤0 by omega)
   omega
  have h5:(g:Int)*(q+1)≤1*(q+1):=Int.mul_le_mul_of_nonpos_right h4 (show q+1≤0 by omega)
  rw [Int.mul_add] at h5
  omega
 ·apply Int.le_of_not_gt
  intro hq
  have h5:1*q≤(g:Int)*q:=Int.mul_le_mul_of_nonneg_right h4 (show 0≤q by omega)
  omega
theorem ZnH {n m:Int} (h1:1≤m) (h2:m≤2305843009213693952):ZeP (n % m):=by
 have h2:=Int.emod_nonneg n (show m≠0 by omega)
 have h3:=Int.emod_lt_of_pos n (show (0:Int) < m by omega)
 unfold ZeP;omega
theorem ZsZ {c:Zc} (h:condB c) (h0:(Zbm c).2=0):condB (Zbm c).1:=by
 obtain ⟨hk,h1,h2,h3⟩:=h
 have hs:∀ b,(Zcm b).2≠0:=fun b=>by cases b<;>simp [Zcm]
 unfold Zbm at h0 ⊢
 rcases hk with hk | hk | ⟨hk,hm1,hm2⟩
 ·simp only [hk,if_true] at h0 ⊢
  unfold geF at h0 ⊢
  by_cases hg:ZaZ c.2.2.1=0
  ·rw [if_pos hg] at h0;exact absurd h0 (hs _)
  ·rw [if_neg hg]
   refine ⟨.inl rfl,by simpa using h1,fun n hn=>?_,ZpP (by omega) h3⟩
   obtain ⟨m,hm,rfl⟩:=List.mem_map.1 hn
   exact Zd5 (h2 m hm)
 ·simp only [hk,show (1:Int)≠0 by decide,if_true,if_false] at h0 ⊢
  unfold eqF at h0 ⊢
  by_cases hg:ZaZ c.2.2.1=0∨c.2.2.2.tmod (ZaZ c.2.2.1)≠0
  ·rw [if_pos hg] at h0;exact absurd h0 (hs _)
  ·rw [if_neg hg]
   refine ⟨.inr (.inl rfl),by simpa using h1,fun n hn=>?_,Zd5 h3⟩
   obtain ⟨m,hm,rfl⟩:=List.mem_map.1 hn
   exact Zd5 (h2 m hm)
 ·simp only [hk,show (2:Int)≠0 by decide,show (2:Int)≠1 by decide,if_false] at h0 ⊢
  unfold ZjR at h0 ⊢
  split at h0
  ·exact absurd h0 (hs _)
  split at h0
  ·exact absurd h0 (hs _)
  rename_i ha hb
  rw [if_neg ha,if_neg hb]
  have hp:0 < ZbM c:=ZfR hm1 _
  have hle:ZbM c≤c.2.1.toNat:=ZdQ hm1 _
  refine ⟨.inr (.inr ⟨rfl,?_,?_⟩),by simpa using h1,fun n hn=>?_,Zd5 (ZnH hm1 hm2)⟩
  ·show 1≤c.2.1.tdiv (ZbM c)
   rw [Int.tdiv_eq_ediv_of_nonneg (by omega)]
   have:(1:Int)=(ZbM c:Int) / (ZbM c:Int):=(Int.ediv_self (by omega)).symm
   rw [this]
   exact Int.ediv_le_ediv (by omega) (by omega)
  ·have:=Zch c.2.1 (ZbM c)
   show c.2.1.tdiv (ZbM c)≤_
   omega
  ·simp only [List.map_map,List.mem_map] at hn
   obtain ⟨m,hm,rfl⟩:=hn
   exact Zd5 (ZnH hm1 hm2)
theorem condB.k3 {c:Zc} (h:condB c):Zfy c.1:=by
 rcases h.1 with h | h | h
 ·exact .inl h
 ·exact .inr (.inl h)
 ·exact .inr (.inr h.1)
def Ze8 (out:List Zc) (c:Zc):Option (List Zc):=if (Zbm c).2 < 0 then none else if (Zbm c).2=0 then some (out++[(Zbm c).1]) else some out
def Zbv (p:List Zc):List Zc:=((p.map Zbm).filter fun r=>decide (r.2=0)).map (·.1)
def ZaL (p:List Zc):Bool:=(p.map Zbm).any fun r=>decide (r.2 < 0)
theorem Zee:∀ (p out:List Zc),p.foldlM Ze8 out=if ZaL p then none else some (out++Zbv p)
 | [],out=>by simp [ZaL,Zbv]
 | c::p,out=>by
   rw [List.foldlM_cons]
   simp only [Ze8,ZaL,Zbv,List.map_cons,List.any_cons]
   by_cases h:(Zbm c).2 < 0
   ·simp [h]
   ·have ih:∀ out,p.foldlM Ze8 out=if ZaL p then none else some (out++Zbv p):=Zee p
    unfold ZaL Zbv at ih
    by_cases h2:(Zbm c).2=0
    ·simp only [if_neg h,if_pos h2,Option.bind_eq_bind,Option.bind_some,ih,decide_eq_false h,Bool.false_or]
     simp [h2]
    ·simp only [if_neg h,if_neg h2,Option.bind_eq_bind,Option.bind_some,ih,decide_eq_false h,Bool.false_or]
     simp [h2]
theorem Zn1 {p:List Zc} (h:ZaG p):ZaG (Zbv p):=by
 refine ⟨?_,fun c hc=>?_⟩
 ·have:=List.length_filter_le (fun r:Zc×Int=>decide (r.2=0)) (p.map Zbm)
  have:=h.1
  simp only [Zbv,List.length_map] at *
  omega
 ·simp only [Zbv,List.mem_map,List.mem_filter] at hc
  obtain ⟨r,⟨⟨d,hd,rfl⟩,hr⟩,rfl⟩:=hc
  exact ZsZ (h.2 d hd) (by simpa using hr)
theorem ZjY {p:List Zc} (h:ZaG p):ZsQ p:=⟨h.1,fun c hc=>⟨(h.2 c hc).2.1,Zco (h.2 c hc).2⟩⟩
theorem Zsx {a b:Int} (h:ZeP a) (h2:ZeP b):ZeP (min a b):=by unfold ZeP at *;omega
theorem Zl6 {P:Zc→Prop} (hmin:∀ d c,P d→P c→P (ZgC d c.2.2.2)) {out:List Zc} {c:Zc} (h:∀ d∈out,P d) (hc:P c):∀ d∈Za3 out c,P d:=by
 intro d hd
 unfold Za3 at hd
 have key:d∈out++[c]→P d:=fun hd=>by
  rcases List.mem_append.1 hd with hd | hd
  ·exact h d hd
  ·simp only [List.mem_singleton] at hd;subst hd;exact hc
 split at hd
 ·exact key hd
 ·split at hd
  ·rename_i i hi
   obtain ⟨hi,_⟩:=Zf7 hi
   rcases List.mem_or_eq_of_mem_set hd with hd | hd
   ·exact h d hd
   ·subst hd
    exact hmin _ _ (h _ (Zl (d:=Zb) hi)) hc
  ·exact key hd
theorem Zhe {P:Zc→Prop} (hmin:∀ d c,P d→P c→P (ZgC d c.2.2.2)) {l:List Zc} (h:∀ d∈l,P d):∀ d∈Zbf l,P d:=by
 have key:∀ (l out:List Zc),(∀ d∈out,P d)→(∀ d∈l,P d)→∀ d∈l.foldl Za3 out,P d:=by
  intro l
  induction l with
  | nil=>exact fun out h _=>h
  | cons c l ih=>exact fun out h h2=>ih _ (Zl6 hmin h (h2 c (by simp))) fun d hd=>h2 d (by simp [hd])
 exact key l [] (by simp) h
theorem Zve {d c:Zc} (hb:condB d) (hc:condB c):condB (ZgC d c.2.2.2):=⟨hb.1,hb.2.1,hb.2.2.1,Zsx hb.2.2.2 hc.2.2.2⟩
theorem Zn6 {l:List Zc} (h:ZaG l):ZaG (Zbf l):=by
 have:=Zgf l []
 have:=h.1
 exact ⟨by simp only [Zbf];simp at *;omega,Zhe (fun d c=>Zve) h.2⟩
theorem ZuU {c:Zc} (h:linB c.2.2):condB (Zbm (1,0,c.2.2)).1:=by
 have hb:condB (1,0,c.2.2):=⟨.inr (.inl rfl),h⟩
 by_cases h0:(Zbm (1,0,c.2.2)).2=0
 ·exact ZsZ hb h0
 ·have hd:condB Zb:=⟨.inl rfl,by simp,by simp,(by unfold ZeP;omega:ZeP 0)⟩
  have:(Zbm (1,0,c.2.2)).1=Zb:=by
   simp only [Zbm,show (1:Int)≠0 by decide,if_true,if_false] at h0 ⊢
   unfold eqF at h0 ⊢
   split
   ·simp [Zcm]
   ·rename_i h1
    rw [if_neg h1] at h0
    exact absurd rfl h0
  rw [this];exact hd
theorem Zod {P:Zc→Prop} (heq:∀ c,c.1=0→P c→P (Zbm (1,0,c.2.2)).1) {l:List Zc} {st st':List Zc×(Int→Option Bool)} {ic:Nat×Zc} (h:ZbE l st ic=some st') (h1:∀ d∈st.1,P d) (h2:P ic.2):∀ d∈st'.1,P d:=by
 have key:∀ x,P x→∀ d∈st.1++[x],P d:=fun x hx d hd=>by
  rcases List.mem_append.1 hd with hd | hd
  ·exact h1 d hd
  ·simp only [List.mem_singleton] at hd;subst hd;exact hx
 unfold ZbE at h
 split at h
 ·cases h;exact h1
 ·split at h
  ·cases h;exact key _ h2
  ·rename_i j hj
   have h0:ic.2.1=0:=by
    rcases Decidable.em (ic.2.1=0) with h0 | h0
    ·exact h0
    ·rw [if_pos h0] at hj;cases hj
   split at h
   ·cases h
   ·split at h
    ·cases h;exact key _ (heq _ h0 h2)
    ·cases h;exact key _ h2
theorem ZmR {P:Zc→Prop} (heq:∀ c,c.1=0→P c→P (Zbm (1,0,c.2.2)).1) {l:List Zc}:∀ {m:List (Nat×Zc)} {st st':List Zc×(Int→Option Bool)},m.foldlM (ZbE l) st=some st'→(∀ d∈st.1,P d)→(∀ ic∈m,P ic.2)→∀ d∈st'.1,P d
 | [],st,st',h,h1,_=>by cases h;exact h1
 | x::m,st,st',h,h1,h2=>by
   simp only [List.foldlM_cons,Option.bind_eq_bind,Option.bind_eq_some_iff] at h
   obtain ⟨s,h3,h4⟩:=h
   exact ZmR heq h4 (Zod heq h3 h1 (h2 x (by simp))) fun ic hic=>h2 ic (by simp [hic])
theorem Zhn {l:List Zc} {ic:Nat×Zc} (h:ic∈Zcp l):ic.2∈l:=by
 simp only [Zcp,List.mem_map,List.mem_range] at h
 obtain ⟨i,hi,rfl⟩:=h
 exact Zl hi
theorem ZpH {l out:List Zc} (h:ZaG l) (hp:ZdT l=some out):ZaG out:=by
 unfold ZdT at hp
 rw [Option.map_eq_some_iff] at hp
 obtain ⟨st,h1,rfl⟩:=hp
 have:=Zhj h1
 rw [ZbI] at this
 have h0:=h.1
 refine ⟨by simp at this;omega,ZmR (P:=condB) (fun c _ hc=>ZuU hc.2) h1 (by simp) fun ic hic=>h.2 _ (Zhn hic)⟩
theorem Zmd {P:Zc→Prop} (heq:∀ c,c.1=0→P c→P (Zbm (1,0,c.2.2)).1) {l out:List Zc} (h:∀ d∈l,P d) (hp:ZdT l=some out):∀ d∈out,P d:=by
 unfold ZdT at hp
 rw [Option.map_eq_some_iff] at hp
 obtain ⟨st,h1,rfl⟩:=hp
 exact ZmR heq h1 (by simp) fun ic hic=>h _ (Zhn hic)
theorem Zm1 (C:List Int) (l:List Zc) (c:Zc):eqK C (l++[c])=if c.1=1∧c.2.2.1=C then some c.2.2.2 else eqK C l:=by
 simp only [eqK,List.reverse_append,List.reverse_singleton,List.singleton_append,List.find?_cons]
 by_cases h:c.1=1∧c.2.2.1=C
 ·rw [if_pos h,decide_eq_true h];rfl
 ·rw [if_neg h,decide_eq_false h]
theorem Zr9 {C:List Int} {l:List Zc} {n:Int} (h:eqK C l=some n):∃ c∈l,c.1=1∧c.2.2.1=C∧c.2.2.2=n:=by
 simp only [eqK,Option.map_eq_some_iff] at h
 obtain ⟨c,hc,rfl⟩:=h
 have h1:=List.mem_of_find?_eq_some hc
 have h2:=List.find?_some hc
 simp only [decide_eq_true_eq] at h2
 exact ⟨c,by simpa using h1,h2.1,h2.2,rfl⟩
theorem ZfE {l:List Zc}:∀ {m out out':List Zc},m.foldlM (Zdb l) out=some out'→out'.length≤out.length+m.length∧∀ d∈out',d∈out∨d∈m
 | [],out,out',h=>by cases h;simp
 | c::m,out,out',h=>by
   simp only [List.foldlM_cons,Option.bind_eq_bind,Option.bind_eq_some_iff] at h
   obtain ⟨s,h3,h4⟩:=h
   obtain ⟨h5,h6⟩:=ZfE h4
   have h7:s=out∨s=out++[c]:=by
    unfold Zdb at h3
    split at h3
    ·cases h3;exact .inr rfl
    ·split at h3
     ·split at h3<;>cases h3;exact .inl rfl
     ·split at h3
      ·split at h3<;>cases h3;exact .inl rfl
      ·cases h3;exact .inr rfl
   rcases h7 with rfl | rfl
   ·refine ⟨by simp only [List.length_cons];omega,fun d hd=>?_⟩
    rcases h6 d hd with h | h
    ·exact .inl h
    ·exact .inr (by simp [h])
   ·refine ⟨by simp only [List.length_cons,List.length_append,List.length_nil] at *;omega,fun d hd=>?_⟩
    rcases h6 d hd with h | h
    ·rcases List.mem_append.1 h with h | h
     ·exact .inl h
     ·simp only [List.mem_singleton] at h;subst h;exact .inr (by simp)
    ·exact .inr (by simp [h])
theorem ZqS {l out:List Zc} (h:ZaG l) (hs:ZbH l=some out):ZaG out:=by
 unfold ZbH at hs
 split at hs
 ·cases hs
 ·obtain ⟨h1,h2⟩:=ZfE hs
  have:=h.1
  exact ⟨by simp at h1;omega,fun d hd=>(h2 d hd).elim (by simp) (h.2 d)⟩
theorem ZlT {P:Zc→Prop} {l out:List Zc} (h:∀ d∈l,P d) (hs:ZbH l=some out):∀ d∈out,P d:=by
 unfold ZbH at hs
 split at hs
 ·cases hs
 ·exact fun d hd=>((ZfE hs).2 d hd).elim (by simp) (h d)
theorem ZaJ {α:Type} (o:Option α):o=none∨∃ x,o=some x:=by cases o<;>simp
theorem ZbN (p:List Zc):ZaH p=if ZaL p then ([],true,(0:Int)) else match (ZdT (Zbf (Zbv p))).bind ZbH with
 | none=>([],true,(0:Int))
 | some out=>if (Zbv p).any (fun c=>!Zf c)||decide (96 < (ZaX out).length) then ([],false,3) else (ZaX out,false,0):=rfl
theorem Z3.fn_eq (l:List Zc):Z3.fn (l,())=(match ZdT l with | none=>([],true) | some out=>(out,false)):=rfl
theorem Zjh {b:List Zc} {i:Nat} (h:i < b.length):ZeY (b.take (i+1))=Zb1 (ZeY (b.take i)) (b.getD i Zb):=by
 rw [ZH Zb h,ZeY,List.foldl_append];rfl
theorem Zow {b:List Zc} {i:Nat} (h:i < b.length):(ZeY (b.take (i+1))).getLast?=some (b.getD i Zb):=by
 rw [Zjh h];exact ZkA _ _
theorem Zi8 {b:List Zc} {i:Nat} (h:i+1 < b.length):ZeY (b.take (i+2))=if b.getD (i+1) Zb=b.getD i Zb then ZeY (b.take (i+1)) else ZeY (b.take (i+1))++[b.getD (i+1) Zb]:=by
 rw [Zjh h,Zb1,Zow (by omega)]
 by_cases e:b.getD (i+1) Zb=b.getD i Zb
 ·rw [if_pos e,if_pos (by rw [e])]
 ·rw [if_neg e,if_neg (fun h=>e (Option.some.inj h).symm)]
theorem Za.spec (p:List Zc) (hp:Za.pre (p,())):Za.wp p (fun r=>r=Za.fn (p,())):=by
 have hp':ZaG p:=hp
 have hl:=hp'.1
 have hQ:Za.fn (p,())=ZaH p:=rfl
 simp only [Za.wp,hQ]
 refine Lp.foldO p Zb Ze8 [] (by omega) ?_ ?_
 ·intro i out R e e2 hf ht hR1 hR2
  have hb:=hp'.2 _ (Zl (d:=Zb) e)
  have hlen:=ZiZ (f:=Ze8) (fun t x t' h=>by
   unfold Ze8 at h
   split at h
   ·cases h
   ·split at h<;>(cases h;simp)) _ _ _ ht
  simp only [List.length_nil,List.length_take] at hlen
  simp only [decide_eq_true e2,Int.toNat_natCast,cond_true]
  refine ⟨⟨by omega,by omega⟩,hb,?_⟩
  simp only [Ze8] at hR1 hR2
  by_cases h1:(Zbm (p.getD i Zb)).2 < 0
  ·simp only [Zaq.fn,decide_eq_true h1,cond_true]
   have:=hR2 (by rw [if_pos h1])
   rw [Zee] at this
   rw [ZbN]
   cases hv:ZaL p with
   | true=>rfl
   | false=>rw [hv] at this;cases this
  ·simp only [Zaq.fn,decide_eq_false h1,cond_false]
   rw [if_neg h1] at hR1
   by_cases h2:(Zbm (p.getD i Zb)).2=0
   ·rw [if_pos h2] at hR1
    simp only [h2,beq_self_eq_true,cond_true]
    exact ⟨⟨by simp;omega,by simp;omega⟩,hf,hR1 _ rfl⟩
   ·rw [if_neg h2] at hR1
    simp only [beq_eq_false_iff_ne.2 h2,cond_false]
    exact ⟨hf,hR1 _ rfl⟩
 intro raws R hraws
 rw [Zee] at hraws
 have hv:ZaL p=false:=by
  cases h:ZaL p with
  | true=>rw [h] at hraws;cases hraws
  | false=>rfl
 rw [hv] at hraws
 simp only [Bool.false_eq_true,if_false,List.nil_append,Option.some.injEq] at hraws
 subst hraws
 simp only [Int.lt_irrefl,decide_false,cond_false]
 have hrB:=Zn1 hp'
 have htd:ZaH p=match (ZdT (Zbf (Zbv p))).bind ZbH with
  | none=>([],true,(0:Int))
  | some out=>if (Zbv p).any (fun c=>!Zf c)||decide (96 < (ZaX out).length) then ([],false,3) else (ZaX out,false,0):=by
  rw [ZbN,hv];rfl
 generalize Zbv p=l at *
 generalize hT:ZaH p=T at *
 have hlB:=Zn6 hrB
 refine ⟨fun _ _=>trivial,ZjY hrB,hlB,?_⟩
 simp only [Z3.fn_eq,Zas.fn]
 rcases ZaJ (ZdT (Zbf l)) with hpr | ⟨out,hpr⟩
 ·simp only [hpr,cond_true]
  rw [htd,hpr];rfl
 ·simp only [hpr,cond_false]
  rw [hpr] at htd
  simp only [Option.bind_some] at htd
  have hoB:=ZpH hlB hpr
  have hol:=hoB.1
  have hin:∀ i,i < out.length→condB (out.getD i Zb):=fun i hi=>hoB.2 _ (Zl hi)
  clear hpr hlB hrB hp' hp
  refine Lp.iter out.length (fun i y=>y.1=(i:Int)∧(out.take i).foldlM Zdl []=some (out.take i)∧∀ C,y.2 (ZbA (ZdH C 1))=eqK C (out.take i)) ⟨rfl,rfl,fun C=>rfl⟩ ?_
  rintro i ⟨y,m⟩ hle ⟨hy,hf,hm⟩ R hR
  simp only at hy hm
  subst hy
  by_cases e:i < out.length
  ·have hb:=hin i e
   have hts:=ZH Zb e
   have hfs:(out.take (i+1)).foldlM Zdl []=Zdl (out.take i) (out.getD i Zb):=by
    rw [hts,List.foldlM_append,hf]
    show (Zdl _ _).bind _=_
    cases Zdl (out.take i) (out.getD i Zb)<;>rfl
   have hvoid:Zdl (out.take i) (out.getD i Zb)=none→T=([],true,0):=fun h=>by
    have h1:out.foldlM Zdl []=none:=by
     rw [← List.take_append_drop (i+1) out,List.foldlM_append,hfs,h];rfl
    rw [htd,ZbH,h1]
   simp only [decide_eq_true (show (i:Int) < (out.length:Int) by omega),Int.toNat_natCast,cond_true]
   refine ⟨⟨by omega,by omega⟩,?_⟩
   by_cases hk:(out.getD i Zb).1=1
   ·simp only [hk,bne_self_eq_false,cond_false,Zam.fn]
    have hg:∀ b:Bool,(b=true→b=true∧True):=fun b h=>⟨h,trivial⟩
    refine ⟨⟨hb.2.1,Zco hb.2,.inl rfl⟩,hg _,hg _,fun h=>⟨h,h,trivial⟩,fun h=>h,?_⟩
    simp only [hm]
    have hstep:Zdl (out.take i) (out.getD i Zb)=match eqK (out.getD i Zb).2.2.1 (out.take i) with
     | some n=>if n≠(out.getD i Zb).2.2.2 then none else some (out.take i++[out.getD i Zb])
     | none=>some (out.take i++[out.getD i Zb]):=by
     unfold Zdl;exact if_neg fun h=>h hk
    have hnew:∀ C,Zc6 m (ZbA (ZdH (out.getD i Zb).2.2.1 1)) (out.getD i Zb).2.2.2 (ZbA (ZdH C 1))=eqK C (out.take (i+1)):=fun C=>by
     rw [hts,Zm1]
     simp only [Zc6,Zkf]
     by_cases hC:C=(out.getD i Zb).2.2.1
     ·rw [if_pos hC,if_pos ⟨hk,hC.symm⟩]
     ·rw [if_neg hC,if_neg (fun h=>hC h.2.symm)];exact hm C
    cases hq:eqK (out.getD i Zb).2.2.1 (out.take i) with
    | none =>
      rw [hq] at hstep
      simp only [Option.isSome_none,Bool.false_and,cond_false]
      refine ⟨⟨by omega,by omega⟩,hR e _ ⟨rfl,?_,hnew⟩⟩
      rw [hfs,hstep,hts]
    | some n =>
      rw [hq] at hstep
      simp only [Option.isSome_some,Option.getD_some,Bool.true_and]
      by_cases hn:n=(out.getD i Zb).2.2.2
      ·simp only [hn,bne_self_eq_false,cond_false]
       refine ⟨⟨by omega,by omega⟩,hR e _ ⟨rfl,?_,hnew⟩⟩
       rw [hfs,hts]
       exact hstep.trans (if_neg fun h=>h hn)
      ·simp only [bne_iff_ne.2 hn,cond_true]
       exact (hvoid (hstep.trans (if_pos hn))).symm
   ·simp only [bne_iff_ne.2 hk,cond_true]
    refine ⟨⟨by omega,by omega⟩,hR e _ ⟨rfl,?_,fun C=>?_⟩⟩
    ·rw [hfs,hts];exact if_pos hk
    ·rw [hts,Zm1,if_neg (fun h=>hk h.1)];exact hm C
  have hil:i=out.length:=by omega
  subst hil
  clear hR hle
  simp only [Int.lt_irrefl,decide_false,cond_false]
  rw [List.take_length] at hf hm
  have hst:ZbH out=out.foldlM (Zdb out) []:=by rw [ZbH,hf]
  rw [hst] at htd
  refine Lp.foldO out Zb (Zdb out) [] (by omega) ?_ ?_
  ·intro i o2 R e e2 hf2 ht hR1 hR2
   have hb:=hin i e
   obtain ⟨hlen,_⟩:=ZfE ht
   simp only [List.length_nil,List.length_take] at hlen
   simp only [decide_eq_true e2,Int.toNat_natCast,cond_true]
   refine ⟨⟨by omega,by omega⟩,?_⟩
   have hvoid:Zdb out o2 (out.getD i Zb)=none→T=([],true,0):=fun h=>by
    rw [htd,hR2 h]
   clear hR2
   by_cases hk:(out.getD i Zb).1=0
   ·simp only [hk,beq_self_eq_true,cond_true,Zam.fn]
    refine ⟨⟨hb.2.1,Zco hb.2,.inl rfl⟩,?_⟩
    simp only [Znd.2 (rfl:ZbK (out.getD i Zb).2.2.1=_),hm]
    have hstep:Zdb out o2 (out.getD i Zb)=match eqK (out.getD i Zb).2.2.1 out with
     | some n=>if (out.getD i Zb).2.2.2 < n then none else some o2
     | none=>match eqK (ZbK (out.getD i Zb).2.2.1) out with
       | some n=>if (out.getD i Zb).2.2.2+n < 0 then none else some o2
       | none=>some (o2++[out.getD i Zb]):=by
     unfold Zdb;exact if_neg fun h=>h hk
    cases hq:eqK (out.getD i Zb).2.2.1 out with
    | some n =>
      rw [hq] at hstep
      simp only [Option.isSome_some,Option.getD_some,cond_true] at hstep ⊢
      by_cases hn:(out.getD i Zb).2.2.2 < n
      ·simp only [decide_eq_true hn,cond_true]
       exact (hvoid (by rw [hstep,if_pos hn])).symm
      ·simp only [decide_eq_false hn,cond_false]
       exact ⟨hf2,hR1 _ (by rw [hstep,if_neg hn])⟩
    | none =>
      rw [hq] at hstep
      simp only [Option.isSome_none,cond_false] at hstep ⊢
      refine ⟨⟨hb.2.1,Zco hb.2,.inr rfl⟩,?_⟩
      cases hq2:eqK (ZbK (out.getD i Zb).2.2.1) out with
      | some n =>
        rw [hq2] at hstep
        obtain ⟨d,hd,_,_,hd3⟩:=Zr9 hq2
        have q1:=(hoB.2 d hd).2.2.2
        have q2:=hb.2.2.2
        rw [hd3] at q1
        unfold ZeP at q1 q2
        simp only [Option.isSome_some,Option.getD_some,cond_true] at hstep ⊢
        refine ⟨⟨by omega,by omega⟩,?_⟩
        by_cases hn:(out.getD i Zb).2.2.2+n < 0
        ·simp only [decide_eq_true hn,cond_true]
         exact (hvoid (by rw [hstep,if_pos hn])).symm
        ·simp only [decide_eq_false hn,cond_false]
         exact ⟨hf2,hR1 _ (by rw [hstep,if_neg hn])⟩
      | none =>
        rw [hq2] at hstep
        simp only [Option.isSome_none,cond_false] at hstep ⊢
        exact ⟨⟨by simp;omega,by simp;omega⟩,hf2,hR1 _ hstep⟩
   ·simp only [beq_eq_false_iff_ne.2 hk,cond_false]
    exact ⟨⟨by simp;omega,by simp;omega⟩,hf2,hR1 _ (if_pos hk)⟩
  intro res R hres
  simp only [Int.lt_irrefl,decide_false,cond_false]
  rw [hres] at htd
  simp only at htd
  obtain ⟨hrl,hrm⟩:=ZfE hres
  simp only [List.length_nil,Nat.zero_add] at hrl
  have hk3:K3 res:=fun d hd=>((hrm d hd).elim (by simp) fun h=>(hoB.2 d h).k3)
  clear hres hst hm hf hin hrm
  refine ⟨⟨by omega,fun a ha b hb=>⟨hk3 a ha,hk3 b hb⟩⟩,fun b8 hb8=>?_⟩
  obtain ⟨hperm,hsort⟩:=hb8
  have hcf:=Zsw hk3 hperm hsort
  have hbl:b8.length≤1048576:=by have:=hperm.length_eq;omega
  have hb3:∀ i,i < b8.length→Zfy (b8.getD i Zb).1:=fun i hi=>hk3 _ (hperm.mem_iff.2 (Zl hi))
  rw [← hcf] at htd
  clear hcf hperm hsort hrl hk3
  have hfin:∀ (b:Bool) (r:List Zc),b=(l.any fun c=>!Zf c)→r=ZeY b8→(cond (b||decide ((96:Int) < (r.length:Int))) ((([]:List Zc),false,(3:Int))=T) ((r,false,(0:Int))=T)):=by
   rintro b r rfl rfl
   rw [htd]
   have e:decide ((96:Int) < ((ZeY b8).length:Int))=decide (96 < (ZeY b8).length):=decide_eq_decide.2 (by omega)
   rw [e]
   cases h:((l.any fun c=>!Zf c)||decide (96 < (ZeY b8).length))<;>rfl
  have hg:∀ b:Bool,(b=true→b=true∧True):=fun b h=>⟨h,trivial⟩
  have hg2:∀ b:Bool,(b=false→(!b)=true):=fun b h=>by rw [h];rfl
  by_cases hs:b8.length < 2
  ·simp only [decide_eq_true (show ((b8.length:Nat):Int) < 2 by omega),cond_true]
   refine ⟨hg _,hg _,hg2 _,hfin _ _ rfl ?_⟩
   match b8,hs with
   | [],_=>rfl
   | [x],_=>rfl
  simp only [decide_eq_false (show ¬ ((b8.length:Nat):Int) < 2 by omega),cond_false]
  refine Lp.iter (b8.length - 1) (fun i y=>y=(i:Int)+1∧ZeY (b8.take (i+1))=b8.take (i+1)) ⟨rfl,?_⟩ ?_
  ·match b8,hs with
   | x::b,_=>rfl
   | [],h=>exact absurd (by simp) h
  rintro i y hle ⟨rfl,hc⟩ R hR
  by_cases e:i+1 < b8.length
  ·have t1:((i:Int)+1).toNat=i+1:=by omega
   have t2:((i:Int)+1 - 1).toNat=i:=by omega
   simp only [decide_eq_true (show (i:Int)+1 < (b8.length:Int) by omega),cond_true,t1,t2]
   have k1:=hb3 (i+1) e
   have k2:=hb3 i (by omega)
   have hcs:=Zi8 e
   refine ⟨⟨by omega,by omega⟩,by omega,⟨by omega,by omega⟩,⟨by omega,by omega⟩,by omega,⟨k1,k2⟩,?_⟩
   by_cases heq:b8.getD (i+1) Zb=b8.getD i Zb
   ·have:(ZgX (b8.getD (i+1) Zb) (b8.getD i Zb) == 0)=true:=by rw [heq,Zfu];rfl
    simp only [ZZ.fn,this,cond_true]
    rw [if_pos heq] at hcs
    refine ⟨⟨by omega,by omega⟩,?_⟩
    clear hR
    refine Lp.iter (b8.length - (i+1) - 1) (fun k y=>y.1=(k:Int)+1∧∃ n:Nat,y.2.1=(n:Int)∧n≤i+1+k∧y.2.2.length=b8.length∧ZeY (b8.take (i+1+k+1))=y.2.2.take n∧∀ j,i+1+k≤j→y.2.2.getD j Zb=b8.getD j Zb) ⟨rfl,i+1,rfl,by omega,rfl,by rw [← hc,← hcs],fun j _=>rfl⟩ ?_
    rintro k ⟨y1,y2,a⟩ hle2 ⟨hy1,n,hy2,hn,hal,hca,hget⟩ R2 hR2
    simp only at hy1 hy2 hal hca hget
    subst hy1 hy2
    by_cases e2:i+1+k+1 < b8.length
    ·have t3:((k:Int)+1).toNat=k+1:=by omega
     have t4:((k:Int)+1 - 1).toNat=k:=by omega
     simp only [decide_eq_true (show (k:Int)+1 < ((b8.length - (i+1):Nat):Int) by omega),cond_true,t3,t4,Int.toNat_natCast,Nat.zero_add]
     have g1:a.getD (i+1+(k+1)) Zb=b8.getD (i+1+k+1) Zb:=hget _ (by omega)
     have g2:a.getD (i+1+k) Zb=b8.getD (i+1+k) Zb:=hget _ (by omega)
     simp only [g1,g2]
     have k3:=hb3 (i+1+k+1) e2
     have k4:=hb3 (i+1+k) (by omega)
     have hcs2:=Zi8 e2
     refine ⟨⟨by omega,by omega,by omega⟩,by omega,⟨by omega,by omega⟩,⟨by omega,by omega,by omega⟩,by omega,⟨k3,k4⟩,?_⟩
     by_cases heq2:b8.getD (i+1+k+1) Zb=b8.getD (i+1+k) Zb
     ·have:(ZgX (b8.getD (i+1+k+1) Zb) (b8.getD (i+1+k) Zb) == 0)=true:=by rw [heq2,Zfu];rfl
      simp only [ZZ.fn,this,Bool.not_true,cond_false]
      rw [if_pos heq2] at hcs2
      refine ⟨⟨by omega,by omega⟩,hR2 (by omega) _ ⟨by simp,n,rfl,by omega,hal,?_,fun j hj=>hget j (by omega)⟩⟩
      rw [show i+1+(k+1)+1=i+1+k+2 by omega,hcs2,hca]
     ·have:(ZgX (b8.getD (i+1+k+1) Zb) (b8.getD (i+1+k) Zb) == 0)=false:=beq_eq_false_iff_ne.2 fun h=>heq2 (ZjZ k3 k4 h)
      simp only [ZZ.fn,this,Bool.not_false,cond_true]
      rw [if_neg heq2] at hcs2
      refine ⟨⟨by omega,by omega,by omega⟩,by omega,⟨by omega,by omega⟩,by omega,⟨by omega,by omega⟩,⟨by omega,by omega⟩,hR2 (by omega) _ ⟨by simp,n+1,by simp,by omega,by simp [hal],?_,fun j hj=>?_⟩⟩
      ·rw [show i+1+(k+1)+1=i+1+k+2 by omega,hcs2,hca]
       simp only
       rw [List.take_set,List.take_add_one,List.set_append_right _ _ (by simp;omega)]
       have hnn:n - (a.take n).length=0:=by simp;omega
       rw [hnn,List.getElem?_eq_getElem (show n < a.length by omega)]
       rfl
      ·simp only
       rw [List.getD_eq_getElem?_getD,List.getElem?_set_ne (by omega),← List.getD_eq_getElem?_getD]
       exact hget j (by omega)
    ·have hk:i+1+k+1=b8.length:=by omega
     simp only [decide_eq_false (show ¬ (k:Int)+1 < ((b8.length - (i+1):Nat):Int) by omega),cond_false,Int.toNat_natCast,Nat.zero_add]
     rw [hk,List.take_length] at hca
     have hdr:List.drop (n+(a.length - n)) a=[]:=List.drop_eq_nil_of_le (by omega)
     simp only [hdr,List.append_nil,List.drop_zero]
     have htk:List.take n (a.take n++List.replicate (a.length - n) Zb)=a.take n:=by
      rw [List.take_append_of_le_length (by simp;omega),List.take_take,Nat.min_self]
     have hln:(a.take n++List.replicate (a.length - n) Zb).length=a.length:=by simp;omega
     simp only [htk,hln]
     exact ⟨⟨by omega,by omega⟩,by omega,⟨by omega,by omega⟩,by omega,hg _,hg _,hg2 _,hfin _ _ rfl hca.symm⟩
   ·have:(ZgX (b8.getD (i+1) Zb) (b8.getD i Zb) == 0)=false:=beq_eq_false_iff_ne.2 fun h=>heq (ZjZ k1 k2 h)
    simp only [ZZ.fn,this,cond_false]
    rw [if_neg heq] at hcs
    refine ⟨⟨by omega,by omega⟩,hR (by omega) _ ⟨by omega,?_⟩⟩
    rw [hcs,hc,ZH Zb e]
  ·have hi:i+1=b8.length:=by omega
   simp only [decide_eq_false (show ¬ (i:Int)+1 < (b8.length:Int) by omega),cond_false]
   rw [hi,List.take_length] at hc
   exact ⟨hg _,hg _,hg2 _,hfin _ _ rfl hc.symm⟩
def Zap (out:List (List Zc)) (p:List Zc):Option (List (List Zc)) :=
 if (ZaH p).2.2≠0 then none else if (ZaH p).2.1=true∨(ZaH p).1∈out then some out else if 400 < out.length+1 then none else some (out++[(ZaH p).1])
def ZfS (l:List (List Zc)):Option (List (List Zc)):=l.foldlM Zap []
def Zhx (n:Int) (o:Option (List (List Zc))):Ze2×Int:=match o with
 | none=>((0,[]),3)
 | some out=>((n,out),0)
def ZaY (x:Ze2):Ze2×Int:=if Z1 x=false then ((0,[]),1) else Zhx x.1 (ZfS x.2)
abbrev ZV.fn (x:Ze2×Unit):Ze2×Int:=ZaY x.1
def Zbi (p:List Zc) (n:Int):List Zc×Bool×Int :=
 if n < 0∨12 < n then ([],false,6) else if 384 < p.length then ([],false,3) else if p.any (fun c=>!Zf c) then ([],false,1) else if Ze0 p n=false then ([],false,2) else ZaH p
abbrev Zad.fn (x:Zc×Unit):Bool:=!Zf x.1
abbrev ZaC.fn (x:List Zc×Int×Unit):List Zc×Bool×Int:=Zbi x.1 x.2.1
def ZgI (p:List Zc):Prop:=p.length≤4096∧∀ c∈p,Zf c=true
def Ze7:List Int→List Int→Int
 | x::a,y::b=>x*y+Ze7 a b
 | _,_=>0
def Zfs (c:Zc) (v:Int):Bool:=if c.1=0 then decide (0≤v) else if c.1=1 then v == 0 else v.tmod c.2.1 == 0
def ZV.wp (x0:Int×(List (List Zc))) (Q:(Int×(List (List Zc)))×Int→Prop):Prop:=cond (!(ZaA.fn (x0,()))) (Q (((0:Int),([]:List (List (Zc)))),(1:Int))) (Lp (σ:=Int×(List (List (Zc)))×(ByteArray→Option Bool)) (fun y2 R2=>let v0:=List.getD x0.2 (Int.toNat y2.1) ([]:List (Zc));let v1:=Zn.fn ((Za.fn (v0,())).1,());let v3:=[(Za.fn (v0,())).1];cond (decide (y2.1 < ((List.length x0.2:Nat):Int))) (((0:Int)≤y2.1∧y2.1 < ((List.length x0.2:Nat):Int))∧(Za.pre (v0,())∧cond (((Za.fn (v0,())).2).2 != (0:Int)) (cond (((Za.fn (v0,())).2).2 != (0:Int)) (Q (((0:Int),([]:List (List (Zc)))),((Za.fn (v0,())).2).2)) (Q ((x0.1,([]:List (List (Zc)))),(0:Int)))) (((!(((Za.fn (v0,())).2).1))=true→((!(((Za.fn (v0,())).2).1))=true∧Zn.pre ((Za.fn (v0,())).1,())))∧(((!(((Za.fn (v0,())).2).1))=true→((!(((Za.fn (v0,())).2).1))=true∧((!(((Za.fn (v0,())).2).1))=true∧True)))∧((((Za.fn (v0,())).2).1=false→(!(((Za.fn (v0,())).2).1))=true)∧cond (((Za.fn (v0,())).2).1||(Option.getD (y2.2.2 v1) false)) (Zw IntKind.i64 (y2.1+(1:Int))∧R2 ((y2.1+(1:Int)),y2.2)) (Zn.pre ((Za.fn (v0,())).1,())∧((((List.length y2.2.1+List.length v3)*24)≤140737488355328∧(List.length y2.2.1+List.length v3)≤9223372036854775807)∧cond (decide ((400:Int) < (((List.length (y2.2.1++v3)):Nat):Int))) (Q (((0:Int),([]:List (List (Zc)))),(3:Int))) (Zw IntKind.i64 (y2.1+(1:Int))∧R2 ((y2.1+(1:Int)),((y2.2.1++v3),Zc6 y2.2.2 v1 true)))))))))) (Q ((x0.1,y2.2.1),(0:Int)))) ((0:Int),(([]:List (List (Zc))),fun (a2:ByteArray)=>(none:Option Bool))))
def Zad.wp (x0:Zc) (Q:Bool→Prop):Prop:=Q (!(Zx.fn (x0,())))
def ZaC.wp (x0:List Zc) (x1:Int) (Q:(List Zc)×Bool×Int→Prop):Prop:=(((!(decide (x1 < (0:Int))))=true→((!(decide (x1 < (0:Int))))=true∧True))∧((decide (x1 < (0:Int))=false→(!(decide (x1 < (0:Int))))=true)∧cond (decide (x1 < (0:Int))||decide ((12:Int) < x1)) (Q (([]:List (Zc)),(false,(6:Int)))) (cond (decide ((384:Int) < ((List.length x0:Nat):Int))) (Q (([]:List (Zc)),(false,(3:Int)))) (Zd.pre (x0,((fun (a3:Zc)=>True,fun (a3:Zc)=>Zad.fn (a3,())),()))∧cond (Zd.fn (x0,((fun (a3:Zc)=>True,fun (a3:Zc)=>Zad.fn (a3,())),()))) (Q (([]:List (Zc)),(false,(1:Int)))) (cond (!(Za0.fn (x0,(x1,())))) (Q (([]:List (Zc)),(false,(2:Int)))) (Za.pre (x0,())∧Q ((Za.fn (x0,())).1,((Za.fn (x0,())).2))))))))
theorem Zqr {P:Zc→Prop} (hmin:∀ d c,P d→P c→P (ZgC d c.2.2.2)) (heq:∀ c,c.1=0→P c→P (Zbm (1,0,c.2.2)).1) {p:List Zc} (hb:ZaG p) (h:∀ d∈Zbv p,P d):∀ d∈(ZaH p).1,P d:=by
 rw [ZbN]
 split
 ·simp
 ·rcases ZaJ ((ZdT (Zbf (Zbv p))).bind ZbH) with ho | ⟨out,ho⟩
  ·rw [ho];simp
  ·rw [ho]
   simp only
   split
   ·simp
   ·obtain ⟨o1,h1,h2⟩:=Option.bind_eq_some_iff.1 ho
    have k3:K3 out:=by
     have:=ZqS (ZpH (Zn6 (Zn1 hb)) h1) h2
     exact fun c hc=>(this.2 c hc).k3
    intro d hd
    rw [Zcl k3] at hd
    exact ZlT (Zmd heq (Zhe hmin h) h1) h2 d hd
theorem ZpK (p:List Zc):(ZaH p).2.2=0∨((ZaH p).2.2=3∧(ZaH p).2.1=false):=by
 rw [ZbN]
 split
 ·exact .inl rfl
 ·split
  ·exact .inl rfl
  ·split
   ·exact .inr ⟨rfl,rfl⟩
   ·exact .inl rfl
theorem ZhB (p:List Zc):(ZaH p).1.length≤96:=by
 rw [ZbN]
 split
 ·simp
 ·split
  ·simp
  ·split
   ·simp
   ·rename_i h
    simp only [Bool.or_eq_true,decide_eq_true_eq,not_or] at h
    simp only;omega
theorem ZqG {n:Int}:Fit n=true↔-1048576≤n∧n≤1048576:=by simp [Fit]
theorem Zmf {k m K K':Int} {C:List Int} (h:Zf (k,m,C,K)=true) (hK:Fit K'=true):Zf (k,m,C,K')=true:=by
 have key:Zaw (C,K)=true→Zaw (C,K')=true:=by
  intro h
  simp only [Zaw,Bool.and_eq_true] at h ⊢
  exact ⟨h.1,h.2.1,hK⟩
 simp only [Zf] at *
 split at h
 ·rename_i h0;rw [if_pos h0];simp only [Bool.and_eq_true] at h ⊢;exact ⟨h.1,key h.2⟩
 ·rename_i h0
  rw [if_neg h0]
  split at h
  ·rename_i h1;rw [if_pos h1];simp only [Bool.and_eq_true] at h ⊢;exact ⟨h.1,key h.2⟩
  ·cases h
theorem Zo1 {d c:Zc} (hd:Zf d=true) (hc:Zf c=true):Zf (ZgC d c.2.2.2)=true:=by
 have h1:=(Zaw.b (Zf.lin hc)).2.2
 have h2:=(Zaw.b (Zf.lin hd)).2.2
 exact Zmf hd (ZqG.2 (by omega))
theorem ZmQ:Zf Zb=true:=by decide
theorem Zme {C:List Int} {K:Int} (h1:C.length≤12) (h2:∀ n∈C,Fit n=true) (h3:Fit K=true):Zaw (C,K)=true:=by
 simp only [Zaw,Bool.and_eq_true,List.all_eq_true,decide_eq_true_eq]
 exact ⟨h2,by omega,h3⟩
theorem ZrO {C:List Int} {K:Int} (h:Zaw (C,K)=true):Zf (1,0,C,K)=true:=by simp [Zf,h]
theorem Zq6 {c:Zc} (h:Zaw c.2.2=true):Zf (Zbm (1,0,c.2.2)).1=true:=by
 simp only [Zbm,show (1:Int)≠0 by decide,if_true,if_false]
 unfold eqF
 split
 ·unfold Zcm;exact ZmQ
 ·obtain ⟨h1,h2,h3⟩:=Zaw.b h
  have key:∀ n g:Int,(-1048576≤n∧n≤1048576)→Fit (n.tdiv g)=true:=fun n g hn=>by
   have:=Zch n g
   rw [ZqG];omega
  refine ZrO (Zme (by simpa using h1) (fun n hn=>?_) (key _ _ h3))
  obtain ⟨m,hm,rfl⟩:=List.mem_map.1 hn
  exact key _ _ (h2 m hm)
theorem Zq1 {p:List Zc} (h:(Zbv p).any (fun c=>!Zf c)=true):(ZaH p).1=[]:=by
 rw [ZbN]
 split
 ·rfl
 ·rcases ZaJ ((ZdT (Zbf (Zbv p))).bind ZbH) with ho | ⟨out,ho⟩
  ·rw [ho]
  ·rw [ho]
   simp only [h,Bool.true_or,if_true]
theorem Zhl {p:List Zc} (hb:ZaG p):∀ d∈(ZaH p).1,Zf d=true:=by
 by_cases h:(Zbv p).any (fun c=>!Zf c)=true
 ·rw [Zq1 h];simp
 ·refine Zqr (P:=fun d=>Zf d=true) (fun d c=>Zo1) (fun c _ hc=>Zq6 (Zf.lin hc)) hb fun d hd=>?_
  cases hc:Zf d with
  | true=>rfl
  | false=>exact absurd (List.any_eq_true.2 ⟨d,hd,by rw [hc];rfl⟩) h
theorem Znx {p:List Zc} (hb:ZaG p):ZgI (ZaH p).1:=⟨by have:=ZhB p;omega,Zhl hb⟩
theorem ZgI.B {p:List Zc} (h:ZgI p):ZaG p:=⟨by have:=h.1;omega,fun c hc=>Zf.condB (h.2 c hc)⟩
theorem ZgI.name {p:List Zc} (h:ZgI p):nameOk p:=by
 refine ⟨by have:=h.1;omega,fun c hc=>?_⟩
 have hv:=h.2 c hc
 obtain ⟨h1,h2,h3⟩:=Zaw.b (Zf.lin hv)
 refine ⟨by omega,fun n hn=>by have:=h2 n hn;omega,fun n hn=>?_⟩
 have hk:=Zf.kind hv
 simp only [List.mem_cons,List.not_mem_nil,or_false] at hn
 rcases hn with rfl | rfl | rfl
 ·omega
 ·omega
 ·omega
theorem ZcM {α τ:Type} {f:τ→α→Option τ} {l:List α} {d:α} {i:Nat} {a t:τ} (h:(l.take i).foldlM f a=some t) (hi:i < l.length):(l.take (i+1)).foldlM f a=f t (l.getD i d):=by
 rw [ZH d hi,List.foldlM_append,h]
 show (f _ _).bind _=_
 cases f t (l.getD i d)<;>rfl
theorem Zhw {α τ:Type} {f:τ→α→Option τ} {l:List α} {d:α} {i:Nat} {a t:τ} (h:(l.take i).foldlM f a=some t) (hi:i < l.length) (hn:f t (l.getD i d)=none):l.foldlM f a=none:=by
 rw [← List.take_append_drop (i+1) l,List.foldlM_append,ZcM (d:=d) h hi,hn]
 rfl
def ZeF (out:List (List Zc)) (m:ByteArray→Option Bool):Prop:=∀ q,m (ZbA (Zb4 q))=if q∈out then some true else none
theorem ZeF.nil:ZeF [] fun _=>none:=fun q=>by simp
theorem ZeF.put {out:List (List Zc)} {m:ByteArray→Option Bool} (h:ZeF out m) (p:List Zc):ZeF (out++[p]) (Zc6 m (ZbA (Zb4 p)) true):=by
 intro q
 simp only [Zc6,Zn7,List.mem_append,List.mem_singleton]
 by_cases e:q=p
 ·rw [if_pos e,if_pos (.inr e)]
 ·rw [if_neg e,h q]
  by_cases e2:q∈out
  ·rw [if_pos e2,if_pos (.inl e2)]
  ·rw [if_neg e2,if_neg (fun h=>h.elim e2 e)]
theorem ZeC {p : List Zc} {out : List (List Zc)} {m : ByteArray → Option Bool} {EA K1 EB K2 : Prop} (hp : ZaG p) (hk : ZeF out m) (hl : out.length ≤ 400)
 (hA:(ZaH p).2.2=3→Zap out p=none→EA) (h1:Zap out p=some out→K1) (hB:Zap out p=none→EB) (h2:Zap out p=some (out++[(ZaH p).1])→K2) :
 (Za.pre (p,())∧cond (((Za.fn (p,())).2).2 != (0:Int)) EA (((!(((Za.fn (p,())).2).1))=true→((!(((Za.fn (p,())).2).1))=true∧Zn.pre ((Za.fn (p,())).1,())))∧(((!(((Za.fn (p,())).2).1))=true→((!(((Za.fn (p,())).2).1))=true∧((!(((Za.fn (p,())).2).1))=true∧True)))∧((((Za.fn (p,())).2).1=false→(!(((Za.fn (p,())).2).1))=true)∧cond (((Za.fn (p,())).2).1||(Option.getD (m (Zn.fn ((Za.fn (p,())).1,()))) false)) K1 (Zn.pre ((Za.fn (p,())).1,())∧((((List.length out+List.length [(Za.fn (p,())).1])*24)≤140737488355328∧(List.length out+List.length [(Za.fn (p,())).1])≤9223372036854775807)∧cond (decide ((400:Int) < (((List.length (out++[(Za.fn (p,())).1])):Nat):Int))) EB K2)))))):=by
 have hn:Zn.pre ((ZaH p).1,()):=(Znx hp).name
 refine ⟨hp,?_⟩
 simp only [Za.fn,Zn.fn]
 by_cases he:(ZaH p).2.2=0
 ·simp only [he,bne_self_eq_false,cond_false]
  have hs:Zap out p=if (ZaH p).2.1=true∨(ZaH p).1∈out then some out else if 400 < out.length+1 then none else some (out++[(ZaH p).1]):=by
   unfold Zap;exact if_neg (fun h=>h he)
  refine ⟨fun h=>⟨h,hn⟩,fun h=>⟨h,h,trivial⟩,fun h=>by rw [h];rfl,?_⟩
  have hb:((ZaH p).2.1||(m (ZbA (Zb4 (ZaH p).1))).getD false)=decide ((ZaH p).2.1=true∨(ZaH p).1∈out):=by
   rw [hk]
   by_cases e:(ZaH p).1∈out
   ·rw [if_pos e];simp [e]
   ·rw [if_neg e];simp [e]
  rw [hb]
  by_cases e:(ZaH p).2.1=true∨(ZaH p).1∈out
  ·rw [decide_eq_true e]
   exact h1 (hs.trans (if_pos e))
  ·rw [decide_eq_false e]
   rw [if_neg e] at hs
   refine ⟨hn,⟨by simp;omega,by simp;omega⟩,?_⟩
   by_cases e2:400 < out.length+1
   ·rw [decide_eq_true (show (400:Int) < ((out++[(ZaH p).1]).length:Int) by simp;omega)]
    exact hB (hs.trans (if_pos e2))
   ·rw [decide_eq_false (show ¬ (400:Int) < ((out++[(ZaH p).1]).length:Int) by simp;omega)]
    exact h2 (hs.trans (if_neg e2))
 ·rw [bne_iff_ne.2 he]
  exact hA (((ZpK p).resolve_left he).1) (if_pos he)
theorem Ziv {out out':List (List Zc)} {p:List Zc} (h:Zap out p=some out') (hl:out.length≤400):out'.length≤400:=by
 unfold Zap at h
 split at h
 ·cases h
 ·split at h
  ·cases h;exact hl
  ·split at h
   ·cases h
   ·cases h;simp;omega
theorem Zm8:∀ {l:List (List Zc)} {out out':List (List Zc)},l.foldlM Zap out=some out'→out.length≤400→out'.length≤400
 | [],out,out',h,hl=>by cases h;exact hl
 | p::l,out,out',h,hl=>by
   simp only [List.foldlM_cons,Option.bind_eq_bind,Option.bind_eq_some_iff] at h
   obtain ⟨s,h1,h2⟩:=h
   exact Zm8 h2 (Ziv h1 hl)
theorem Lp.tid {body : Int × List (List Zc) × (ByteArray → Option Bool) → (Int × List (List Zc) × (ByteArray → Option Bool) → Prop) → Prop} (l a : List (List Zc)) (m0 : ByteArray → Option Bool) (ha : ZeF a m0) (hal : a.length ≤ 400) (hl : l.length ≤ 1048576 * 4)
 (h:∀ (i:Nat) out m R,i < l.length→(i:Int) < (l.length:Int)→Zw .i64 ((i:Int)+1)→ZeF out m→out.length≤400→(Zap out (l.getD i [])=some out→R ((i:Int)+1,out,m)) →
  (Zap out (l.getD i [])=some (out++[(ZaH (l.getD i [])).1])→R ((i:Int)+1,out++[(ZaH (l.getD i [])).1],Zc6 m (ZbA (Zb4 (ZaH (l.getD i [])).1)) true)) →
  (Zap out (l.getD i [])=none→l.foldlM Zap a=none)→body ((i:Int),out,m) R)
 (h2:∀ out m R,l.foldlM Zap a=some out→ZeF out m→out.length≤400→body ((l.length:Int),out,m) R):Lp body (0,a,m0):=by
 refine Lp.iter l.length (fun i y=>y.1=(i:Int)∧(l.take i).foldlM Zap a=some y.2.1∧ZeF y.2.1 y.2.2) ⟨rfl,rfl,ha⟩ ?_
 rintro i ⟨y,out,m⟩ hle ⟨hy,ht,hm⟩ R hR
 simp only at hy ht hm
 subst hy
 have hlen:=Zm8 ht hal
 by_cases e:i < l.length
 ·refine h i out m R e (by omega) ⟨by omega,by omega⟩ hm hlen (fun hs=>hR e _ ⟨rfl,?_,hm⟩) (fun hs=>hR e _ ⟨rfl,?_,hm.put _⟩) (fun hn=>Zhw ht e hn)
  ·rw [ZcM (d:=[]) ht e,hs]
  ·rw [ZcM (d:=[]) ht e,hs]
 ·have:i=l.length:=by omega
  subst this
  rw [List.take_length] at ht
  exact h2 out m R ht hm hlen
theorem Z1.b {s:Ze2} (h:Z1 s=true):0≤s.1∧s.1≤12∧s.2.length≤400∧∀ p∈s.2,p.length≤96∧(∀ c∈p,Zf c=true∧(c.2.2.1.length:Int)=s.1):=by
 simp only [Z1,Bool.and_eq_true,decide_eq_true_eq,List.all_eq_true,Ze0,beq_iff_eq] at h
 obtain ⟨⟨⟨h1,h2⟩,h3⟩,h4⟩:=h
 refine ⟨h1,h2,by omega,fun p hp=>?_⟩
 obtain ⟨h5,h6⟩:=h4 p hp
 exact ⟨by omega,h6⟩
theorem Z1.piece {s:Ze2} (h:Z1 s=true) {p:List Zc} (hp:p∈s.2):p.length≤96∧∀ c∈p,Zf c=true:=by
 obtain ⟨h1,h2⟩:=(Z1.b h).2.2.2 p hp
 exact ⟨h1,fun c hc=>(h2 c hc).1⟩
theorem Z1.B {s:Ze2} (h:Z1 s=true) {p:List Zc} (hp:p∈s.2):ZaG p:=by
 obtain ⟨h1,h2⟩:=Z1.piece h hp
 exact ⟨by omega,fun c hc=>Zf.condB (h2 c hc)⟩
theorem ZV.spec (x:Ze2):ZV.wp x (fun r=>r=ZV.fn (x,())):=by
 have hfn:ZV.fn (x,())=ZaY x:=rfl
 simp only [ZV.wp,ZaA.fn,hfn]
 cases hv:Z1 x with
 | false=>simp [ZaY,hv]
 | true =>
   have hn:ZaY x=Zhx x.1 (x.2.foldlM Zap []):=by simp [ZaY,hv,ZfS]
   simp only [Bool.not_true,cond_false,hn]
   refine Lp.tid x.2 [] _ ZeF.nil (by simp) (by have:=(Z1.b hv).2.2.1;omega) ?_ ?_
   ·intro i out m R e e2 hf hk hl h1 h2 h3
    simp only [decide_eq_true e2,Int.toNat_natCast,cond_true]
    refine ⟨⟨by omega,by omega⟩,ZeC (Z1.B hv (Zl e)) hk hl (fun h4 hn=>?_) (fun hs=>⟨hf,h1 hs⟩) (fun hn=>?_) (fun hs=>⟨hf,h2 hs⟩)⟩
    ·simp only [Za.fn,h4,show ((3:Int) != 0)=true from rfl,cond_true]
     rw [h3 hn];rfl
    ·rw [h3 hn];rfl
   ·intro out m R ht hk hl
    simp only [Int.lt_irrefl,decide_false,cond_false]
    rw [ht];rfl
theorem ZoT {n i:Nat} (h:i < n):(List.range n).getD i 0=i:=by
 rw [ZT (by simpa using h)];simp
def PP (l:List (List Zc)):Prop:=l.length≤400∧∀ p∈l,p.length≤96∧∀ c∈p,Zf c=true
theorem PP.v {l:List (List Zc)} (h:PP l) {p:List Zc} (hp:p∈l):ZgI p:=⟨by have:=(h.2 p hp).1;omega,(h.2 p hp).2⟩
theorem PP.nil:PP []:=⟨by simp,by simp⟩
theorem Zoa {out out':List (List Zc)} {p:List Zc} (h:Zap out p=some out') (hl:PP out) (hp:ZaG p):PP out':=by
 refine ⟨Ziv h hl.1,?_⟩
 unfold Zap at h
 split at h
 ·cases h
 ·split at h
  ·cases h;exact hl.2
  ·split at h
   ·cases h
   ·cases h
    intro q hq
    rcases List.mem_append.1 hq with hq | hq
    ·exact hl.2 q hq
    ·simp only [List.mem_singleton] at hq;subst hq
     exact ⟨ZhB p,Zhl hp⟩
theorem Zmz:∀ {l:List (List Zc)} {out out':List (List Zc)},l.foldlM Zap out=some out'→PP out→(∀ p∈l,ZaG p)→PP out'
 | [],out,out',h,hl,_=>by cases h;exact hl
 | p::l,out,out',h,hl,hb=>by
   simp only [List.foldlM_cons,Option.bind_eq_bind,Option.bind_eq_some_iff] at h
   obtain ⟨s,h1,h2⟩:=h
   exact Zmz h2 (Zoa h1 hl (hb p (by simp))) fun q hq=>hb q (by simp [hq])
theorem ZrG {x:Ze2} (h:(ZaY x).2=0):PP (ZaY x).1.2∧(ZaY x).1.1=x.1:=by
 unfold ZaY at h ⊢
 split at h
 ·cases h
 ·rename_i hv
  rw [if_neg hv]
  rw [Bool.not_eq_false] at hv
  unfold Zhx at h ⊢
  rcases ZaJ (ZfS x.2) with ho | ⟨out,ho⟩
  ·rw [ho] at h;cases h
  ·rw [ho]
   exact ⟨Zmz ho PP.nil fun p hp=>Z1.B hv hp,rfl⟩
theorem Zad.spec (c:Zc):Zad.wp c (fun r=>r=Zad.fn (c,())):=rfl
theorem ZaC.spec (p:List Zc) (n:Int):ZaC.wp p n (fun r=>r=ZaC.fn (p,n,())):=by
 have hfn:ZaC.fn (p,n,())=Zbi p n:=rfl
 simp only [ZaC.wp,hfn,Za0.fn,Za.fn,Zd.fn]
 refine ⟨fun h=>⟨h,trivial⟩,fun h=>by rw [h];rfl,?_⟩
 by_cases h1:n < 0∨12 < n
 ·have:(decide (n < 0)||decide (12 < n))=true:=by simpa using h1
  rw [this]
  simp [Zbi,h1]
 ·have:(decide (n < 0)||decide (12 < n))=false:=by
   rw [not_or] at h1;simp [h1]
  rw [this]
  have hs:Zbi p n=if 384 < p.length then ([],false,3) else if p.any (fun c=>!Zf c) then ([],false,1) else if Ze0 p n=false then ([],false,2) else ZaH p:=by
   unfold Zbi;exact if_neg h1
  simp only [cond_false]
  by_cases h2:384 < p.length
  ·rw [decide_eq_true (show (384:Int) < (p.length:Int) by omega)]
   rw [hs,if_pos h2];rfl
  ·rw [decide_eq_false (show ¬ (384:Int) < (p.length:Int) by omega)]
   rw [if_neg h2] at hs
   refine ⟨fun _ _=>trivial,?_⟩
   cases h3:p.any (fun c=>!Zf c) with
   | true =>
     rw [h3] at hs
     exact hs.symm
   | false =>
     rw [h3] at hs
     simp only [cond_false,Bool.false_eq_true,if_false] at hs ⊢
     cases h4:Ze0 p n with
     | false=>rw [h4] at hs;exact hs.symm
     | true =>
       rw [h4] at hs
       simp only [Bool.not_true,cond_false,Bool.true_eq_false,if_false] at hs ⊢
       refine ⟨⟨(by omega:p.length≤1048576),fun c hc=>Zf.condB ?_⟩,hs.symm⟩
       have:=List.any_eq_false.1 h3 c hc
       simpa using this
theorem ZcA {n m x y:Int} (hn:0≤n) (hm:0≤m) (h1:-n≤x) (h2:x≤n) (h3:-m≤y) (h4:y≤m):-(n*m)≤x*y∧x*y≤n*m:=by
 have h:(x*y).natAbs≤n.natAbs*m.natAbs:=by rw [Int.natAbs_mul];exact Nat.mul_le_mul (by omega) (by omega)
 have e:n*m=((n.natAbs*m.natAbs:Nat):Int):=by rw [Int.natCast_mul,Int.natAbs_of_nonneg hn,Int.natAbs_of_nonneg hm]
 rw [e];omega
def ZdJ (p:List Zc) (n:Nat):Prop:=∀ c∈p,c.2.2.1.length=n
def ZvB (l:Lin) (n k:Int):Lin:=(l.1.map (·.tdiv n),k)
abbrev ZP.fn (x:Lin×Int×Int×Unit):Lin:=ZvB x.1 x.2.1 x.2.2.1
abbrev ZP.pre (x:Lin×Int×Int×Unit):Prop:=x.2.1≠0∧x.1.1.length≤1048576∧Zcv x.1.1
abbrev ZF.fn (x:Zc×Unit):Zc×Int:=Zbm x.1
abbrev ZF.pre (x:Zc×Unit):Prop:=condB x.1
def Za9 (a b:Zc):Int:=if a.2.2.1=b.2.2.1 then 1 else if a.2.2.1=ZbK b.2.2.1 then -1 else 0
abbrev ZA.fn (x:Zc×Zc×Unit):Int:=Za9 x.1 x.2.1
abbrev ZA.pre (x:Zc×Zc×Unit):Prop:=x.1.2.2.1.length=x.2.1.2.2.1.length∧x.1.2.2.1.length≤1048576∧Zcv x.2.1.2.2.1
abbrev ZQ.fn (x:List Int×List Int×Unit):Int:=Zcx x.1 x.2.1
abbrev ZQ.pre (x:List Int×List Int×Unit):Prop:=x.1.length=x.2.1.length
abbrev Zav.fn (x:Int×Unit):Int:=ZbP x.1
abbrev ZaK.fn (x:Lin×Lin×Unit):Int:=Zcx (x.1.1++[x.1.2]) (x.2.1.1++[x.2.1.2])
abbrev ZaK.pre (x:Lin×Lin×Unit):Prop:=x.1.1.length=x.2.1.1.length∧x.1.1.length≤1048576
abbrev Zaz.fn (x:Zc×Zc×Unit):Int:=ZgX x.1 x.2.1
abbrev Zaz.pre (x:Zc×Zc×Unit):Prop:=x.1.2.2.1.length=x.2.1.2.2.1.length∧x.1.2.2.1.length≤1048576
abbrev ZL.fn (x:List Zc×Unit):List Zc:=ZaX x.1
abbrev ZL.pre (x:List Zc×Unit):Prop:=x.1.length≤2199023255552∧∃ n,n≤1048576∧ZdJ x.1 n
def ZsW (p:List Zc):Prop:=ZaG p∧∃ n,ZdJ p n
abbrev ZU.fn (x:List Zc×Unit):List Zc×Bool×Int:=ZaH x.1
abbrev ZU.pre (x:List Zc×Unit):Prop:=ZsW x.1
def Zd4 (a:Int) (l:Lin) (b:Int) (m:Lin):Lin:=((List.range l.1.length).map fun i=>a*l.1.getD i 0+b*m.1.getD i 0,a*l.2+b*m.2)
def ZeT (l:Lin):Prop:=l.1.length≤1048576∧(∀ n∈l.1,-4294967296≤n∧n≤4294967296)∧-4294967296≤l.2∧l.2≤4294967296
abbrev ZbL.fn (x:Int×Lin×Int×Lin×Unit):Lin:=Zd4 x.1 x.2.1 x.2.2.1 x.2.2.2.1
abbrev ZbL.pre (x:Int×Lin×Int×Lin×Unit):Prop:=(-1048576≤x.1∧x.1≤1048576)∧ZeT x.2.1∧(-1048576≤x.2.2.1∧x.2.2.1≤1048576)∧ZeT x.2.2.2.1∧x.2.1.1.length=x.2.2.2.1.1.length
abbrev Z8.fn (x:List Zc×Int×Unit):List Zc×Bool×Int:=Zbi x.1 x.2.1
def isF (c:Zc) (p:List Int):Bool:=Zfs c (c.2.2.2+Ze7 c.2.2.1 p)
end Go.Proofs.YtgpdnmfpgkkgcaaGreatDoor
