/- Part of a proof that a law of the program holds for every input: what the functions answer, in plain Lean. No conditions. -/
import Derived.Lib.ItoaLen
import Derived.Test.YtgpdnmfpgkkgcaaGreatDoorK10
namespace Go.Proofs.YtgpdnmfpgkkgcaaGreatDoor
open Go
set_option linter.unusedVariables false
theorem Lp.iter{σ:Type}{body:σ→(σ→Prop)→Prop}(n:Nat)(I:Nat→σ→Prop){x:σ}(hx:I 0 x)(h:∀ i y,i≤n→I i y→∀ R:σ→Prop,(i < n→∀ y',I (i+1) y'→R y')→body y R):Lp body x:=by
 intro R hR
 have key:∀ k i y,i+k=n→I i y→R y:=by
  intro k
  induction k with
  | zero=>exact fun i y e hi=>hR _ (h i y (by omega) hi R fun hlt=>by omega)
  | succ k ih=>exact fun i y e hi=>hR _ (h i y (by omega) hi R fun _ y' hy'=>ih (i+1) y' (by omega) hy')
 exact key n 0 x (by omega) hx
theorem ZD{α:Type}{l:List α}{d:α}{i:Nat}(h:i < l.length):l.getD i d=l[i]:=by
 rw[List.getD_eq_getElem?_getD,List.getElem?_eq_getElem h];rfl
theorem Zqz{α:Type}{l:List α}{d:α}{p:α→Bool}{i:Nat}(hi:i < l.length)(h:p (l.getD i d)=false):l.all p=false:=by
 rw[List.getD_eq_getElem?_getD,List.getElem?_eq_getElem hi] at h
 rw[List.all_eq_false]
 exact⟨l[i],List.getElem_mem hi,by simpa using h⟩
theorem Zts{α:Type}{l:List α}{d:α}{p:α→Bool}(h:∀ j,j < l.length→p (l.getD j d)=true):l.all p=true:=by
 rw[List.all_eq_true]
 intro x hx
 obtain⟨i,hi,rfl⟩:=List.mem_iff_getElem.1 hx
 have:=h i hi
 rwa [List.getD_eq_getElem?_getD,List.getElem?_eq_getElem hi] at this
theorem Lp.all {α : Type} {body : Int → (Int → Prop) → Prop} (l : List α) (d : α) (p : α → Bool) (hl : l.length ≤ 9223372036854775807)
 (h:∀ (i:Nat) (R:Int→Prop),i < l.length→(i:Int) < (l.length:Int)→Zo .i64 ((i:Int)+1)→(p (l.getD i d)=true→R ((i:Int)+1))→(p (l.getD i d)=false→l.all p=false)→body (i:Int) R)
 (h2:∀ R:Int→Prop,l.all p=true→body (l.length:Int) R):Lp body 0:=by
 refine Lp.iter l.length (fun i y=>y=(i:Int)∧∀ j,j < i→p (l.getD j d)=true) ⟨rfl,fun j hj=>absurd hj (by omega)⟩ ?_
 rintro i y hle ⟨rfl,hi⟩ R hR
 by_cases e:i < l.length
 ·refine h i R e (by omega) ⟨by omega,by omega⟩ (fun hp=>hR e _ ⟨by omega,fun j hj=>?_⟩) (fun hp=>Zqz e hp)
  by_cases ej:j=i
  ·subst ej;exact hp
  ·exact hi j (by omega)
 ·have:i=l.length:=by omega
  subst this
  exact h2 R (Zts hi)
theorem Lp.foldl {α τ : Type} {body : Int × τ → (Int × τ → Prop) → Prop} (l : List α) (d : α) (f : τ → α → τ) (a : τ) (hl : l.length ≤ 9223372036854775807)
 (h:∀ (i:Nat) (t:τ) (R:Int×τ→Prop),i < l.length→(i:Int) < (l.length:Int)→Zo .i64 ((i:Int)+1)→t=(l.take i).foldl f a→R ((i:Int)+1,f t (l.getD i d))→body ((i:Int),t) R)
 (h2:∀ R:Int×τ→Prop,body ((l.length:Int),l.foldl f a) R):Lp body (0,a):=by
 refine Lp.iter l.length (fun i y=>y=((i:Int),(l.take i).foldl f a)) rfl ?_
 rintro i y hle rfl R hR
 by_cases e:i < l.length
 ·refine h i _ R e (by omega) ⟨by omega,by omega⟩ rfl ?_
  refine hR e _ ?_
  have:l.take (i+1)=l.take i++[l.getD i d]:=by
   rw[List.getD_eq_getElem?_getD,List.getElem?_eq_getElem e];simp
  rw[this,List.foldl_append]
  rfl
 ·have:i=l.length:=by omega
  subst this
  rw[List.take_length]
  exact h2 R
theorem Zj{α:Type}{l:List α}{d:α}{i:Nat}(h:i < l.length):l.getD i d∈l:=by
 rw[ZD h];exact List.getElem_mem h
theorem Lp.foldO {α τ : Type} {body : Int × τ → (Int × τ → Prop) → Prop} (l : List α) (d : α) (f : τ → α → Option τ) (a : τ) (hl : l.length ≤ 9223372036854775807)
 (h:∀ (i:Nat) (t:τ) (R:Int×τ→Prop),i < l.length→(i:Int) < (l.length:Int)→Zo .i64 ((i:Int)+1)→(l.take i).foldlM f a=some t→(∀ t',f t (l.getD i d)=some t'→R ((i:Int)+1,t'))→(f t (l.getD i d)=none→l.foldlM f a=none)→body ((i:Int),t) R)
 (h2:∀ (t:τ) (R:Int×τ→Prop),l.foldlM f a=some t→body ((l.length:Int),t) R):Lp body (0,a):=by
 refine Lp.iter l.length (fun i y=>∃ t,y=((i:Int),t)∧(l.take i).foldlM f a=some t) ⟨a,rfl,rfl⟩ ?_
 rintro i y hle ⟨t,rfl,ht⟩ R hR
 by_cases e:i < l.length
 ·have hs:l.take (i+1)=l.take i++[l.getD i d]:=by
   rw[List.getD_eq_getElem?_getD,List.getElem?_eq_getElem e];simp
  refine h i t R e (by omega) ⟨by omega,by omega⟩ ht (fun t' ht'=>hR e _ ⟨t',rfl,?_⟩) (fun hn=>?_)
  ·rw[hs,List.foldlM_append,ht]
   show (f t (l.getD i d)).bind _=_
   rw[ht'];rfl
  ·have h3:l=l.take i++(l.getD i d::l.drop (i+1)):=by
    rw[List.getD_eq_getElem?_getD,List.getElem?_eq_getElem e]
    simp
   rw[h3,List.foldlM_append,ht]
   simp only[Option.bind_eq_bind,Option.bind_some,List.foldlM_cons]
   have e4:(l.take i++l.getD i d::l.drop (i+1)).getD i d=l.getD i d:=by rw[← h3]
   rw[hn];rfl
 ·have:i=l.length:=by omega
  subst this
  rw[List.take_length] at ht
  exact h2 t R ht
theorem Lp.fill {α β : Type} {body : Int × List β → (Int × List β → Prop) → Prop} (l : List α) (d : α) (z : β) (f : α → β) (hl : l.length ≤ 9223372036854775807)
 (h:∀ (i:Nat) (out:List β) (R:Int×List β→Prop),i < l.length→(i:Int) < (l.length:Int)→Zo .i64 ((i:Int)+1)→out.length=l.length→R ((i:Int)+1,out.set i (f (l.getD i d)))→body ((i:Int),out) R)
 (h2:∀ R:Int×List β→Prop,body ((l.length:Int),l.map f) R):Lp body (0,List.replicate l.length z):=by
 refine Lp.iter l.length (fun i y=>y=((i:Int),(l.take i).map f++List.replicate (l.length - i) z)) (by simp) ?_
 rintro i y hle rfl R hR
 by_cases e:i < l.length
 ·refine h i _ R e (by omega) ⟨by omega,by omega⟩ (by simp;omega) (hR e _ ?_)
  congr 1
  have h1:l.length - i=(l.length - (i+1))+1:=by omega
  rw[h1,List.replicate_succ,List.set_append_right _ _ (by simp;omega)]
  have h3:i - ((l.take i).map f).length=0:=by simp;omega
  rw[h3,List.set_cons_zero,ZD e]
  have h4:l.take (i+1)=l.take i++[l[i]]:=by simp
  rw[h4,List.map_append,List.append_assoc]
  rfl
 ·have:i=l.length:=by omega
  subst this
  simp only[List.take_length,Nat.sub_self,List.replicate_zero,List.append_nil]
  exact h2 R
abbrev Lin:=List Int×Int
abbrev Zc:=Int×Int×List Int×Int
abbrev ZbK:=Int×List (List Zc)
abbrev Za:Zc:=(0,0,[],0)
def Fit(n:Int):Bool:=decide (-1048576≤n)&&decide (n≤1048576)
def Zaj(l:Lin):Bool:=l.1.all Fit&&(decide ((l.1.length:Int)≤12)&&Fit l.2)
def Zi(c:Zc):Bool:=if c.1=0∨c.1=1 then c.2.1 == 0&&Zaj c.2.2 else if c.1=2 then (decide (1≤c.2.1)&&decide (c.2.1≤512))&&Zaj c.2.2 else false
def Zlj(p:List Zc)(n:Int):Bool:=p.all fun c=>Zi c&&((c.2.2.1.length:Int) == n)
def Zl(s:ZbK):Bool:=decide (0≤s.1)&&decide (s.1≤12)&&decide ((s.2.length:Int)≤400)&&s.2.all fun p=>decide ((p.length:Int)≤96)&&Zlj p s.1
abbrev ZbF.fn(x:Int×Unit):Bool:=Fit x.1
abbrev Za2.fn(x:Lin×Unit):Bool:=Zaj x.1
abbrev ZG.fn(x:Zc×Unit):Bool:=Zi x.1
abbrev ZbL.fn(x:List Zc×Int×Unit):Bool:=Zlj x.1 x.2.1
abbrev ZaB.fn(x:ZbK×Unit):Bool:=Zl x.1
abbrev ZaX.fn(x:Int×Unit):Bool:=Fit x.1
abbrev ZaO.fn(x:Lin×Unit):Bool:=Zaj x.1
abbrev Zay.fn(x:Zc×Unit):Bool:=Zi x.1
abbrev ZZ.fn(x:ZbK×Unit):Bool:=Zl x.1
abbrev Za8.fn(x:Lin×Lin×Unit):Bool:=decide (x.1=x.2.1)
abbrev ZaQ.fn(x:Zc×Zc×Unit):Bool:=decide (x.1=x.2.1)
abbrev ZM.fn(x:List Zc×List Zc×Unit):Bool:=decide (x.1=x.2.1)
abbrev ZaG.fn(x:ZbK×ZbK×Unit):Bool:=decide (x.1=x.2.1)
def Za1(l:List Int):Nat:=l.foldl (fun g n=>Nat.gcd g n.natAbs) 0
abbrev Zbh.fn(x:Int×Unit):Int:=if x.1 < 0 then IntKind.wrap .u64 (-IntKind.wrap .u64 x.1) else IntKind.wrap .u64 x.1
abbrev Z8.fn(x:Int×Int×Unit):Int:=if x.2.1≤0 then x.1 else if x.1 < 0 then x.2.1 else (Nat.gcd x.1.toNat x.2.1.toNat:Nat)
abbrev ZaH.fn(x:Int×Int×Unit):Int:=Z8.fn (x.1,Zbh.fn (x.2.1,()),())
abbrev ZC.fn(x:List Int×Int×((Int×Int→Prop)×(Int×Int→Int))×Unit):Int:=x.1.foldl (fun g n=>x.2.2.1.2 (g,n)) x.2.1
abbrev ZC.pre(x:List Int×Int×((Int×Int→Prop)×(Int×Int→Int))×Unit):Prop:=∀ g,∀ n∈x.1,x.2.2.1.1 (g,n)
def ZcO(l:List Int):Prop:=∀ n∈l,-9223372036854775807≤n∧n≤9223372036854775807
abbrev Zbe.fn(x:List Int×Unit):Int×Int:=((Za1 x.1:Nat),0)
abbrev Zbe.pre(x:List Int×Unit):Prop:=ZcO x.1
abbrev ZaY.fn(x:List Int×Unit):Int×Int:=Zbe.fn x
abbrev ZaY.pre(x:List Int×Unit):Prop:=ZcO x.1
abbrev Zas.fn(x:Int×Int×Unit):Int×Int:=if x.2.1 < 1 then (0,1) else (x.1 / x.2.1,0)
abbrev Zas.pre(x:Int×Int×Unit):Prop:=-9223372036854775807≤x.1∧x.1≤9223372036854775807
abbrev Zba.fn(x:Int×Int×Unit):Int×Int:=if x.2.1 < 1 then (0,1) else (x.1 % x.2.1,0)
abbrev Zba.pre(x:Int×Int×Unit):Prop:=x.2.1≤9223372036854775807
abbrev Zal.fn(x:Int×Int×Unit):Int×Int:=Zas.fn x
abbrev Zal.pre(x:Int×Int×Unit):Prop:=Zas.pre x
abbrev ZaM.fn(x:Int×Int×Unit):Int×Int:=Zba.fn x
abbrev ZaM.pre(x:Int×Int×Unit):Prop:=Zba.pre x
abbrev Zbf.fn(x:Int×Unit):Int:=Zbh.fn x
set_option maxRecDepth 4000
def ZbF.wp(x0:Int)(Q:Bool→Prop):Prop:=((decide ((-(1048576:Int))≤x0)=true→(decide ((-(1048576:Int))≤x0)=true∧True))∧((decide ((-(1048576:Int))≤x0)=true→decide ((-(1048576:Int))≤x0)=true)∧Q (decide ((-(1048576:Int))≤x0)&&decide (x0≤(1048576:Int)))))
def Za2.wp(x0:Lin)(Q:Bool→Prop):Prop:=Lp (σ:=Int) (fun y2 R2=>cond (decide (y2 < ((List.length x0.1:Nat):Int))) (((0:Int)≤y2∧y2 < ((List.length x0.1:Nat):Int))∧cond (!(ZbF.fn ((List.getD x0.1 (Int.toNat y2) (0:Int)),()))) (Q false) (Zo IntKind.i64 (y2+(1:Int))∧R2 (y2+(1:Int)))) ((decide (((List.length x0.1:Nat):Int)≤(12:Int))=true→(decide (((List.length x0.1:Nat):Int)≤(12:Int))=true∧True))∧((decide (((List.length x0.1:Nat):Int)≤(12:Int))=true→(decide (((List.length x0.1:Nat):Int)≤(12:Int))=true∧True))∧((decide (((List.length x0.1:Nat):Int)≤(12:Int))=true→decide (((List.length x0.1:Nat):Int)≤(12:Int))=true)∧Q (decide (((List.length x0.1:Nat):Int)≤(12:Int))&&ZbF.fn (x0.2,())))))) (0:Int)
def ZG.wp(x0:Zc)(Q:Bool→Prop):Prop:=let v0:=Za2.fn (x0.2.2,());cond (x0.1 == (0:Int)) (cond (x0.1 == (0:Int)) (((x0.2.1 == (0:Int))=true→((x0.2.1 == (0:Int))=true∧True))∧(((x0.2.1 == (0:Int))=true→((x0.2.1 == (0:Int))=true∧True))∧(((x0.2.1 == (0:Int))=true→(x0.2.1 == (0:Int))=true)∧Q ((x0.2.1 == (0:Int))&&v0)))) (cond (x0.1 == (2:Int)) ((decide ((1:Int)≤x0.2.1)=true→(decide ((1:Int)≤x0.2.1)=true∧True))∧((decide ((1:Int)≤x0.2.1)=true→(decide ((1:Int)≤x0.2.1)=true∧True))∧((decide ((1:Int)≤x0.2.1)=true→decide ((1:Int)≤x0.2.1)=true)∧(((decide ((1:Int)≤x0.2.1)&&decide (x0.2.1≤(512:Int)))=true→((decide ((1:Int)≤x0.2.1)&&decide (x0.2.1≤(512:Int)))=true∧True))∧(((decide ((1:Int)≤x0.2.1)&&decide (x0.2.1≤(512:Int)))=true→((decide ((1:Int)≤x0.2.1)&&decide (x0.2.1≤(512:Int)))=true∧True))∧(((decide ((1:Int)≤x0.2.1)&&decide (x0.2.1≤(512:Int)))=true→(decide ((1:Int)≤x0.2.1)&&decide (x0.2.1≤(512:Int)))=true)∧Q ((decide ((1:Int)≤x0.2.1)&&decide (x0.2.1≤(512:Int)))&&v0))))))) (Q false))) (cond (x0.1 == (1:Int)) (((x0.2.1 == (0:Int))=true→((x0.2.1 == (0:Int))=true∧True))∧(((x0.2.1 == (0:Int))=true→((x0.2.1 == (0:Int))=true∧True))∧(((x0.2.1 == (0:Int))=true→(x0.2.1 == (0:Int))=true)∧Q ((x0.2.1 == (0:Int))&&v0)))) (cond (x0.1 == (2:Int)) ((decide ((1:Int)≤x0.2.1)=true→(decide ((1:Int)≤x0.2.1)=true∧True))∧((decide ((1:Int)≤x0.2.1)=true→(decide ((1:Int)≤x0.2.1)=true∧True))∧((decide ((1:Int)≤x0.2.1)=true→decide ((1:Int)≤x0.2.1)=true)∧(((decide ((1:Int)≤x0.2.1)&&decide (x0.2.1≤(512:Int)))=true→((decide ((1:Int)≤x0.2.1)&&decide (x0.2.1≤(512:Int)))=true∧True))∧(((decide ((1:Int)≤x0.2.1)&&decide (x0.2.1≤(512:Int)))=true→((decide ((1:Int)≤x0.2.1)&&decide (x0.2.1≤(512:Int)))=true∧True))∧(((decide ((1:Int)≤x0.2.1)&&decide (x0.2.1≤(512:Int)))=true→(decide ((1:Int)≤x0.2.1)&&decide (x0.2.1≤(512:Int)))=true)∧Q ((decide ((1:Int)≤x0.2.1)&&decide (x0.2.1≤(512:Int)))&&v0))))))) (Q false)))
def ZbL.wp(x0:List Zc)(x1:Int)(Q:Bool→Prop):Prop:=Lp (σ:=Int) (fun y3 R3=>let v0:=List.getD x0 (Int.toNat y3) Za;cond (decide (y3 < ((List.length x0:Nat):Int))) (((0:Int)≤y3∧y3 < ((List.length x0:Nat):Int))∧(((!(!(ZG.fn (v0,()))))=true→((!(!(ZG.fn (v0,()))))=true∧True))∧(((!(!(ZG.fn (v0,()))))=true→((!(!(ZG.fn (v0,()))))=true∧True))∧(((!(!(ZG.fn (v0,()))))=true→((!(!(ZG.fn (v0,()))))=true∧True))∧(((!(!(ZG.fn (v0,()))))=true→((!(!(ZG.fn (v0,()))))=true∧((!(!(ZG.fn (v0,()))))=true∧True)))∧(((!(ZG.fn (v0,())))=false→(!(!(ZG.fn (v0,()))))=true)∧cond ((!(ZG.fn (v0,())))||(((List.length v0.2.2.1:Nat):Int) != x1)) (Q false) (Zo IntKind.i64 (y3+(1:Int))∧R3 (y3+(1:Int))))))))) (Q true)) (0:Int)
def ZaB.wp(x0:Int×(List (List Zc)))(Q:Bool→Prop):Prop:=(((!(decide (x0.1 < (0:Int))))=true→((!(decide (x0.1 < (0:Int))))=true∧True))∧(((!(decide (x0.1 < (0:Int))))=true→((!(decide (x0.1 < (0:Int))))=true∧True))∧((decide (x0.1 < (0:Int))=false→(!(decide (x0.1 < (0:Int))))=true)∧(((!(decide (x0.1 < (0:Int))||decide ((12:Int) < x0.1)))=true→((!(decide (x0.1 < (0:Int))||decide ((12:Int) < x0.1)))=true∧True))∧(((!(decide (x0.1 < (0:Int))||decide ((12:Int) < x0.1)))=true→((!(decide (x0.1 < (0:Int))||decide ((12:Int) < x0.1)))=true∧True))∧(((!(decide (x0.1 < (0:Int))||decide ((12:Int) < x0.1)))=true→((!(decide (x0.1 < (0:Int))||decide ((12:Int) < x0.1)))=true∧True))∧(((decide (x0.1 < (0:Int))||decide ((12:Int) < x0.1))=false→(!(decide (x0.1 < (0:Int))||decide ((12:Int) < x0.1)))=true)∧cond ((decide (x0.1 < (0:Int))||decide ((12:Int) < x0.1))||decide ((400:Int) < ((List.length x0.2:Nat):Int))) (Q false) (Lp (σ:=Int) (fun y2 R2=>let v0:=List.getD x0.2 (Int.toNat y2) ([]:List (Zc));cond (decide (y2 < ((List.length x0.2:Nat):Int))) (((0:Int)≤y2∧y2 < ((List.length x0.2:Nat):Int))∧(((!(decide ((96:Int) < ((List.length v0:Nat):Int))))=true→((!(decide ((96:Int) < ((List.length v0:Nat):Int))))=true∧True))∧(((!(decide ((96:Int) < ((List.length v0:Nat):Int))))=true→((!(decide ((96:Int) < ((List.length v0:Nat):Int))))=true∧((!(decide ((96:Int) < ((List.length v0:Nat):Int))))=true∧True)))∧(((!(decide ((96:Int) < ((List.length v0:Nat):Int))))=true→((!(decide ((96:Int) < ((List.length v0:Nat):Int))))=true∧True))∧((decide ((96:Int) < ((List.length v0:Nat):Int))=false→(!(decide ((96:Int) < ((List.length v0:Nat):Int))))=true)∧cond (decide ((96:Int) < ((List.length v0:Nat):Int))||(!(ZbL.fn (v0,(x0.1,()))))) (Q false) (Zo IntKind.i64 (y2+(1:Int))∧R2 (y2+(1:Int)))))))) (Q true)) (0:Int)))))))))
def ZaX.wp(x0:Int)(Q:Bool→Prop):Prop:=((decide ((-(1048576:Int))≤x0)=true→(decide ((-(1048576:Int))≤x0)=true∧True))∧((decide ((-(1048576:Int))≤x0)=true→decide ((-(1048576:Int))≤x0)=true)∧Q (decide ((-(1048576:Int))≤x0)&&decide (x0≤(1048576:Int)))))
def ZaO.wp(x0:Lin)(Q:Bool→Prop):Prop:=Lp (σ:=Int) (fun y2 R2=>cond (decide (y2 < ((List.length x0.1:Nat):Int))) (((0:Int)≤y2∧y2 < ((List.length x0.1:Nat):Int))∧cond (!(ZaX.fn ((List.getD x0.1 (Int.toNat y2) (0:Int)),()))) (Q false) (Zo IntKind.i64 (y2+(1:Int))∧R2 (y2+(1:Int)))) ((decide (((List.length x0.1:Nat):Int)≤(12:Int))=true→(decide (((List.length x0.1:Nat):Int)≤(12:Int))=true∧True))∧((decide (((List.length x0.1:Nat):Int)≤(12:Int))=true→(decide (((List.length x0.1:Nat):Int)≤(12:Int))=true∧True))∧((decide (((List.length x0.1:Nat):Int)≤(12:Int))=true→decide (((List.length x0.1:Nat):Int)≤(12:Int))=true)∧Q (decide (((List.length x0.1:Nat):Int)≤(12:Int))&&(ZaX.fn (x0.2,()))))))) (0:Int)
def Zay.wp(x0:Zc)(Q:Bool→Prop):Prop:=cond (!(ZaO.fn (x0.2.2,()))) (Q false) (cond (x0.1 == (2:Int)) ((decide ((1:Int)≤x0.2.1)=true→(decide ((1:Int)≤x0.2.1)=true∧True))∧((decide ((1:Int)≤x0.2.1)=true→(decide ((1:Int)≤x0.2.1)=true∧True))∧((decide ((1:Int)≤x0.2.1)=true→decide ((1:Int)≤x0.2.1)=true)∧Q (decide ((1:Int)≤x0.2.1)&&decide (x0.2.1≤(512:Int)))))) (((!(x0.1 == (0:Int)))=true→((!(x0.1 == (0:Int)))=true∧True))∧(((!(x0.1 == (0:Int)))=true→((!(x0.1 == (0:Int)))=true∧True))∧(((x0.1 == (0:Int))=false→(!(x0.1 == (0:Int)))=true)∧((((x0.1 == (0:Int))||(x0.1 == (1:Int)))=true→(((x0.1 == (0:Int))||(x0.1 == (1:Int)))=true∧True))∧((((x0.1 == (0:Int))||(x0.1 == (1:Int)))=true→(((x0.1 == (0:Int))||(x0.1 == (1:Int)))=true∧True))∧((((x0.1 == (0:Int))||(x0.1 == (1:Int)))=true→((x0.1 == (0:Int))||(x0.1 == (1:Int)))=true)∧Q (((x0.1 == (0:Int))||(x0.1 == (1:Int)))&&(x0.2.1 == (0:Int))))))))))
def ZZ.wp(x0:Int×(List (List Zc)))(Q:Bool→Prop):Prop:=(((!(decide (x0.1 < (0:Int))))=true→((!(decide (x0.1 < (0:Int))))=true∧True))∧(((!(decide (x0.1 < (0:Int))))=true→((!(decide (x0.1 < (0:Int))))=true∧True))∧((decide (x0.1 < (0:Int))=false→(!(decide (x0.1 < (0:Int))))=true)∧(((!(decide (x0.1 < (0:Int))||decide ((12:Int) < x0.1)))=true→((!(decide (x0.1 < (0:Int))||decide ((12:Int) < x0.1)))=true∧True))∧(((!(decide (x0.1 < (0:Int))||decide ((12:Int) < x0.1)))=true→((!(decide (x0.1 < (0:Int))||decide ((12:Int) < x0.1)))=true∧True))∧(((!(decide (x0.1 < (0:Int))||decide ((12:Int) < x0.1)))=true→((!(decide (x0.1 < (0:Int))||decide ((12:Int) < x0.1)))=true∧True))∧(((decide (x0.1 < (0:Int))||decide ((12:Int) < x0.1))=false→(!(decide (x0.1 < (0:Int))||decide ((12:Int) < x0.1)))=true)∧cond ((decide (x0.1 < (0:Int))||decide ((12:Int) < x0.1))||decide ((400:Int) < ((List.length x0.2:Nat):Int))) (Q false) (Lp (σ:=Int) (fun y2 R2=>let v0:=List.getD x0.2 (Int.toNat y2) ([]:List (Zc));cond (decide (y2 < ((List.length x0.2:Nat):Int))) (((0:Int)≤y2∧y2 < ((List.length x0.2:Nat):Int))∧cond (decide ((96:Int) < ((List.length v0:Nat):Int))) (Q false) (Lp (σ:=Int) (fun y4 R4=>let v1:=List.getD v0 (Int.toNat y4) Za;let v2:=Zay.fn (v1,());cond (decide (y4 < ((List.length v0:Nat):Int))) (((0:Int)≤y4∧y4 < ((List.length v0:Nat):Int))∧(((!(!v2))=true→((!(!v2))=true∧True))∧(((!(!v2))=true→((!(!v2))=true∧True))∧(((!(!v2))=true→((!(!v2))=true∧True))∧(((!(!v2))=true→((!(!v2))=true∧True))∧(((!(!v2))=true→((!(!v2))=true∧((!(!v2))=true∧True)))∧(((!v2)=false→(!(!v2))=true)∧cond ((!v2)||(((List.length v1.2.2.1:Nat):Int) != x0.1)) (Q false) (Zo IntKind.i64 (y4+(1:Int))∧R4 (y4+(1:Int)))))))))) (Zo IntKind.i64 (y2+(1:Int))∧R2 (y2+(1:Int)))) (0:Int))) (Q true)) (0:Int)))))))))
def Za8.wp(x0:Lin)(x1:Lin)(Q:Bool→Prop):Prop:=(((!(((List.length x0.1:Nat):Int) != ((List.length x1.1:Nat):Int)))=true→((!(((List.length x0.1:Nat):Int) != ((List.length x1.1:Nat):Int)))=true∧True))∧(((!(((List.length x0.1:Nat):Int) != ((List.length x1.1:Nat):Int)))=true→((!(((List.length x0.1:Nat):Int) != ((List.length x1.1:Nat):Int)))=true∧True))∧(((!(((List.length x0.1:Nat):Int) != ((List.length x1.1:Nat):Int)))=true→((!(((List.length x0.1:Nat):Int) != ((List.length x1.1:Nat):Int)))=true∧((!(((List.length x0.1:Nat):Int) != ((List.length x1.1:Nat):Int)))=true∧True)))∧(((((List.length x0.1:Nat):Int) != ((List.length x1.1:Nat):Int))=false→(!(((List.length x0.1:Nat):Int) != ((List.length x1.1:Nat):Int)))=true)∧cond ((((List.length x0.1:Nat):Int) != ((List.length x1.1:Nat):Int))||(x0.2 != x1.2)) (Q false) (Lp (σ:=Int) (fun y3 R3=>cond (decide (y3 < ((List.length x0.1:Nat):Int))) (((0:Int)≤y3∧y3 < ((List.length x0.1:Nat):Int))∧(((0:Int)≤y3∧y3 < ((List.length x1.1:Nat):Int))∧cond ((List.getD x0.1 (Int.toNat y3) (0:Int)) != (List.getD x1.1 (Int.toNat y3) (0:Int))) (Q false) (Zo IntKind.i64 (y3+(1:Int))∧R3 (y3+(1:Int))))) (Q true)) (0:Int))))))
def ZaQ.wp(x0:Zc)(x1:Zc)(Q:Bool→Prop):Prop:=(((x0.1 == x1.1)=true→((x0.1 == x1.1)=true∧True))∧(((x0.1 == x1.1)=true→((x0.1 == x1.1)=true∧True))∧(((x0.1 == x1.1)=true→((x0.1 == x1.1)=true∧((x0.1 == x1.1)=true∧True)))∧(((x0.1 == x1.1)=true→(x0.1 == x1.1)=true)∧((((x0.1 == x1.1)&&(x0.2.1 == x1.2.1))=true→(((x0.1 == x1.1)&&(x0.2.1 == x1.2.1))=true∧True))∧((((x0.1 == x1.1)&&(x0.2.1 == x1.2.1))=true→(((x0.1 == x1.1)&&(x0.2.1 == x1.2.1))=true∧True))∧((((x0.1 == x1.1)&&(x0.2.1 == x1.2.1))=true→(((x0.1 == x1.1)&&(x0.2.1 == x1.2.1))=true∧(((x0.1 == x1.1)&&(x0.2.1 == x1.2.1))=true∧True)))∧((((x0.1 == x1.1)&&(x0.2.1 == x1.2.1))=true→((x0.1 == x1.1)&&(x0.2.1 == x1.2.1))=true)∧Q (((x0.1 == x1.1)&&(x0.2.1 == x1.2.1))&&(Za8.fn (x0.2.2,(x1.2.2,()))))))))))))
def ZM.wp(x0:List Zc)(x1:List Zc)(Q:Bool→Prop):Prop:=cond (((List.length x0:Nat):Int) != ((List.length x1:Nat):Int)) (Q false) (Lp (σ:=Int) (fun y3 R3=>cond (decide (y3 < ((List.length x0:Nat):Int))) (((0:Int)≤y3∧y3 < ((List.length x0:Nat):Int))∧(((0:Int)≤y3∧y3 < ((List.length x1:Nat):Int))∧cond (!(ZaQ.fn ((List.getD x0 (Int.toNat y3) Za),((List.getD x1 (Int.toNat y3) Za),())))) (Q false) (Zo IntKind.i64 (y3+(1:Int))∧R3 (y3+(1:Int))))) (Q true)) (0:Int))
def ZaG.wp(x0:Int×(List (List Zc)))(x1:Int×(List (List Zc)))(Q:Bool→Prop):Prop:=(((!(x0.1 != x1.1))=true→((!(x0.1 != x1.1))=true∧True))∧(((!(x0.1 != x1.1))=true→((!(x0.1 != x1.1))=true∧True))∧(((!(x0.1 != x1.1))=true→((!(x0.1 != x1.1))=true∧True))∧(((!(x0.1 != x1.1))=true→((!(x0.1 != x1.1))=true∧True))∧(((!(x0.1 != x1.1))=true→((!(x0.1 != x1.1))=true∧((!(x0.1 != x1.1))=true∧True)))∧(((x0.1 != x1.1)=false→(!(x0.1 != x1.1))=true)∧cond ((x0.1 != x1.1)||(((List.length x0.2:Nat):Int) != ((List.length x1.2:Nat):Int))) (Q false) (Lp (σ:=Int) (fun y3 R3=>cond (decide (y3 < ((List.length x0.2:Nat):Int))) (((0:Int)≤y3∧y3 < ((List.length x0.2:Nat):Int))∧(((0:Int)≤y3∧y3 < ((List.length x1.2:Nat):Int))∧cond (!(ZM.fn ((List.getD x0.2 (Int.toNat y3) ([]:List (Zc))),((List.getD x1.2 (Int.toNat y3) ([]:List (Zc))),())))) (Q false) (Zo IntKind.i64 (y3+(1:Int))∧R3 (y3+(1:Int))))) (Q true)) (0:Int))))))))
def Zbh.wp(x0:Int)(Q:Int→Prop):Prop:=let v0:=IntKind.wrap IntKind.u64 x0;cond (decide (x0 < (0:Int))) (Q (IntKind.wrap IntKind.u64 (-v0))) (Q v0)
def Z8.wp(x0:Int)(x1:Int)(Q:Int→Prop):Prop:=Lp (σ:=Int×Int) (fun y3 R3=>cond (decide ((0:Int) < y3.1)) (y3.1≠(0:Int)∧R3 (Int.tmod y3.2 y3.1,y3.1)) (Q y3.2)) (x1,x0)
def ZaH.wp(x0:Int)(x1:Int)(Q:Int→Prop):Prop:=Q (Z8.fn (x0,(Zbh.fn (x1,()),())))
def ZC.wp(x0:List Int)(x1:Int)(x2:(Int×Int→Prop)×(Int×Int→Int))(Q:Int→Prop):Prop:=Lp (σ:=Int×Int) (fun y4 R4=>let v0:=List.getD x0 (Int.toNat y4.1) (0:Int);cond (decide (y4.1 < ((List.length x0:Nat):Int))) (((0:Int)≤y4.1∧y4.1 < ((List.length x0:Nat):Int))∧(x2.1 (y4.2,v0)∧(Zo IntKind.i64 (y4.1+(1:Int))∧R4 ((y4.1+(1:Int)),x2.2 (y4.2,v0))))) (Q y4.2)) ((0:Int),x1)
def Zbe.wp(x0:List Int)(Q:Int×Int→Prop):Prop:=let v0:=ZC.fn (x0,((0:Int),((fun (a2:Int×Int)=>True,fun (a2:Int×Int)=>ZaH.fn (a2.1,(a2.2,()))),())));(ZC.pre (x0,((0:Int),((fun (a2:Int×Int)=>True,fun (a2:Int×Int)=>ZaH.fn (a2.1,(a2.2,()))),())))∧cond (decide ((9223372036854775807:Int) < v0)) (Q ((0:Int),(3:Int))) (Zo IntKind.i64 v0∧Q (v0,(0:Int))))
def Zas.wp(x0:Int)(x1:Int)(Q:Int×Int→Prop):Prop:=cond (decide (x1 < (1:Int))) (Q ((0:Int),(1:Int))) ((x1≠(0:Int)∧Zo IntKind.i64 (Int.tdiv x0 x1))∧(x1≠(0:Int)∧cond (decide (Int.tmod x0 x1 < (0:Int))) (Zo IntKind.i64 (Int.tdiv x0 x1 - (1:Int))∧Q ((Int.tdiv x0 x1 - (1:Int)),(0:Int))) (Q (Int.tdiv x0 x1,(0:Int)))))
def Zba.wp(x0:Int)(x1:Int)(Q:Int×Int→Prop):Prop:=cond (decide (x1 < (1:Int))) (Q ((0:Int),(1:Int))) (x1≠(0:Int)∧cond (decide (Int.tmod x0 x1 < (0:Int))) (Zo IntKind.i64 (Int.tmod x0 x1+x1)∧Q ((Int.tmod x0 x1+x1),(0:Int))) (Q (Int.tmod x0 x1,(0:Int))))
def ZaY.wp(x0:List Int)(Q:Int×Int→Prop):Prop:=Lp (σ:=Int×Int) (fun y2 R2=>cond (decide (y2.1 < ((List.length x0:Nat):Int))) (((0:Int)≤y2.1∧y2.1 < ((List.length x0:Nat):Int))∧Lp (σ:=Int×Int) (fun y4 R4=>cond (y4.1 != (0:Int)) (y4.1≠(0:Int)∧R4 (Int.tmod y4.2 y4.1,y4.1)) (Zo IntKind.i64 (y2.1+(1:Int))∧R2 ((y2.1+(1:Int)),y4.2))) (Zbf.fn ((List.getD x0 (Int.toNat y2.1) (0:Int)),()),y2.2)) (cond (y2.2 == (9223372036854775808:Int)) (Q ((0:Int),(3:Int))) (Zo IntKind.i64 y2.2∧Q (y2.2,(0:Int))))) ((0:Int),(0:Int))
def Zal.wp(x0:Int)(x1:Int)(Q:Int×Int→Prop):Prop:=cond (decide (x1 < (1:Int))) (Q ((0:Int),(1:Int))) ((x1≠(0:Int)∧Zo IntKind.i64 (Int.tdiv x0 x1))∧(x1≠(0:Int)∧cond (decide (Int.tmod x0 x1 < (0:Int))) (Zo IntKind.i64 (Int.tdiv x0 x1 - (1:Int))∧Q ((Int.tdiv x0 x1 - (1:Int)),(0:Int))) (Q (Int.tdiv x0 x1,(0:Int)))))
def ZaM.wp(x0:Int)(x1:Int)(Q:Int×Int→Prop):Prop:=cond (decide (x1 < (1:Int))) (Q ((0:Int),(1:Int))) (x1≠(0:Int)∧cond (decide (Int.tmod x0 x1 < (0:Int))) (Zo IntKind.i64 (Int.tmod x0 x1+x1)∧Q ((Int.tmod x0 x1+x1),(0:Int))) (Q (Int.tmod x0 x1,(0:Int))))
def Zbf.wp(x0:Int)(Q:Int→Prop):Prop:=let v0:=IntKind.wrap IntKind.u64 x0;cond (decide (x0 < (0:Int))) (Q (IntKind.wrap IntKind.u64 (-v0))) (Q v0)
theorem ZbF.spec(x:Int):ZbF.wp x (fun r=>r=ZbF.fn (x,())):=by simp[ZbF.wp,ZbF.fn,Fit]
theorem ZaX.spec(x:Int):ZaX.wp x (fun r=>r=ZaX.fn (x,())):=by simp[ZaX.wp,ZaX.fn,Fit]
theorem Za2.spec(x:Lin)(hl:x.1.length≤9223372036854775807):Za2.wp x (fun r=>r=Za2.fn (x,())):=by
 refine Lp.all x.1 0 Fit hl (fun i R hi hi' hf ht hff=>?_) (fun R h=>?_)
 ·rw[decide_eq_true hi']
  refine⟨⟨by omega,hi'⟩,?_⟩
  rw[Int.toNat_natCast]
  show cond (!Fit (x.1.getD i 0)) _ _
  cases h:Fit (x.1.getD i 0) with
  | true=>exact⟨hf,ht h⟩
  | false=>simp[Za2.fn,Zaj,hff h]
 ·simp[Za2.fn,ZbF.fn,Zaj,h]
theorem ZaO.spec(x:Lin)(hl:x.1.length≤9223372036854775807):ZaO.wp x (fun r=>r=ZaO.fn (x,())):=by
 refine Lp.all x.1 0 Fit hl (fun i R hi hi' hf ht hff=>?_) (fun R h=>?_)
 ·rw[decide_eq_true hi']
  refine⟨⟨by omega,hi'⟩,?_⟩
  rw[Int.toNat_natCast]
  show cond (!Fit (x.1.getD i 0)) _ _
  cases h:Fit (x.1.getD i 0) with
  | true=>exact⟨hf,ht h⟩
  | false=>simp[ZaO.fn,Zaj,hff h]
 ·simp[ZaO.fn,ZaX.fn,Zaj,h]
theorem ZG.spec(x:Zc):ZG.wp x (fun r=>r=ZG.fn (x,())):=by
 obtain⟨k,m,l⟩:=x
 by_cases h0:k=0
 ·subst h0;simp[ZG.wp,ZG.fn,Zi,Za2.fn]
 by_cases h1:k=1
 ·subst h1;simp[ZG.wp,ZG.fn,Zi,Za2.fn]
 by_cases h2:k=2
 ·subst h2;simp[ZG.wp,ZG.fn,Zi,Za2.fn]
 simp[ZG.wp,ZG.fn,Zi,Za2.fn,h0,h1,h2]
theorem Zay.spec(x:Zc):Zay.wp x (fun r=>r=Zay.fn (x,())):=by
 obtain⟨k,m,l⟩:=x
 simp only[Zay.wp,Zay.fn,Zi,ZaO.fn]
 cases hl:Zaj l<;>by_cases h0:k=0
 all_goals first | (subst h0;simp;done) | skip
 all_goals by_cases h1:k=1
 all_goals first | (subst h1;simp;done) | skip
 all_goals by_cases h2:k=2
 all_goals first | (subst h2;simp;done) | skip
 all_goals simp[h0,h1,h2]
theorem ZbL.spec(x:List Zc)(n:Int)(hl:x.length≤9223372036854775807):ZbL.wp x n (fun r=>r=ZbL.fn (x,n,())):=by
 refine Lp.all x Za (fun c=>Zi c&&((c.2.2.1.length:Int) == n)) hl (fun i R hi hi' hf ht hff=>?_) (fun R h=>?_)
 ·simp only[decide_eq_true hi',Int.toNat_natCast,ZG.fn]
  refine⟨⟨by omega,hi'⟩,?_⟩
  have ht':Zi (x.getD i Za)=true→(((x.getD i Za).2.2.1.length:Int) == n)=true→R ((i:Int)+1):=fun h1 h2=>ht (by rw[h1,h2];rfl)
  have hff':(Zi (x.getD i Za)&&(((x.getD i Za).2.2.1.length:Int) == n))=false→ZbL.fn (x,n,())=false:=fun h=>hff h
  revert ht' hff'
  generalize x.getD i Za=c
  intro ht' hff'
  cases h1:Zi c with
  | false=>simp[hff' (by rw[h1];rfl)]
  | true =>
    cases h2:((c.2.2.1.length:Int) == n) with
    | true=>simp[bne,h2,hf,ht' h1 h2]
    | false=>simp[bne,h2,hff' (by rw[h1,h2];rfl)]
 ·simp[ZbL.fn,Zlj,h]
theorem ZaB.spec(x:ZbK)(hl:x.2.length≤9223372036854775807):ZaB.wp x (fun r=>r=ZaB.fn (x,())):=by
 obtain⟨n,ps⟩:=x
 simp only[ZaB.wp,ZaB.fn]
 have hg:∀ b:Bool,(b=true→b=true∧True):=fun b h=>⟨h,trivial⟩
 have hn:∀ b:Bool,(b=false→(!b)=true):=fun b h=>by rw[h];rfl
 refine⟨hg _,hg _,hn _,hg _,hg _,hg _,hn _,?_⟩
 by_cases h1:n < 0
 ·simp[h1,Zl,show ¬ 0≤n by omega]
 by_cases h2:12 < n
 ·simp[h1,h2,Zl,show ¬ n≤12 by omega]
 by_cases h3:(400:Int) < (ps.length:Int)
 ·simp only[decide_eq_true h3,Bool.or_true,cond_true]
  simp[Zl,show ¬ ((ps.length:Int)≤400) by omega]
 rw[decide_eq_false h1,decide_eq_false h2,decide_eq_false h3]
 have hv:∀ b,ps.all (fun p=>decide ((p.length:Int)≤96)&&Zlj p n)=b→Zl (n,ps)=b:=fun b h=>by
  simp only[Zl,h]
  rw[decide_eq_true (show (0:Int)≤n by omega),decide_eq_true (show n≤12 by omega),decide_eq_true (show (ps.length:Int)≤400 by omega)]
  rfl
 refine Lp.all ps [] (fun p=>decide ((p.length:Int)≤96)&&Zlj p n) hl (fun i R hi hi' hf ht hff=>?_) (fun R h=>?_)
 ·simp only[decide_eq_true hi',Int.toNat_natCast,ZbL.fn]
  refine⟨⟨by omega,hi'⟩,?_⟩
  by_cases h4:(96:Int) < ((ps.getD i []).length:Int)
  ·simp only[decide_eq_true h4]
   have:=hv false (hff (by rw[decide_eq_false (show ¬ (((ps.getD i []).length:Int)≤96) by omega)];rfl))
   simp[this]
  ·simp only[decide_eq_false h4]
   cases h5:Zlj (ps.getD i []) n with
   | true =>
     have:=ht (by rw[h5,decide_eq_true (show (((ps.getD i []).length:Int)≤96) by omega)];rfl)
     simp[hf,this]
   | false =>
     have:=hv false (hff (by rw[h5,Bool.and_false]))
     simp[this]
 ·simp[hv true h]
theorem ZoW{α:Type}{a b:List α}{d:α}(hl:a.length=b.length)(h:∀ j,j < a.length→a.getD j d=b.getD j d):a=b:=by
 apply List.ext_getElem hl
 intro i h1 h2
 have:=h i h1
 rwa [ZD h1,ZD h2] at this
theorem Za8.spec(x y:Lin)(hl:x.1.length≤9223372036854775807):Za8.wp x y (fun r=>r=Za8.fn (x,y,())):=by
 obtain⟨c,k⟩:=x
 obtain⟨d,m⟩:=y
 simp only[Za8.wp,Za8.fn]
 have hg:∀ b:Bool,(b=true→b=true∧True):=fun b h=>⟨h,trivial⟩
 refine⟨hg _,hg _,fun h=>⟨h,h,trivial⟩,fun h=>by rw[h];rfl,?_⟩
 by_cases h1:c.length=d.length
 ·by_cases h2:k=m
  ·subst h2
   simp only[h1,bne_self_eq_false,Bool.or_false,cond_false]
   rw[show ((d.length:Nat):Int)=(c.length:Int) by omega]
   refine Lp.iter c.length (fun i y=>y=(i:Int)∧∀ j,j < i→c.getD j 0=d.getD j 0) ⟨rfl,fun j hj=>absurd hj (by omega)⟩ ?_
   rintro i y hle ⟨rfl,hi⟩ R hR
   by_cases e:i < c.length
   ·rw[decide_eq_true (show (i:Int) < (c.length:Int) by omega)]
    refine⟨⟨by omega,by omega⟩,⟨by omega,by omega⟩,?_⟩
    rw[Int.toNat_natCast]
    by_cases h3:c.getD i 0=d.getD i 0
    ·rw[h3]
     simp only[bne_self_eq_false,cond_false]
     have hlc:c.length≤9223372036854775807:=hl
     refine⟨⟨by omega,by omega⟩,hR e _ ⟨by omega,fun j hj=>?_⟩⟩
     by_cases ej:j=i
     ·subst ej;exact h3
     ·exact hi j (by omega)
    ·rw[bne_iff_ne.2 h3]
     refine (decide_eq_false fun h=>h3 ?_).symm
     rw[Prod.mk.injEq] at h
     rw[h.1]
   ·have:i=c.length:=by omega
    subst this
    simp only[Int.lt_irrefl,decide_false,cond_false]
    exact (decide_eq_true (by rw[ZoW h1 hi])).symm
  ·simp only[bne_iff_ne.2 h2,Bool.or_true,cond_true]
   exact (decide_eq_false fun h=>h2 (by rw[Prod.mk.injEq] at h;exact h.2)).symm
 ·simp only[bne_iff_ne.2 (show ((c.length:Nat):Int)≠(d.length:Int) by omega),Bool.true_or,cond_true]
  exact (decide_eq_false fun h=>h1 (by rw[Prod.mk.injEq] at h;rw[h.1])).symm
theorem ZaQ.spec(x y:Zc):ZaQ.wp x y (fun r=>r=ZaQ.fn (x,y,())):=by
 obtain⟨k,m,l⟩:=x
 obtain⟨k',m',l'⟩:=y
 simp only[ZaQ.wp,ZaQ.fn,Za8.fn]
 by_cases h1:k=k'<;>by_cases h2:m=m'<;>simp[h1,h2,Prod.ext_iff]
theorem Zh5 {α : Type} {d : α} [DecidableEq α] {a b : List α} {Q : Bool → Prop} {body : Int → (Int → Prop) → Prop} (hl : a.length ≤ 9223372036854775807) (h1 : a.length = b.length) (hQ : Q (decide (a = b)))
 (h:∀ (i:Nat) (R:Int→Prop),i < a.length→i < b.length→Zo .i64 ((i:Int)+1)→(a.getD i d=b.getD i d→R ((i:Int)+1))→(a.getD i d≠b.getD i d→Q false)→body (i:Int) R) (h2:∀ R:Int→Prop,Q true→body (a.length:Int) R):Lp body 0:=by
 refine Lp.iter a.length (fun i y=>y=(i:Int)∧∀ j,j < i→a.getD j d=b.getD j d) ⟨rfl,fun j hj=>absurd hj (by omega)⟩ ?_
 rintro i y hle ⟨rfl,hi⟩ R hR
 by_cases e:i < a.length
 ·refine h i R e (by omega) ⟨by omega,by omega⟩ (fun he=>hR e _ ⟨by omega,fun j hj=>?_⟩) (fun hne=>?_)
  ·by_cases ej:j=i
   ·subst ej;exact he
   ·exact hi j (by omega)
  ·rwa [decide_eq_false (fun h=>hne (by rw[h]))] at hQ
 ·have:i=a.length:=by omega
  subst this
  refine h2 R ?_
  rwa [decide_eq_true (ZoW h1 hi)] at hQ
theorem ZM.spec(x y:List Zc)(hl:x.length≤9223372036854775807):ZM.wp x y (fun r=>r=ZM.fn (x,y,())):=by
 simp only[ZM.wp]
 by_cases h1:x.length=y.length
 ·rw[h1]
  simp only[bne_self_eq_false,cond_false]
  rw[← h1]
  refine Zh5 (d:=Za) hl h1 (Q:=fun r=>r=ZM.fn (x,y,())) rfl (fun i R hi hi2 hf ht hff=>?_) (fun R h=>?_)
  ·rw[decide_eq_true (show (i:Int) < (x.length:Int) by omega)]
   refine⟨⟨by omega,by omega⟩,⟨by omega,by omega⟩,?_⟩
   simp only[Int.toNat_natCast,ZaQ.fn]
   by_cases e:x.getD i Za=y.getD i Za
   ·rw[decide_eq_true e];exact⟨hf,ht e⟩
   ·rw[decide_eq_false e];exact hff e
  ·simp only[Int.lt_irrefl,decide_false,cond_false];exact h
 ·rw[bne_iff_ne.2 (show ((x.length:Nat):Int)≠(y.length:Int) by omega)]
  exact (decide_eq_false fun h=>h1 (congrArg List.length h)).symm
theorem ZaG.spec(x y:ZbK)(hl:x.2.length≤9223372036854775807):ZaG.wp x y (fun r=>r=ZaG.fn (x,y,())):=by
 obtain⟨n,a⟩:=x
 obtain⟨m,b⟩:=y
 simp only[ZaG.wp]
 have hg:∀ b:Bool,(b=true→b=true∧True):=fun b h=>⟨h,trivial⟩
 refine⟨hg _,hg _,hg _,hg _,fun h=>⟨h,h,trivial⟩,fun h=>by rw[h];rfl,?_⟩
 by_cases h0:n=m
 ·by_cases h1:a.length=b.length
  ·subst h0
   simp only[h1,bne_self_eq_false,Bool.or_false,cond_false]
   rw[← h1]
   refine Zh5 (d:=[]) (a:=a) (b:=b) hl h1 (Q:=fun r=>r=ZaG.fn ((n,a),(n,b),())) (by simp[ZaG.fn]) (fun i R hi hi2 hf ht hff=>?_) (fun R h=>?_)
   ·rw[decide_eq_true (show (i:Int) < (a.length:Int) by omega)]
    refine⟨⟨by omega,by omega⟩,⟨by omega,by omega⟩,?_⟩
    simp only[Int.toNat_natCast,ZM.fn]
    by_cases e:a.getD i []=b.getD i []
    ·rw[decide_eq_true e];exact⟨hf,ht e⟩
    ·rw[decide_eq_false e];exact hff e
   ·simp only[Int.lt_irrefl,decide_false,cond_false];exact h
  ·simp only[bne_iff_ne.2 (show ((a.length:Nat):Int)≠(b.length:Int) by omega),Bool.or_true,cond_true]
   exact (decide_eq_false fun h=>h1 (by rw[Prod.mk.injEq] at h;rw[h.2])).symm
 ·simp only[bne_iff_ne.2 h0,Bool.true_or,cond_true]
  exact (decide_eq_false fun h=>h0 (by rw[Prod.mk.injEq] at h;rw[h.1])).symm
theorem Zbh.spec(n:Int):Zbh.wp n (fun r=>r=Zbh.fn (n,())):=by
 simp only[Zbh.wp,Zbh.fn]
 by_cases h:n < 0<;>simp[h]
theorem Zbf.spec(n:Int):Zbf.wp n (fun r=>r=Zbf.fn (n,())):=by
 simp only[Zbf.wp,Zbf.fn,Zbh.fn]
 by_cases h:n < 0<;>simp[h]
theorem Zrv(n:Int):IntKind.wrap .u64 n=n % 18446744073709551616:=by simp[IntKind.wrap,IntKind.bits,IntKind.signed]
theorem Zrz{n:Int}(h:-9223372036854775807≤n)(h2:n≤9223372036854775807):Zbh.fn (n,())=(n.natAbs:Int):=by
 simp only[Zbh.fn,Zrv]
 split
 ·have h3:n % 18446744073709551616=n+18446744073709551616:=by omega
  rw[h3];omega
 ·rw[Int.emod_eq_of_lt (by omega) (by omega)];omega
theorem ZoA{a b:Int}(ha:0≤a)(hb:0 < b):Nat.gcd b.toNat (a.tmod b).toNat=Nat.gcd a.toNat b.toNat:=by
 obtain⟨m,rfl⟩:∃ m:Nat,a=m:=⟨a.toNat,by omega⟩
 obtain⟨k,rfl⟩:∃ k:Nat,b=k:=⟨b.toNat,by omega⟩
 rw[Int.tmod_eq_emod_of_nonneg ha,← Int.natCast_emod,Int.toNat_natCast,Int.toNat_natCast,Int.toNat_natCast,Nat.gcd_comm m k,Nat.gcd_rec k m,Nat.gcd_comm]
theorem Z8.spec(a b:Int):Z8.wp a b (fun r=>r=Z8.fn (a,b,())):=by
 simp only[Z8.wp]
 refine Lp.wf (fun y=>Z8.fn (y.2,y.1,())=Z8.fn (a,b,())) (fun y=>y.1.toNat) (fun y hy R hR=>?_) rfl
 obtain⟨b',a'⟩:=y
 simp only at hy ⊢
 by_cases h:0 < b'
 ·rw[decide_eq_true h]
  have hlt:=Int.tmod_lt_of_pos a' h
  refine⟨by omega,hR _ ?_ (by omega)⟩
  rw[← hy]
  simp only[Z8.fn]
  rw[if_neg (show ¬ b'≤0 by omega)]
  by_cases ha:a' < 0
  ·rw[if_pos ha,if_pos (show a'.tmod b'≤0 from by
    have:=Int.tmod_nonneg b' (show 0≤-a' by omega)
    rw[Int.neg_tmod] at this
    omega)]
  ·rw[if_neg ha]
   have h0:=Int.tmod_nonneg b' (show 0≤a' by omega)
   have:=ZoA (show 0≤a' by omega) h
   by_cases hz:a'.tmod b'≤0
   ·rw[if_pos hz]
    have e:a'.tmod b'=0:=by omega
    rw[e] at this
    simp only[Int.toNat_zero,Nat.gcd_zero_right] at this
    rw[← this];omega
   ·rw[if_neg hz,if_neg (show ¬ b' < 0 by omega),this]
 ·rw[decide_eq_false h]
  rw[← hy]
  simp only[Z8.fn]
  rw[if_pos (show b'≤0 by omega)]
  rfl
theorem ZaH.fn_eq(a n:Int)(ha:0≤a)(h:-9223372036854775807≤n)(h2:n≤9223372036854775807):ZaH.fn (a,n,())=(Nat.gcd a.toNat n.natAbs:Nat):=by
 simp only[ZaH.fn,Zrz h h2,Z8.fn]
 split
 ·have:n.natAbs=0:=by omega
  rw[this];simp;omega
 ·rw[if_neg (by omega)];simp
theorem ZaH.spec(a b:Int):ZaH.wp a b (fun r=>r=ZaH.fn (a,b,())):=rfl
theorem ZC.spec(l:List Int)(a:Int)(f:(Int×Int→Prop)×(Int×Int→Int))(hl:l.length≤9223372036854775807)(hp:ZC.pre (l,a,f,())):ZC.wp l a f (fun r=>r=ZC.fn (l,a,f,())):=by
 refine Lp.foldl l 0 (fun g n=>f.2 (g,n)) a hl (fun i t R hi hi' hf ht hR=>?_) (fun R=>?_)
 ·simp only[decide_eq_true hi',Int.toNat_natCast]
  exact⟨⟨by omega,hi'⟩,hp _ _ (Zj hi),hf,hR⟩
 ·simp only[Int.lt_irrefl,decide_false,cond_false]
theorem Zix{l:List Int}(h:ZcO l):∀ g:Nat,l.foldl (fun g n=>ZaH.fn (g,n,())) (g:Int)=((l.foldl (fun g n=>Nat.gcd g n.natAbs) g:Nat):Int):=by
 induction l with
 | nil=>exact fun g=>rfl
 | cons n l ih =>
   intro g
   have hn:=h n (by simp)
   simp only[List.foldl_cons]
   rw[ZaH.fn_eq _ _ (by omega) hn.1 hn.2]
   exact ih (fun m hm=>h m (by simp[hm])) _
theorem ZjE{l:List Int}:∀ g:Nat,0 < g→l.foldl (fun g n=>Nat.gcd g n.natAbs) g≤g:=by
 induction l with
 | nil=>exact fun g _=>Nat.le_refl _
 | cons n l ih =>
   intro g hg
   simp only[List.foldl_cons]
   exact Nat.le_trans (ih _ (Nat.gcd_pos_of_pos_left _ hg)) (Nat.gcd_le_left _ hg)
theorem Zk1{l:List Int}(h:ZcO l):Za1 l≤9223372036854775807:=by
 unfold Za1
 have key:∀ l:List Int,ZcO l→l.foldl (fun g n=>Nat.gcd g n.natAbs) 0≤9223372036854775807:=by
  intro l
  induction l with
  | nil=>exact fun _=>by simp
  | cons n l ih =>
    intro h
    have hn:=h n (by simp)
    simp only[List.foldl_cons,Nat.gcd_zero_left]
    by_cases e:n.natAbs=0
    ·rw[e];exact ih (fun m hm=>h m (by simp[hm]))
    ·exact Nat.le_trans (ZjE _ (by omega)) (by omega)
 exact key l h
theorem Zbe.spec(l:List Int)(hp:Zbe.pre (l,())):Zbe.wp l (fun r=>r=Zbe.fn (l,())):=by
 have hle:Za1 l≤9223372036854775807:=Zk1 hp
 have e:ZC.fn (l,0,(fun _=>True,fun a=>ZaH.fn (a.1,a.2,())),())=(Za1 l:Int):=Zix hp 0
 simp only[Zbe.wp]
 refine⟨fun _ _ _=>trivial,?_⟩
 rw[e,decide_eq_false (show ¬ (9223372036854775807:Int) < (Za1 l:Int) by omega)]
 exact⟨⟨by omega,by omega⟩,rfl⟩
theorem ZhR{a b:Int}(hb:0 < b):(a.tmod b < 0→a.tdiv b - 1=a / b∧a.tmod b+b=a % b)∧(¬ a.tmod b < 0→a.tdiv b=a / b∧a.tmod b=a % b):=by
 have h1:=Int.emod_nonneg a (show b≠0 by omega)
 have h2:=Int.emod_lt_of_pos a hb
 rw[Int.tmod_eq_emod,Int.tdiv_eq_ediv]
 split
 ·exact⟨fun h=>by omega,fun _=>⟨by omega,by omega⟩⟩
 ·rw[Int.sign_eq_one_of_pos hb]
  exact⟨fun _=>⟨by omega,by omega⟩,fun h=>by omega⟩
theorem Zps{a b:Int}(hb:0 < b)(h:-9223372036854775807≤a)(h2:a≤9223372036854775807):-9223372036854775807≤a / b∧a / b≤9223372036854775807:=by
 constructor
 ·rw[Int.le_ediv_iff_mul_le hb]
  have:=Int.mul_le_mul_of_nonneg_left (show (1:Int)≤b by omega) (show (0:Int)≤9223372036854775807 by omega)
  rw[show (-9223372036854775807:Int)=-(9223372036854775807) from rfl,Int.neg_mul]
  omega
 ·refine Int.le_of_lt_add_one ?_
  rw[Int.ediv_lt_iff_lt_mul hb]
  have:=Int.mul_le_mul_of_nonneg_left (show (1:Int)≤b by omega) (show (0:Int)≤9223372036854775808 by omega)
  omega
theorem Zob{a b:Int}(hp:Zas.pre (a,b,())){Q:Int×Int→Prop}(h:Q (Zas.fn (a,b,()))):cond (decide (b < (1:Int))) (Q ((0:Int),(1:Int))) ((b≠(0:Int)∧Zo IntKind.i64 (Int.tdiv a b))∧(b≠(0:Int)∧cond (decide (Int.tmod a b < (0:Int))) (Zo IntKind.i64 (Int.tdiv a b - (1:Int))∧Q ((Int.tdiv a b - (1:Int)),(0:Int))) (Q (Int.tdiv a b,(0:Int))))):=by
 simp only[Zas.fn] at h
 by_cases h1:b < 1
 ·rw[decide_eq_true h1];rwa [if_pos h1] at h
 ·rw[decide_eq_false h1]
  rw[if_neg h1] at h
  have hb:-9223372036854775807≤a / b∧a / b≤9223372036854775807:=Zps (b:=b) (by omega) hp.1 hp.2
  have hf:=ZhR (a:=a) (b:=b) (by omega)
  have hq:Zo IntKind.i64 (a.tdiv b):=by
   by_cases h2:a.tmod b < 0
   ·have h5:=(hf.1 h2).1
    have ha:a < 0:=Int.not_le.1 fun h=>by have:=Int.tmod_nonneg b h;omega
    have:=Int.ediv_neg_of_neg_of_pos ha (show 0 < b by omega)
    exact⟨by omega,by omega⟩
   ·have:=(hf.2 h2).1;exact⟨by omega,by omega⟩
  refine⟨⟨by omega,hq⟩,by omega,?_⟩
  by_cases h2:a.tmod b < 0
  ·rw[decide_eq_true h2]
   have:=(hf.1 h2).1
   rw[← this] at h
   exact⟨⟨by omega,by omega⟩,h⟩
  ·rw[decide_eq_false h2]
   rw[← (hf.2 h2).1] at h
   exact h
theorem Zas.spec(a b:Int)(hp:Zas.pre (a,b,())):Zas.wp a b (fun r=>r=Zas.fn (a,b,())):=Zob (Q:=fun r=>r=Zas.fn (a,b,())) hp rfl
theorem Zal.spec(a b:Int)(hp:Zal.pre (a,b,())):Zal.wp a b (fun r=>r=Zal.fn (a,b,())):=Zob (Q:=fun r=>r=Zal.fn (a,b,())) hp rfl
theorem ZtS{a b:Int}(hp:Zba.pre (a,b,())){Q:Int×Int→Prop}(h:Q (Zba.fn (a,b,()))):cond (decide (b < (1:Int))) (Q ((0:Int),(1:Int))) (b≠(0:Int)∧cond (decide (Int.tmod a b < (0:Int))) (Zo IntKind.i64 (Int.tmod a b+b)∧Q ((Int.tmod a b+b),(0:Int))) (Q (Int.tmod a b,(0:Int)))):=by
 simp only[Zba.fn] at h
 have hp:b≤9223372036854775807:=hp
 by_cases h1:b < 1
 ·rw[decide_eq_true h1];rwa [if_pos h1] at h
 ·rw[decide_eq_false h1]
  rw[if_neg h1] at h
  have hf:=ZhR (a:=a) (b:=b) (by omega)
  have h3:=Int.emod_nonneg a (show b≠0 by omega)
  have h4:=Int.emod_lt_of_pos a (show 0 < b by omega)
  refine⟨by omega,?_⟩
  by_cases h2:a.tmod b < 0
  ·rw[decide_eq_true h2]
   have:=(hf.1 h2).2
   rw[← this] at h
   exact⟨⟨by omega,by omega⟩,h⟩
  ·rw[decide_eq_false h2]
   rw[← (hf.2 h2).2] at h
   exact h
theorem Zba.spec(a b:Int)(hp:Zba.pre (a,b,())):Zba.wp a b (fun r=>r=Zba.fn (a,b,())):=ZtS (Q:=fun r=>r=Zba.fn (a,b,())) hp rfl
theorem ZaM.spec(a b:Int)(hp:ZaM.pre (a,b,())):ZaM.wp a b (fun r=>r=ZaM.fn (a,b,())):=ZtS (Q:=fun r=>r=ZaM.fn (a,b,())) hp rfl
theorem ZaY.spec(l:List Int)(hl:l.length≤9223372036854775807)(hp:ZaY.pre (l,())):ZaY.wp l (fun r=>r=ZaY.fn (l,())):=by
 have e:=Zix hp 0
 have hle:Za1 l≤9223372036854775807:=Zk1 hp
 refine Lp.foldl l 0 (fun g n=>ZaH.fn (g,n,())) 0 hl (fun i t R hi hi' hf ht hR=>?_) (fun R=>?_)
 ·simp only[decide_eq_true hi',Int.toNat_natCast]
  refine⟨⟨by omega,hi'⟩,?_⟩
  have hn:=hp _ (Zj (d:=0) hi)
  have h0:0≤t:=by
   have:=Zix (l:=l.take i) (fun m hm=>hp m (List.mem_of_mem_take hm)) 0
   rw[ht,show (0:Int)=((0:Nat):Int) from rfl,this];omega
  rw[ZaH.fn_eq _ _ h0 hn.1 hn.2] at hR
  show Lp _ (Zbh.fn (l.getD i 0,()),t)
  rw[Zrz hn.1 hn.2]
  revert hR
  generalize (l.getD i 0).natAbs=m
  intro hR
  refine Lp.wf (fun y=>0≤y.1∧0≤y.2∧Nat.gcd y.2.toNat y.1.toNat=Nat.gcd t.toNat m) (fun y=>y.1.toNat) (fun y hy R2 hR2=>?_) ⟨by simp,h0,by simp⟩
  obtain⟨b',a'⟩:=y
  obtain⟨h1,h2,h3⟩:=hy
  simp only at h1 h2 h3 ⊢
  by_cases hz:b'=0
  ·subst hz
   simp only[bne_self_eq_false,cond_false]
   refine⟨hf,?_⟩
   rw[← h3] at hR
   simp only[Int.toNat_zero,Nat.gcd_zero_right,Int.toNat_of_nonneg h2] at hR
   exact hR
  ·rw[bne_iff_ne.2 hz]
   have hlt:=Int.tmod_lt_of_pos a' (show 0 < b' by omega)
   have h0':=Int.tmod_nonneg b' h2
   exact⟨hz,hR2 _ ⟨h0',h1,by rw[ZoA h2 (by omega)];exact h3⟩ (by show (a'.tmod b').toNat < b'.toNat;omega)⟩
 ·simp only[Int.lt_irrefl,decide_false,cond_false]
  have e':l.foldl (fun g n=>ZaH.fn (g,n,())) 0=(Za1 l:Int):=e
  rw[e']
  have:((Za1 l:Int) == 9223372036854775808)=false:=by
   rw[beq_eq_false_iff_ne];omega
  rw[this]
  exact⟨⟨by omega,by omega⟩,rfl⟩
def Zfb(n:Int):Prop:=-2305843009213693952≤n∧n≤2305843009213693952
def linB(l:Lin):Prop:=l.1.length≤1048576∧(∀ n∈l.1,Zfb n)∧Zfb l.2
def ZpM(c:Zc):Prop:=c.1=0∨c.1=1∨(c.1=2∧1≤c.2.1∧c.2.1≤2305843009213693952)
def condB(c:Zc):Prop:=ZpM c∧linB c.2.2
def ZaD(p:List Zc):Prop:=p.length≤1048576∧∀ c∈p,condB c
def ZcI(b:Bool):Zc×Int:=(Za,if b then 1 else -1)
def geF(c:Zc):Zc×Int:=if Za1 c.2.2.1=0 then ZcI (decide (0≤c.2.2.2)) else ((0,0,c.2.2.1.map (·.tdiv (Za1 c.2.2.1)),c.2.2.2 / (Za1 c.2.2.1:Int)),0)
def ZaT:List Int→Bool
 | []=>false
 | n::l=>if n=0 then ZaT l else decide (n < 0)
def Zbg(c:Zc):Int:=if ZaT c.2.2.1 then -(Za1 c.2.2.1:Int) else (Za1 c.2.2.1:Int)
def eqF(c:Zc):Zc×Int:=if Za1 c.2.2.1=0∨c.2.2.2.tmod (Za1 c.2.2.1)≠0 then ZcI (decide (Za1 c.2.2.1=0)&&(c.2.2.2 == 0)) else ((1,0,c.2.2.1.map (·.tdiv (Zbg c)),c.2.2.2.tdiv (Zbg c)),0)
def Zb8(c:Zc):Nat:=Za1 (c.2.1::c.2.2.1.map (· % c.2.1))
def ZkX(c:Zc):Zc×Int:=if (c.2.2.2 % c.2.1).tmod (Zb8 c)≠0 then ZcI false else if c.2.1=Zb8 c then ZcI true else ((2,c.2.1.tdiv (Zb8 c),(c.2.2.1.map (· % c.2.1)).map (·.tdiv (Zb8 c)),(c.2.2.2 % c.2.1).tdiv (Zb8 c)),0)
def ZbD(c:Zc):Zc×Int:=if c.1=0 then geF c else if c.1=1 then eqF c else ZkX c
abbrev Zx.fn(x:Zc×Int×Unit):List Int:=x.1.2.2.1.map (·.tdiv x.2.1)
abbrev Zx.pre(x:Zc×Int×Unit):Prop:=x.2.1≠0∧x.1.2.2.1.length≤1048576∧ZcO x.1.2.2.1
abbrev ZaS.fn(x:Bool×Unit):Zc×Int:=ZcI x.1
abbrev ZaL.fn(x:Bool×Unit):Zc×Int:=ZcI x.1
abbrev ZV.fn(x:Zc×Unit):Zc×Int:=geF x.1
abbrev ZV.pre(x:Zc×Unit):Prop:=linB x.1.2.2
abbrev ZT.fn(x:Zc×Unit):Zc×Int:=eqF x.1
abbrev ZT.pre(x:Zc×Unit):Prop:=linB x.1.2.2
abbrev ZL.fn(x:Zc×Unit):Zc×Int:=ZkX x.1
abbrev ZL.pre(x:Zc×Unit):Prop:=linB x.1.2.2∧1≤x.1.2.1∧x.1.2.1≤2305843009213693952
abbrev ZaN.fn(x:Zc×Unit):Zc×Int:=ZbD x.1
abbrev ZaN.pre(x:Zc×Unit):Prop:=condB x.1
def Zhg(a b:Int):Int:=if a < b then -1 else if b < a then 1 else 0
def ZcX:List Int→List Int→Int
 | [],[]=>0
 | [],_::_=>-1
 | _::_,[]=>1
 | x::a,y::b=>if Zhg x y=0 then ZcX a b else Zhg x y
def orL:List Int→Int
 | []=>0
 | n::l=>if n=0 then orL l else n
def Zce(k:Int):Int:=if k=0 then 1 else if k=1 then 0 else 2
def Zhr(a b:Zc):Int:=orL [Zhg (Zce a.1) (Zce b.1),Zhg a.2.1 b.2.1,ZcX a.2.2.1 b.2.2.1,Zhg a.2.2.2 b.2.2.2]
abbrev Zab.fn(x:Int×Unit):Bool:=false
abbrev ZE.fn(x:Int×Int×Unit):Int:=Zhg x.1 x.2.1
abbrev Zbm.fn(x:List Int×Unit):Int:=orL x.1
abbrev Zt.fn(x:List Int×List Int×Unit):Int:=ZcX x.1 x.2.1
def Zgh(k:Int):Prop:=k=0∨k=1∨k=2
abbrev Zap.fn(x:Zc×Zc×Unit):Int:=Zhr x.1 x.2.1
abbrev Zap.pre(x:Zc×Zc×Unit):Prop:=Zgh x.1.1∧Zgh x.2.1.1
abbrev Za9.fn(x:Zc×Unit):Bool:=!Zi x.1
abbrev Zao.fn(x:Zc×Zc×Unit):Bool:=Zhr x.1 x.2.1 == 0
abbrev Zao.pre(x:Zc×Zc×Unit):Prop:=Zgh x.1.1∧Zgh x.2.1.1
def Zpe{α:Type}(f:α→Bool):List α→Int→Int
 | [],_=>-1
 | x::l,i=>if f x then i else Zpe f l (i+1)
abbrev Zg.fn(x:List Zc×((Zc→Prop)×(Zc→Bool))×Unit):Int:=Zpe x.2.1.2 x.1 0
abbrev Zg.pre(x:List Zc×((Zc→Prop)×(Zc→Bool))×Unit):Prop:=∀ c∈x.1,x.2.1.1 c
abbrev Ze.fn(x:List Zc×((Zc→Prop)×(Zc→Bool))×Unit):Bool:=x.1.any x.2.1.2
abbrev Ze.pre(x:List Zc×((Zc→Prop)×(Zc→Bool))×Unit):Prop:=∀ c∈x.1,x.2.1.1 c
def Zx.wp(x0:Zc)(x1:Int)(Q:(List Int)→Prop):Prop:=(((0:Int)≤((List.length x0.2.2.1:Nat):Int)∧(((List.length x0.2.2.1:Nat):Int)≤((List.length x0.2.2.1:Nat):Int)∧((((List.length x0.2.2.1:Nat):Int)*((8:Nat):Int))≤(140737488355328:Int)∧((List.length x0.2.2.1:Nat):Int)≤(9223372036854775807:Int))))∧Lp (σ:=Int×List Int) (fun y3 R3=>let v2:=List.getD x0.2.2.1 (Int.toNat y3.1) (0:Int);cond (decide (y3.1 < ((List.length x0.2.2.1:Nat):Int))) (((0:Int)≤y3.1∧y3.1 < ((List.length x0.2.2.1:Nat):Int))∧((x1≠(0:Int)∧Zo IntKind.i64 (Int.tdiv v2 x1))∧(((0:Int)≤y3.1∧y3.1 < ((List.length y3.2:Nat):Int))∧(Int.toNat y3.1 < List.length y3.2∧(Zo IntKind.i64 (y3.1+(1:Int))∧R3 ((y3.1+(1:Int)),(List.set y3.2 (Int.toNat y3.1) (Int.tdiv v2 x1)))))))) (Q y3.2)) ((0:Int),(List.replicate (Int.toNat ((List.length x0.2.2.1:Nat):Int)) (0:Int))))
def ZaS.wp(x0:Bool)(Q:Zc×Int→Prop):Prop:=cond x0 (Q (Za,(1:Int))) (Q (Za,(-(1:Int))))
def ZV.wp(x0:Zc)(Q:Zc×Int→Prop):Prop:=let v0:=Zbe.fn (x0.2.2.1,());(Zbe.pre (x0.2.2.1,())∧cond (v0.1 == (0:Int)) (Q (ZaS.fn (decide ((0:Int)≤x0.2.2.2),()))) (Zas.pre (x0.2.2.2,(v0.1,()))∧(Zx.pre (x0,(v0.1,()))∧Q (((0:Int),((0:Int),((Zx.fn (x0,(v0.1,()))),(Zas.fn (x0.2.2.2,(v0.1,()))).1))),(0:Int)))))
def ZT.wp(x0:Zc)(Q:Zc×Int→Prop):Prop:=let v0:=Zbe.fn (x0.2.2.1,());let v3:=Int.tdiv x0.2.2.2 (-v0.1);let v5:=Zx.fn (x0,(v0.1,()));(Zbe.pre (x0.2.2.1,())∧(((!(v0.1 == (0:Int)))=true→((!(v0.1 == (0:Int)))=true∧True))∧(((!(v0.1 == (0:Int)))=true→((!(v0.1 == (0:Int)))=true∧True))∧(((!(v0.1 == (0:Int)))=true→((!(v0.1 == (0:Int)))=true∧True))∧(((!(v0.1 == (0:Int)))=true→((!(v0.1 == (0:Int)))=true∧((!(v0.1 == (0:Int)))=true∧v0.1≠(0:Int))))∧(((!(v0.1 == (0:Int)))=true→((!(v0.1 == (0:Int)))=true∧True))∧(((v0.1 == (0:Int))=false→(!(v0.1 == (0:Int)))=true)∧cond ((v0.1 == (0:Int))||(Int.tmod x0.2.2.2 v0.1 != (0:Int))) (((v0.1 == (0:Int))=true→((v0.1 == (0:Int))=true∧True))∧(((v0.1 == (0:Int))=true→((v0.1 == (0:Int))=true∧True))∧(((v0.1 == (0:Int))=true→((v0.1 == (0:Int))=true∧True))∧(((v0.1 == (0:Int))=true→((v0.1 == (0:Int))=true∧True))∧(((v0.1 == (0:Int))=true→(v0.1 == (0:Int))=true)∧Q (ZaS.fn (((v0.1 == (0:Int))&&(x0.2.2.2 == (0:Int))),()))))))) (Lp (σ:=Int) (fun y2 R2=>let v2:=List.getD x0.2.2.1 (Int.toNat y2) (0:Int);cond (decide (y2 < ((List.length x0.2.2.1:Nat):Int))) (((0:Int)≤y2∧y2 < ((List.length x0.2.2.1:Nat):Int))∧cond (v2 != (0:Int)) (cond (decide (v2 < (0:Int))) (Zo IntKind.i64 (-v0.1)∧(Zx.pre (x0,((-v0.1),()))∧(((-v0.1)≠(0:Int)∧Zo IntKind.i64 v3)∧Q (((1:Int),((0:Int),((Zx.fn (x0,((-v0.1),()))),v3))),(0:Int))))) (Zx.pre (x0,(v0.1,()))∧((v0.1≠(0:Int)∧Zo IntKind.i64 (Int.tdiv x0.2.2.2 v0.1))∧Q (((1:Int),((0:Int),(v5,Int.tdiv x0.2.2.2 v0.1))),(0:Int))))) (Zo IntKind.i64 (y2+(1:Int))∧R2 (y2+(1:Int)))) (Zx.pre (x0,(v0.1,()))∧((v0.1≠(0:Int)∧Zo IntKind.i64 (Int.tdiv x0.2.2.2 v0.1))∧Q (((1:Int),((0:Int),(v5,Int.tdiv x0.2.2.2 v0.1))),(0:Int))))) (0:Int)))))))))
def ZL.wp(x0:Zc)(Q:Zc×Int→Prop):Prop:=let v7:=Zba.fn (x0.2.2.2,(x0.2.1,()));(((0:Int)≤((List.length x0.2.2.1:Nat):Int)∧(((List.length x0.2.2.1:Nat):Int)≤((List.length x0.2.2.1:Nat):Int)∧((((List.length x0.2.2.1:Nat):Int)*((8:Nat):Int))≤(140737488355328:Int)∧((List.length x0.2.2.1:Nat):Int)≤(9223372036854775807:Int))))∧Lp (σ:=Int×Int×List Int) (fun y2 R2=>let v2:=List.getD x0.2.2.1 (Int.toNat y2.1) (0:Int);let v4:=List.set y2.2.2 (Int.toNat y2.1) (Zba.fn (v2,(x0.2.1,()))).1;let v5:=List.getD v4 (Int.toNat y2.1) (0:Int);cond (decide (y2.1 < ((List.length x0.2.2.1:Nat):Int))) (((0:Int)≤y2.1∧y2.1 < ((List.length x0.2.2.1:Nat):Int))∧(Zba.pre (v2,(x0.2.1,()))∧(((0:Int)≤y2.1∧y2.1 < ((List.length y2.2.2:Nat):Int))∧(Int.toNat y2.1 < List.length y2.2.2∧(((0:Int)≤y2.1∧y2.1 < ((List.length v4:Nat):Int))∧(Int.toNat y2.1 < List.length v4∧(Zbe.pre ([y2.2.1,v5],())∧(Zo IntKind.i64 (y2.1+(1:Int))∧R2 ((y2.1+(1:Int)),((Zbe.fn ([y2.2.1,v5],())).1,v4)))))))))) (Zba.pre (x0.2.2.2,(x0.2.1,()))∧(y2.2.1≠(0:Int)∧cond (Int.tmod v7.1 y2.2.1 != (0:Int)) (Q (ZaS.fn (false,()))) (cond (x0.2.1 == y2.2.1) (Q ((((ZaS.fn (true,())).1).1,((((ZaS.fn (true,())).1).2).1,((((ZaS.fn (true,())).1).2).2))),(ZaS.fn (true,())).2)) (Zx.pre (((0:Int),((0:Int),(y2.2.2,v7.1))),(y2.2.1,()))∧((y2.2.1≠(0:Int)∧Zo IntKind.i64 (Int.tdiv v7.1 y2.2.1))∧((y2.2.1≠(0:Int)∧Zo IntKind.i64 (Int.tdiv x0.2.1 y2.2.1))∧Q (((2:Int),(Int.tdiv x0.2.1 y2.2.1,((Zx.fn (((0:Int),((0:Int),(y2.2.2,v7.1))),(y2.2.1,()))),Int.tdiv v7.1 y2.2.1))),(0:Int))))))))) ((0:Int),(x0.2.1,(List.replicate (Int.toNat ((List.length x0.2.2.1:Nat):Int)) (0:Int)))))
def ZaN.wp(x0:Zc)(Q:Zc×Int→Prop):Prop:=cond (decide (x0.1=(0:Int))) (ZV.pre (((0:Int),x0.2),())∧Q (ZV.fn (((0:Int),x0.2),()))) (cond (decide (x0.1=(1:Int))) (ZT.pre (((1:Int),x0.2),())∧Q (ZT.fn (((1:Int),x0.2),()))) (cond (decide (x0.1=(2:Int))) (ZL.pre (((2:Int),x0.2),())∧Q (ZL.fn (((2:Int),x0.2),()))) False))
def Zab.wp(x0:Int)(Q:Bool→Prop):Prop:=Q (x0 != x0)
def ZE.wp(x0:Int)(x1:Int)(Q:Int→Prop):Prop:=let v1:=Zab.fn (x1,());cond (Zab.fn (x0,())) (cond v1 (Q (0:Int)) (Q (-(1:Int)))) (cond v1 (Q (1:Int)) (cond (decide (x0 < x1)) (Q (-(1:Int))) (cond (decide (x1 < x0)) (Q (1:Int)) (Q (0:Int)))))
def Zbm.wp(x0:List Int)(Q:Int→Prop):Prop:=Lp (σ:=Int) (fun y2 R2=>let v0:=List.getD x0 (Int.toNat y2) (0:Int);cond (decide (y2 < ((List.length x0:Nat):Int))) (((0:Int)≤y2∧y2 < ((List.length x0:Nat):Int))∧cond (v0 != (0:Int)) (Q v0) (Zo IntKind.i64 (y2+(1:Int))∧R2 (y2+(1:Int)))) (Q (0:Int))) (0:Int)
def Zt.wp(x0:List Int)(x1:List Int)(Q:Int→Prop):Prop:=Lp (σ:=Int) (fun y3 R3=>let v2:=ZE.fn ((List.getD x0 (Int.toNat y3) (0:Int)),((List.getD x1 (Int.toNat y3) (0:Int)),()));cond (decide (y3 < ((List.length x0:Nat):Int))) (((0:Int)≤y3∧y3 < ((List.length x0:Nat):Int))∧cond (decide (((List.length x1:Nat):Int)≤y3)) (Q (1:Int)) (((0:Int)≤y3∧y3 < ((List.length x1:Nat):Int))∧cond (v2 != (0:Int)) (Q v2) (Zo IntKind.i64 (y3+(1:Int))∧R3 (y3+(1:Int))))) (cond (decide (((List.length x0:Nat):Int) < ((List.length x1:Nat):Int))) (Q (-(1:Int))) (Q (0:Int)))) (0:Int)
def Zap.wp(x0:Zc)(x1:Zc)(Q:Int→Prop):Prop:=let v1:=[(1:Int),(0:Int),(2:Int)];(3=List.length (List.replicate 3 (0:Int))∧(((0:Int)≤x0.1∧x0.1 < ((3:Nat):Int))∧(Int.toNat x0.1 < List.length v1∧(((0:Int)≤x1.1∧x1.1 < ((3:Nat):Int))∧(Int.toNat x1.1 < List.length v1∧Q (Zbm.fn ([(ZE.fn ((List.getD v1 (Int.toNat x0.1) (0:Int)),((List.getD v1 (Int.toNat x1.1) (0:Int)),()))),(ZE.fn (x0.2.1,(x1.2.1,()))),(Zt.fn (x0.2.2.1,(x1.2.2.1,()))),(ZE.fn (x0.2.2.2,(x1.2.2.2,())))],())))))))
def Za9.wp(x0:Zc)(Q:Bool→Prop):Prop:=Q (!(ZG.fn (x0,())))
def Zao.wp(x0:Zc)(x1:Zc)(Q:Bool→Prop):Prop:=(Zap.pre (x0,(x1,()))∧Q ((Zap.fn (x0,(x1,()))) == (0:Int)))
def Zg.wp(x0:List Zc)(x1:(Zc→Prop)×(Zc→Bool))(Q:Int→Prop):Prop:=Lp (σ:=Int) (fun y3 R3=>let v0:=List.getD x0 (Int.toNat y3) Za;cond (decide (y3 < ((List.length x0:Nat):Int))) (((0:Int)≤y3∧y3 < ((List.length x0:Nat):Int))∧(x1.1 v0∧cond (x1.2 v0) (Q y3) (Zo IntKind.i64 (y3+(1:Int))∧R3 (y3+(1:Int))))) (Q (-(1:Int)))) (0:Int)
def Ze.wp(x0:List Zc)(x1:(Zc→Prop)×(Zc→Bool))(Q:Bool→Prop):Prop:=(Zg.pre (x0,((fun (a3:Zc)=>x1.1 a3,fun (a3:Zc)=>x1.2 a3),()))∧Q (decide ((0:Int)≤(Zg.fn (x0,((fun (a3:Zc)=>x1.1 a3,fun (a3:Zc)=>x1.2 a3),()))))))
theorem linB.ints{l:Lin}(h:linB l):ZcO l.1:=fun n hn=>by have:=h.2.1 n hn;unfold Zfb at this;omega
theorem ZcE(n g:Int):(n.tdiv g).natAbs≤n.natAbs:=by rw[Int.natAbs_tdiv];exact Nat.div_le_self _ _
theorem ZcH{n g:Int}(h:-9223372036854775807≤n)(h2:n≤9223372036854775807):Zo .i64 (n.tdiv g):=by
 have:=ZcE n g
 exact⟨by omega,by omega⟩
theorem Zx.spec(c:Zc)(g:Int)(hp:Zx.pre (c,g,())):Zx.wp c g (fun r=>r=Zx.fn (c,g,())):=by
 obtain⟨h1,h2,h3⟩:=hp
 simp only at h1 h2 h3
 simp only[Zx.wp,Int.toNat_natCast]
 refine⟨⟨by omega,by omega,by omega,by omega⟩,?_⟩
 refine Lp.fill c.2.2.1 0 0 (·.tdiv g) (by omega) (fun i out R hi hi' hf ho hR=>?_) (fun R=>?_)
 ·simp only[decide_eq_true hi',Int.toNat_natCast]
  have hn:=h3 _ (Zj (d:=0) hi)
  exact⟨⟨by omega,hi'⟩,⟨h1,ZcH hn.1 hn.2⟩,⟨by omega,by omega⟩,by omega,hf,hR⟩
 ·simp only[Int.lt_irrefl,decide_false,cond_false]
theorem ZaS.spec(b:Bool):ZaS.wp b (fun r=>r=ZaS.fn (b,())):=by cases b<;>rfl
theorem ZfX:∀ {l:List Int} {g:Nat},(l.foldl (fun g n=>Nat.gcd g n.natAbs) g ∣ g)∧∀ n∈l,l.foldl (fun g n=>Nat.gcd g n.natAbs) g ∣ n.natAbs
 | [],g=>⟨Nat.dvd_refl _,fun n hn=>by cases hn⟩
 | m::l,g=>by
   obtain⟨h1,h2⟩:=ZfX (l:=l) (g:=Nat.gcd g m.natAbs)
   refine⟨Nat.dvd_trans h1 (Nat.gcd_dvd_left _ _),fun n hn=>?_⟩
   rcases List.mem_cons.1 hn with rfl | hn
   ·exact Nat.dvd_trans h1 (Nat.gcd_dvd_right _ _)
   ·exact h2 n hn
theorem ZhT{l:List Int}(h:Za1 l=0):∀ n∈l,n=0:=fun n hn=>by
 have:=(ZfX (l:=l) (g:=0)).2 n hn
 have h':l.foldl (fun g n=>Nat.gcd g n.natAbs) 0=0:=h
 rw[h',Nat.zero_dvd] at this
 omega
theorem ZV.spec(c:Zc)(hp:ZV.pre (c,())):ZV.wp c (fun r=>r=ZV.fn (c,())):=by
 have hb:linB c.2.2:=hp
 obtain⟨h1,h2,h3⟩:=id hb
 unfold Zfb at h3
 simp only[ZV.wp,Zbe.fn,ZV.fn,geF,ZaS.fn]
 refine⟨hb.ints,?_⟩
 by_cases hg:Za1 c.2.2.1=0
 ·rw[hg];simp
 ·rw[beq_eq_false_iff_ne.2 (show ((Za1 c.2.2.1:Nat):Int)≠0 by omega),if_neg hg]
  refine⟨⟨by show -9223372036854775807≤c.2.2.2;omega,by show c.2.2.2≤9223372036854775807;omega⟩,⟨by show ((Za1 c.2.2.1:Nat):Int)≠0;omega,h1,hb.ints⟩,?_⟩
  simp only[Zx.fn,Zas.fn]
  rw[if_neg (show ¬ ((Za1 c.2.2.1:Nat):Int) < 1 by omega)]
theorem ZcW{l:List Int}{i:Nat}(h:∀ j,j < i→l.getD j 0=0):ZaT l=ZaT (l.drop i):=by
 induction i generalizing l with
 | zero=>rfl
 | succ i ih =>
   cases l with
   | nil=>rfl
   | cons n l =>
     have h0:=h 0 (by omega)
     simp at h0
     simp only[ZaT,if_pos h0,List.drop_succ_cons]
     exact ih (fun j hj=>by have:=h (j+1) (by omega);simpa using this)
theorem ZT.spec(c:Zc)(hp:ZT.pre (c,())):ZT.wp c (fun r=>r=ZT.fn (c,())):=by
 have hb:linB c.2.2:=hp
 obtain⟨h1,h2,h3⟩:=id hb
 unfold Zfb at h3
 have hgl:Za1 c.2.2.1≤9223372036854775807:=Zk1 hb.ints
 simp only[ZT.wp,Zbe.fn,ZaS.fn,Zx.fn]
 have hg:∀ b:Bool,(b=true→b=true∧True):=fun b h=>⟨h,trivial⟩
 refine⟨hb.ints,hg _,hg _,hg _,?_,hg _,fun h=>by rw[h];rfl,?_⟩
 ·intro h
  refine⟨h,h,?_⟩
  intro e
  rw[e] at h;simp at h
 have hfn:ZT.fn (c,())=eqF c:=rfl
 by_cases hz:Za1 c.2.2.1=0
 ·rw[hfn,eqF,if_pos (.inl hz),hz]
  simp
 ·have hzi:((Za1 c.2.2.1:Nat):Int)≠0:=by omega
  rw[beq_eq_false_iff_ne.2 hzi]
  by_cases hm:c.2.2.2.tmod (Za1 c.2.2.1)≠0
  ·rw[bne_iff_ne.2 hm,hfn,eqF,if_pos (.inr hm)]
   simp[hz]
  ·have hm':c.2.2.2.tmod (Za1 c.2.2.1)=0:=by simpa using hm
   rw[hm',bne_self_eq_false,Bool.or_false,cond_false,hfn,eqF,if_neg (by simp[hz,hm'])]
   have hby:∀ g:Int,g≠0→Zx.pre (c,g,()):=fun g hg=>⟨hg,h1,hb.ints⟩
   have hkf:∀ g:Int,Zo .i64 (c.2.2.2.tdiv g):=fun g=>ZcH (by omega) (by omega)
   refine Lp.iter c.2.2.1.length (fun i y=>y=(i:Int)∧∀ j,j < i→c.2.2.1.getD j 0=0) ⟨rfl,fun j hj=>absurd hj (by omega)⟩ ?_
   rintro i y hle ⟨rfl,hi⟩ R hR
   by_cases e:i < c.2.2.1.length
   ·rw[decide_eq_true (show (i:Int) < (c.2.2.1.length:Int) by omega)]
    refine⟨⟨by omega,by omega⟩,?_⟩
    simp only[Int.toNat_natCast]
    by_cases hn:c.2.2.1.getD i 0=0
    ·simp only[hn,bne_self_eq_false,cond_false]
     refine⟨⟨by omega,by omega⟩,hR e _ ⟨by omega,fun j hj=>?_⟩⟩
     by_cases ej:j=i
     ·subst ej;exact hn
     ·exact hi j (by omega)
    ·simp only[bne_iff_ne.2 hn,cond_true]
     have hfn:ZaT c.2.2.1=decide (c.2.2.1.getD i 0 < 0):=by
      rw[ZcW hi,List.drop_eq_getElem_cons e]
      rw[ZD e] at hn
      simp only[ZaT,if_neg hn,ZD e]
     by_cases hneg:c.2.2.1.getD i 0 < 0
     ·rw[decide_eq_true hneg] at hfn
      simp only[decide_eq_true hneg,cond_true]
      refine⟨⟨by omega,by omega⟩,hby _ (by omega),⟨by omega,hkf _⟩,?_⟩
      simp only[Zbg,hfn,if_true]
     ·rw[decide_eq_false hneg] at hfn
      simp only[decide_eq_false hneg,cond_false]
      refine⟨hby _ hzi,⟨hzi,hkf _⟩,?_⟩
      simp[Zbg,hfn]
   ·have:i=c.2.2.1.length:=by omega
    subst this
    rw[decide_eq_false (Int.lt_irrefl _)]
    refine⟨hby _ hzi,⟨hzi,hkf _⟩,?_⟩
    have hfn:ZaT c.2.2.1=false:=by rw[ZcW hi,List.drop_length];rfl
    simp[Zbg,hfn]
theorem Zv{α:Type}{l:List α}{i:Nat}(d:α)(h:i < l.length):l.take (i+1)=l.take i++[l.getD i d]:=by
 rw[ZD h];simp
theorem Zqc{α β:Type}{l:List α}{d:α}{z:β}{f:α→β}{i:Nat}(e:i < l.length):((l.take i).map f++List.replicate (l.length - i) z).set i (f (l.getD i d))=(l.take (i+1)).map f++List.replicate (l.length - (i+1)) z:=by
 have h1:l.length - i=(l.length - (i+1))+1:=by omega
 rw[h1,List.replicate_succ,List.set_append_right _ _ (by simp;omega)]
 have h3:i - ((l.take i).map f).length=0:=by simp;omega
 rw[h3,List.set_cons_zero,Zv d e,List.map_append,List.append_assoc]
 rfl
theorem Zhs(m:Int)(l:List Int)(n:Int):Za1 (m::(l++[n]))=Nat.gcd (Za1 (m::l)) n.natAbs:=by
 simp only[Za1,List.foldl_cons,List.foldl_append,List.foldl_nil]
theorem ZqP(a b:Int):Za1 [a,b]=Nat.gcd a.natAbs b.natAbs:=by simp[Za1]
theorem Zf6{m:Int}(h:1≤m)(l:List Int):0 < Za1 (m::l):=by
 rcases Nat.eq_zero_or_pos (Za1 (m::l)) with h0 | h0
 ·have:=ZhT h0 m (by simp);omega
 ·exact h0
theorem ZeJ{m:Int}(h:1≤m)(l:List Int):Za1 (m::l)≤m.toNat:=by
 have:=ZjE (l:=l) m.natAbs (by omega)
 simp only[Za1,List.foldl_cons,Nat.gcd_zero_left]
 omega
theorem ZL.spec(c:Zc)(hp:ZL.pre (c,())):ZL.wp c (fun r=>r=ZL.fn (c,())):=by
 obtain⟨hb,hm1,hm2⟩:=hp
 simp only at hb hm1 hm2
 obtain⟨h1,h2,h3⟩:=id hb
 unfold Zfb at h3
 have hfn:ZL.fn (c,())=ZkX c:=rfl
 simp only[ZL.wp,Int.toNat_natCast]
 refine⟨⟨by omega,by omega,by omega,by omega⟩,?_⟩
 have hmod:∀ n,Zba.fn (n,c.2.1,())=(n % c.2.1,0):=fun n=>by
  simp only[Zba.fn];rw[if_neg (by omega)]
 simp only[hmod]
 refine Lp.iter c.2.2.1.length (fun i y=>y=((i:Int),((Za1 (c.2.1::(c.2.2.1.take i).map (· % c.2.1)):Nat):Int),(c.2.2.1.take i).map (· % c.2.1)++List.replicate (c.2.2.1.length - i) 0)) ?_ ?_
 ·have:Za1 [c.2.1]=c.2.1.natAbs:=by simp[Za1]
  simp[this];omega
 rintro i y hle rfl R hR
 have hr:∀ n:Int,0≤n % c.2.1∧n % c.2.1 < c.2.1:=fun n=>⟨Int.emod_nonneg _ (by omega),Int.emod_lt_of_pos _ (by omega)⟩
 have hgl:=ZeJ hm1 ((c.2.2.1.take i).map (· % c.2.1))
 by_cases e:i < c.2.2.1.length
 ·have hfs:=Zqc (z:=(0:Int)) (f:=(· % c.2.1)) (d:=(0:Int)) e
  simp only[decide_eq_true (show (i:Int) < (c.2.2.1.length:Int) by omega),Int.toNat_natCast,cond_true]
  rw[hfs]
  have hlen:((c.2.2.1.take (i+1)).map (· % c.2.1)++List.replicate (c.2.2.1.length - (i+1)) (0:Int)).length=c.2.2.1.length:=by simp;omega
  have hget:((c.2.2.1.take (i+1)).map (· % c.2.1)++List.replicate (c.2.2.1.length - (i+1)) (0:Int)).getD i 0=c.2.2.1.getD i 0 % c.2.1:=by
   rw[ZD (by rw[hlen];exact e),List.getElem_append_left (by simp;omega),ZD e]
   simp
  rw[hget]
  have hq:=hr (c.2.2.1.getD i 0)
  refine⟨⟨by omega,by omega⟩,by show c.2.1≤9223372036854775807;omega,⟨by omega,by simp;omega⟩,by simp;omega,⟨by omega,by rw[hlen];omega⟩,by rw[hlen];exact e,?_,⟨by omega,by omega⟩,hR e _ ?_⟩
  ·intro n hn
   simp only[List.mem_cons,List.not_mem_nil,or_false] at hn
   rcases hn with rfl | rfl<;>constructor<;>omega
  ·simp only[Zbe.fn,ZqP,Int.natAbs_natCast]
   rw[Zv 0 e,List.map_append,List.map_cons,List.map_nil,Zhs]
   rfl
 ·have:i=c.2.2.1.length:=by omega
  subst this
  simp only[List.take_length,Nat.sub_self,List.replicate_zero,List.append_nil,Int.lt_irrefl,decide_false,cond_false]
  have hpos:=Zf6 hm1 (c.2.2.1.map (· % c.2.1))
  rw[List.take_length] at hgl
  have hdg:Zb8 c=Za1 (c.2.1::c.2.2.1.map (· % c.2.1)):=rfl
  rw[← hdg] at hpos hgl ⊢
  have hq:=hr c.2.2.2
  refine⟨by show c.2.1≤9223372036854775807;omega,by omega,?_⟩
  rw[hfn,ZkX]
  by_cases ht:(c.2.2.2 % c.2.1).tmod (Zb8 c)≠0
  ·rw[bne_iff_ne.2 ht,if_pos ht];rfl
  ·rw[if_neg ht]
   have ht:(c.2.2.2 % c.2.1).tmod (Zb8 c)=0:=by simpa using ht
   rw[ht,bne_self_eq_false]
   by_cases he:c.2.1=Zb8 c
   ·rw[if_pos he]
    simp only[beq_iff_eq.2 he,cond_true,cond_false]
   ·rw[if_neg he,beq_eq_false_iff_ne.2 he]
    refine⟨⟨by show ((Zb8 c:Nat):Int)≠0;omega,by simpa using h1,fun n hn=>?_⟩,⟨by omega,ZcH (by omega) (by omega)⟩,⟨by omega,ZcH (by omega) (by omega)⟩,rfl⟩
    simp only[List.mem_map] at hn
    obtain⟨a,_,rfl⟩:=hn
    have:=hr a
    constructor<;>omega
theorem ZaN.spec(c:Zc)(hp:ZaN.pre (c,())):ZaN.wp c (fun r=>r=ZaN.fn (c,())):=by
 obtain⟨hk,hl⟩:ZpM c∧linB c.2.2:=hp
 obtain⟨k,r⟩:=c
 simp only[ZaN.wp,ZaN.fn,ZbD,ZV.fn,ZT.fn,ZL.fn]
 rcases hk with h | h | ⟨h,h2,h3⟩
 ·have h:k=0:=h
  subst h;exact⟨hl,rfl⟩
 ·have h:k=1:=h
  subst h;exact⟨hl,rfl⟩
 ·have h:k=2:=h
  subst h;exact⟨⟨hl,h2,h3⟩,rfl⟩
theorem Fit.bound{n:Int}(h:Fit n=true):-1048576≤n∧n≤1048576:=by simpa[Fit] using h
theorem Zaj.b{l:Lin}(h:Zaj l=true):l.1.length≤12∧(∀ n∈l.1,-1048576≤n∧n≤1048576)∧-1048576≤l.2∧l.2≤1048576:=by
 simp only[Zaj,Bool.and_eq_true,List.all_eq_true,decide_eq_true_eq] at h
 exact⟨by omega,fun n hn=>Fit.bound (h.1 n hn),Fit.bound h.2.2⟩
theorem Zi.lin{c:Zc}(h:Zi c=true):Zaj c.2.2=true:=by
 unfold Zi at h
 split at h
 ·simp only[Bool.and_eq_true] at h;exact h.2
 ·split at h
  ·simp only[Bool.and_eq_true] at h;exact h.2
  ·cases h
theorem Zi.kind{c:Zc}(h:Zi c=true):(c.1=0∧c.2.1=0)∨(c.1=1∧c.2.1=0)∨(c.1=2∧1≤c.2.1∧c.2.1≤512):=by
 unfold Zi at h
 split at h
 ·rename_i hk
  simp only[Bool.and_eq_true,beq_iff_eq] at h
  rcases hk with hk | hk
  ·exact .inl ⟨hk,h.1⟩
  ·exact .inr (.inl ⟨hk,h.1⟩)
 ·split at h
  ·rename_i hk
   simp only[Bool.and_eq_true,decide_eq_true_eq] at h
   exact .inr (.inr ⟨hk,h.1.1,h.1.2⟩)
  ·cases h
theorem Zaj.linB{l:Lin}(h:Zaj l=true):linB l:=by
 have:=Zaj.b h
 exact⟨by omega,fun n hn=>by have:=this.2.1 n hn;exact⟨by omega,by omega⟩,by omega,by omega⟩
theorem Zi.condB{c:Zc}(h:Zi c=true):condB c:=by
 refine⟨?_,Zaj.linB (Zi.lin h)⟩
 rcases Zi.kind h with h | h | h
 ·exact .inl h.1
 ·exact .inr (.inl h.1)
 ·exact .inr (.inr ⟨h.1,h.2.1,by omega⟩)
theorem ZdU(b:Bool):(ZcI b).2=1∨(ZcI b).2=-1:=by cases b<;>simp[ZcI]
theorem Zp0(c:Zc):(ZbD c).2=0∨(ZbD c).2=1∨(ZbD c).2=-1:=by
 unfold ZbD geF eqF ZkX
 split
 ·split
  ·exact .inr (ZdU _)
  ·exact .inl rfl
 ·split
  ·split
   ·exact .inr (ZdU _)
   ·exact .inl rfl
  ·split
   ·exact .inr (ZdU _)
   ·split
    ·exact .inr (ZdU _)
    ·exact .inl rfl
theorem ZjI{α β:Type}{f:List β→α→Option (List β)}(hf:∀ t x t',f t x=some t'→t'.length≤t.length+1):∀ (l:List α) (a t:List β),l.foldlM f a=some t→t.length≤a.length+l.length
 | [],a,t,h=>by cases h;simp
 | x::l,a,t,h=>by
   rw[List.foldlM_cons] at h
   cases hx:f a x with
   | none=>rw[hx] at h;cases h
   | some b =>
     rw[hx] at h
     have:=ZjI hf l b t h
     have:=hf a x b hx
     simp only[List.length_cons];omega
theorem Zab.spec(n:Int):Zab.wp n (fun r=>r=Zab.fn (n,())):=by simp[Zab.wp,Zab.fn]
theorem ZE.spec(a b:Int):ZE.wp a b (fun r=>r=ZE.fn (a,b,())):=by
 simp only[ZE.wp,Zab.fn,ZE.fn,Zhg,cond_false]
 by_cases h:a < b
 ·simp[h]
 ·by_cases h2:b < a<;>simp[h,h2]
theorem ZtB{l:List Int}{i:Nat}(h:∀ j,j < i→l.getD j 0=0):orL l=orL (l.drop i):=by
 induction i generalizing l with
 | zero=>rfl
 | succ i ih =>
   cases l with
   | nil=>rfl
   | cons n l =>
     have h0:=h 0 (by omega)
     simp at h0
     simp only[orL,if_pos h0,List.drop_succ_cons]
     exact ih (fun j hj=>by have:=h (j+1) (by omega);simpa using this)
theorem Zbm.spec(l:List Int)(hl:l.length≤9223372036854775807):Zbm.wp l (fun r=>r=Zbm.fn (l,())):=by
 refine Lp.iter l.length (fun i y=>y=(i:Int)∧∀ j,j < i→l.getD j 0=0) ⟨rfl,fun j hj=>absurd hj (by omega)⟩ ?_
 rintro i y hle ⟨rfl,hi⟩ R hR
 have hd:=ZtB hi
 by_cases e:i < l.length
 ·simp only[decide_eq_true (show (i:Int) < (l.length:Int) by omega),Int.toNat_natCast,cond_true]
  refine⟨⟨by omega,by omega⟩,?_⟩
  rw[List.drop_eq_getElem_cons e] at hd
  by_cases h0:l.getD i 0=0
  ·simp only[h0,bne_self_eq_false,cond_false]
   refine⟨⟨by omega,by omega⟩,hR e _ ⟨by omega,fun j hj=>?_⟩⟩
   by_cases ej:j=i
   ·subst ej;exact h0
   ·exact hi j (by omega)
  ·simp only[bne_iff_ne.2 h0,cond_true]
   rw[ZD e] at h0 ⊢
   simp only[orL,if_neg h0] at hd
   exact hd.symm
 ·have:i=l.length:=by omega
  subst this
  simp only[Int.lt_irrefl,decide_false,cond_false]
  rw[List.drop_length] at hd
  exact hd.symm
theorem Zt.spec(a b:List Int)(hl:a.length≤9223372036854775807):Zt.wp a b (fun r=>r=Zt.fn (a,b,())):=by
 refine Lp.iter a.length (fun i y=>y=(i:Int)∧i≤b.length∧ZcX a b=ZcX (a.drop i) (b.drop i)) ⟨rfl,Nat.zero_le _,rfl⟩ ?_
 rintro i y hle ⟨rfl,hib,hd⟩ R hR
 have hfn:Zt.fn (a,b,())=ZcX a b:=rfl
 rw[hfn]
 by_cases e:i < a.length
 ·simp only[decide_eq_true (show (i:Int) < (a.length:Int) by omega),Int.toNat_natCast,cond_true,ZE.fn]
  refine⟨⟨by omega,by omega⟩,?_⟩
  rw[List.drop_eq_getElem_cons e] at hd
  by_cases hb:i < b.length
  ·rw[decide_eq_false (show ¬ (b.length:Int)≤(i:Int) by omega)]
   rw[List.drop_eq_getElem_cons hb] at hd
   refine⟨⟨by omega,by omega⟩,?_⟩
   rw[ZD e,ZD hb]
   simp only[ZcX] at hd
   by_cases hc:Zhg a[i] b[i]=0
   ·rw[if_pos hc] at hd
    rw[hc,bne_self_eq_false]
    exact⟨⟨by omega,by omega⟩,hR e _ ⟨by omega,hb,hd⟩⟩
   ·rw[if_neg hc] at hd
    rw[bne_iff_ne.2 hc]
    exact hd.symm
  ·rw[decide_eq_true (show (b.length:Int)≤(i:Int) by omega)]
   rw[List.drop_eq_nil_of_le (show b.length≤i by omega)] at hd
   exact hd.symm
 ·have:i=a.length:=by omega
  subst this
  simp only[Int.lt_irrefl,decide_false,cond_false]
  rw[List.drop_length] at hd
  by_cases hb:a.length < b.length
  ·rw[decide_eq_true (show (a.length:Int) < (b.length:Int) by omega)]
   rw[List.drop_eq_getElem_cons hb] at hd
   exact hd.symm
  ·rw[decide_eq_false (show ¬ (a.length:Int) < (b.length:Int) by omega)]
   rw[List.drop_eq_nil_of_le (show b.length≤a.length by omega)] at hd
   exact hd.symm
theorem Zap.spec(a b:Zc)(hp:Zap.pre (a,b,())):Zap.wp a b (fun r=>r=Zap.fn (a,b,())):=by
 obtain⟨ha,hb⟩:=hp
 obtain⟨ka,ma,ca⟩:=a
 obtain⟨kb,mb,cb⟩:=b
 simp only[Zap.wp,Zap.fn,Zhr,Zbm.fn,ZE.fn,Zt.fn]
 rcases ha with h | h | h<;>rcases hb with h' | h' | h'<;>(simp only at h h';subst h h';simp[Zce])
theorem Za9.spec(c:Zc):Za9.wp c (fun r=>r=Za9.fn (c,())):=rfl
theorem Zao.spec(a b:Zc)(hp:Zao.pre (a,b,())):Zao.wp a b (fun r=>r=Zao.fn (a,b,())):=⟨hp,rfl⟩
theorem ZrJ{α:Type}{f:α→Bool}{l:List α}{d:α}{i:Nat}(h:∀ j,j < i→f (l.getD j d)=false)(hi:i≤l.length)(k:Int):Zpe f l k=Zpe f (l.drop i) (k+i):=by
 induction i generalizing l k with
 | zero=>simp
 | succ i ih =>
   cases l with
   | nil=>simp at hi
   | cons x l =>
     have h0:=h 0 (by omega)
     simp at h0
     simp only[Zpe,h0,Bool.false_eq_true,if_false,List.drop_succ_cons]
     rw[ih (fun j hj=>by have:=h (j+1) (by omega);simpa using this) (by simpa using hi)]
     congr 1;omega
theorem Zg.spec(l:List Zc)(f:(Zc→Prop)×(Zc→Bool))(hl:l.length≤9223372036854775807)(hp:Zg.pre (l,f,())):Zg.wp l f (fun r=>r=Zg.fn (l,f,())):=by
 refine Lp.iter l.length (fun i y=>y=(i:Int)∧∀ j,j < i→f.2 (l.getD j Za)=false) ⟨rfl,fun j hj=>absurd hj (by omega)⟩ ?_
 rintro i y hle ⟨rfl,hi⟩ R hR
 have hd:=ZrJ hi hle 0
 have hfn:Zg.fn (l,f,())=Zpe f.2 l 0:=rfl
 rw[hfn]
 by_cases e:i < l.length
 ·simp only[decide_eq_true (show (i:Int) < (l.length:Int) by omega),Int.toNat_natCast,cond_true]
  refine⟨⟨by omega,by omega⟩,hp _ (Zj e),?_⟩
  rw[List.drop_eq_getElem_cons e] at hd
  cases h0:f.2 (l.getD i Za) with
  | true =>
    rw[ZD e] at h0
    simp only[Zpe,h0,if_true] at hd
    show (i:Int)=_
    omega
  | false =>
    refine⟨⟨by omega,by omega⟩,hR e _ ⟨by omega,fun j hj=>?_⟩⟩
    by_cases ej:j=i
    ·subst ej;exact h0
    ·exact hi j (by omega)
 ·have:i=l.length:=by omega
  subst this
  simp only[Int.lt_irrefl,decide_false,cond_false]
  rw[List.drop_length] at hd
  exact hd.symm
theorem Zoj{α:Type}{f:α→Bool}:∀ {l:List α} {k:Int},0≤k→decide (0≤Zpe f l k)=l.any f
 | [],k,_=>by simp[Zpe]
 | x::l,k,hk=>by
   simp only[List.any_cons]
   by_cases h:f x=true
   ·simp[Zpe,h,hk]
   ·rw[show Zpe f (x::l) k=Zpe f l (k+1) by simp[Zpe,h],Zoj (by omega)]
    simp[h]
theorem Ze.spec(l:List Zc)(f:(Zc→Prop)×(Zc→Bool))(hp:Ze.pre (l,f,())):Ze.wp l f (fun r=>r=Ze.fn (l,f,())) :=
 ⟨hp,Zoj (Int.le_refl 0)⟩
def Zd9(l:List Int)(s:Int):List Int:=l.flatMap fun n=>ZbG (s*n)++[44]
def Zcs(p:List Zc):List Int:=p.flatMap fun c=>ZbG c.1++[58]++ZbG c.2.1++[58]++Zd9 c.2.2.1 1++ZbG c.2.2.2++[59]
abbrev ZaE.fn(x:List Int×Int×Unit):ByteArray:=ZbV (Zd9 x.1 x.2.1)
abbrev ZaE.pre(x:List Int×Int×Unit):Prop:=x.1.length≤1048576∧ZcO x.1∧(x.2.1=1∨x.2.1=-1)
abbrev Zp.fn(x:List Zc×Unit):ByteArray:=ZbV (Zcs x.1)
def nameOk(p:List Zc):Prop:=p.length≤1048576∧∀ c∈p,c.2.2.1.length≤4096∧ZcO c.2.2.1∧ZcO [c.1,c.2.1,c.2.2.2]
abbrev Zp.pre(x:List Zc×Unit):Prop:=nameOk x.1
def Zef(C:List Int)(out:List Zc):Option Nat:=out.findIdx? fun d=>decide (d.1=0∧d.2.2.1=C)
def Zhh(d:Zc)(k:Int):Zc:=(d.1,d.2.1,d.2.2.1,min d.2.2.2 k)
def Zbc(out:List Zc)(c:Zc):List Zc:=if c.1≠0 then out++[c] else match Zef c.2.2.1 out with
 | some i=>out.set i (Zhh (out.getD i Za) c.2.2.2)
 | none=>out++[c]
def Zbu(l:List Zc):List Zc:=l.foldl Zbc []
abbrev ZaR.fn(x:List Zc×Unit):List Zc:=Zbu x.1
def ZtL(l:List Zc):Prop:=l.length≤1048576∧∀ c∈l,c.2.2.1.length≤1048576∧ZcO c.2.2.1
abbrev ZaR.pre(x:List Zc×Unit):Prop:=ZtL x.1
def Zb5(C:List Int):List Int:=C.map fun n=>-n
def ZcS(C:List Int):List Zc→Nat→Option Nat
 | [],_=>none
 | d::l,i=>match ZcS C l (i+1) with
   | some j=>some j
   | none=>if d.1=0∧d.2.2.1=C then some i else none
def ZbZ(l:List Zc)(st:List Zc×(Int→Option Bool))(ic:Nat×Zc):Option (List Zc×(Int→Option Bool)) :=
 if (st.2 (ic.1:Int)).getD false then some st else match (if ic.2.1≠0 then none else ZcS (Zb5 ic.2.2.2.1) l 0) with
 | none=>some (st.1++[ic.2],st.2)
 | some j=>if ic.2.2.2.2+(l.getD j Za).2.2.2 < 0 then none else if ic.2.2.2.2+(l.getD j Za).2.2.2=0 then some (st.1++[(ZbD (1,0,ic.2.2.2)).1],ZdA st.2 (j:Int) true) else some (st.1++[ic.2],st.2)
def ZcN(l:List Zc):List (Nat×Zc):=(List.range l.length).map fun i=>(i,l.getD i Za)
def Zew(l:List Zc):Option (List Zc):=((ZcN l).foldlM (ZbZ l) ([],fun _=>none)).map (·.1)
abbrev Zar.fn(x:List Zc×Unit):List Zc×Bool:=match Zew x.1 with
 | none=>([],true)
 | some out=>(out,false)
abbrev Zar.pre(x:List Zc×Unit):Prop:=ZaD x.1
def eqK(C:List Int)(l:List Zc):Option Int:=(l.reverse.find? fun d=>decide (d.1=1∧d.2.2.1=C)).map (·.2.2.2)
def ZdQ(seen:List Zc)(c:Zc):Option (List Zc):=if c.1≠1 then some (seen++[c]) else match eqK c.2.2.1 seen with
 | some n=>if n≠c.2.2.2 then none else some (seen++[c])
 | none=>some (seen++[c])
def ZdG(l:List Zc)(out:List Zc)(c:Zc):Option (List Zc):=if c.1≠0 then some (out++[c]) else match eqK c.2.2.1 l with
 | some n=>if c.2.2.2 < n then none else some out
 | none=>match eqK (Zb5 c.2.2.1) l with
   | some n=>if c.2.2.2+n < 0 then none else some out
   | none=>some (out++[c])
def Zb2(l:List Zc):Option (List Zc):=match l.foldlM ZdQ [] with
 | none=>none
 | some _=>l.foldlM (ZdG l) []
def ZhD(c:Zc):List Zc→List Zc
 | []=>[c]
 | d::l=>if Zhr d c < 0 then d::ZhD c l else if d=c then d::l else c::d::l
def ZaU(l:List Zc):List Zc:=l.foldl (fun out c=>ZhD c out) []
def Zac(p:List Zc):List Zc×Bool×Int :=
 if (p.map ZbD).any (fun r=>decide (r.2 < 0)) then ([],true,0) else
 let l:=((p.map ZbD).filter fun r=>decide (r.2=0)).map (·.1)
 match (Zew (Zbu l)).bind Zb2 with
 | none=>([],true,0)
 | some out=>if l.any (fun c=>!Zi c)||decide (96 < (ZaU out).length) then ([],false,3) else (ZaU out,false,0)
abbrev Zb.fn(x:List Zc×Unit):List Zc×Bool×Int:=Zac x.1
abbrev Zb.pre(x:List Zc×Unit):Prop:=ZaD x.1
theorem Zdb:∀ (u:Nat),∀ b∈Lib.decDigits u,48≤b.toNat∧b.toNat≤57:=by
 intro u
 induction u using Nat.strongRecOn with
 | _ u ih =>
   intro b hb
   rw[Lib.decDigits] at hb
   split at hb
   ·rename_i h
    simp only[List.mem_singleton] at hb
    subst hb
    simp;omega
   ·rename_i h
    rcases List.mem_append.1 hb with hb | hb
    ·exact ih (u / 10) (by omega) b hb
    ·simp only[List.mem_singleton] at hb
     subst hb
     simp;omega
def Zw1(l:List UInt8):Nat:=l.foldl (fun a b=>a*10+(b.toNat - 48)) 0
theorem Zog(u:Nat):Zw1 (Lib.decDigits u)=u:=by
 induction u using Nat.strongRecOn with
 | _ u ih =>
   rw[Lib.decDigits]
   split
   ·rename_i h
    simp[Zw1];omega
   ·rename_i h
    have:=ih (u / 10) (by omega)
    unfold Zw1 at this ⊢
    rw[List.foldl_append,this]
    simp;omega
theorem Zf7{u v:Nat}(h:Lib.decDigits u=Lib.decDigits v):u=v:=by rw[← Zog u,← Zog v,h]
theorem ZpJ(n:Int):∀ b∈Lib.itoa n,b.toNat=45∨(48≤b.toNat∧b.toNat≤57):=by
 intro b hb
 unfold Lib.itoa at hb
 split at hb
 ·rcases List.mem_cons.1 hb with rfl | hb
  ·exact .inl rfl
  ·exact .inr (Zdb _ b hb)
 ·exact .inr (Zdb _ b hb)
theorem Zth{n m:Int}(h:Lib.itoa n=Lib.itoa m):n=m:=by
 have key:∀ u v:Nat,(45:UInt8)::Lib.decDigits u≠Lib.decDigits v:=fun u v e=>by
  have:=Zdb v 45 (by rw[← e];simp)
  simp at this
 unfold Lib.itoa at h
 split at h<;>split at h
 ·have:=Zf7 (List.cons.inj h).2;omega
 ·exact absurd h (key _ _)
 ·exact absurd h.symm (key _ _)
 ·have:=Zf7 h;omega
theorem Zgn{n m:Int}(h:ZbG n=ZbG m):n=m:=by
 refine Zth (List.map_inj_right (f:=fun b:UInt8=>(b.toNat:Int)) (fun a b e=>?_) |>.1 h)
 exact UInt8.toNat_inj.1 (Int.ofNat_inj.1 e)
theorem Zcc(n:Int):∀ b∈ZbG n,b=45∨(48≤b∧b≤57):=by
 intro b hb
 simp only[ZbG,List.mem_map] at hb
 obtain⟨c,hc,rfl⟩:=hb
 have:=ZpJ n c hc
 omega
theorem ZcJ{n:Int}(h:-9223372036854775807≤n)(h2:n≤9223372036854775807):(ZbG n).length≤21:=by
 simp only[ZbG,List.length_map]
 exact Lib.itoa_length_le n (by omega) h2
theorem ZfY{s:Int}:∀ {a a' r r':List Int},s∉a→s∉a'→a++s::r=a'++s::r'→a=a'∧r=r'
 | [],[],r,r',_,_,h=>⟨rfl,(List.cons.inj h).2⟩
 | [],x::a',r,r',_,h2,h=>by
   have:=(List.cons.inj h).1
   exact absurd (by rw[this];simp) h2
 | x::a,[],r,r',h1,_,h=>by
   have:=(List.cons.inj h).1
   exact absurd (by rw[← this];simp) h1
 | x::a,y::a',r,r',h1,h2,h=>by
   obtain⟨e,h⟩:=List.cons.inj h
   simp only[List.mem_cons,not_or] at h1 h2
   obtain⟨e1,e2⟩:=ZfY h1.2 h2.2 h
   exact⟨by rw[e,e1],e2⟩
theorem ZwD(n:Int):(44:Int)∉ZbG n:=fun h=>by have:=Zcc n _ h;omega
theorem Zes(n:Int)(l:List Int)(s:Int):Zd9 (n::l) s=ZbG (s*n)++44::Zd9 l s:=by simp[Zd9]
theorem Zlf:∀ {l l':List Int} {s s':Int} {r r':List Int},(44:Int)∉r→(44:Int)∉r'→Zd9 l s++r=Zd9 l' s'++r'→l.map (s*·)=l'.map (s'*·)∧r=r'
 | [],[],s,s',r,r',_,_,h=>⟨rfl,h⟩
 | [],n::l',s,s',r,r',h1,_,h=>by
   rw[Zes] at h
   exact absurd (by rw[show r=_ from h];simp) h1
 | n::l,[],s,s',r,r',_,h2,h=>by
   rw[Zes] at h
   exact absurd (by rw[show r'=_ from h.symm];simp) h2
 | n::l,m::l',s,s',r,r',h1,h2,h=>by
   rw[Zes,Zes,List.append_assoc,List.append_assoc,List.cons_append,List.cons_append] at h
   obtain⟨e1,e2⟩:=ZfY (ZwD _) (ZwD _) h
   obtain⟨e3,e4⟩:=Zlf h1 h2 e2
   exact⟨by rw[List.map_cons,List.map_cons,Zgn e1,e3],e4⟩
theorem Ze6(l:List Int)(s:Int):∀ b∈Zd9 l s,44≤b∧b≤57:=by
 intro b hb
 simp only[Zd9,List.mem_flatMap,List.mem_append,List.mem_singleton] at hb
 obtain⟨n,_,hb | rfl⟩:=hb
 ·have:=Zcc _ b hb;omega
 ·omega
theorem Zmf:∀ {l l':List Int},(∀ b∈l,0≤b∧b≤255)→(∀ b∈l',0≤b∧b≤255)→l.map (fun n=>UInt8.ofNat n.toNat)=l'.map (fun n=>UInt8.ofNat n.toNat)→l=l'
 | [],[],_,_,_=>rfl
 | [],_::_,_,_,h=>by simp at h
 | _::_,[],_,_,h=>by simp at h
 | a::l,b::l',h1,h2,h=>by
   simp only[List.map_cons,List.cons.injEq] at h
   have h3:=h1 a (by simp)
   have h4:=h2 b (by simp)
   have e:=congrArg UInt8.toNat h.1
   simp at e
   have:a=b:=by omega
   rw[this,Zmf (fun c hc=>h1 c (by simp[hc])) (fun c hc=>h2 c (by simp[hc])) h.2]
theorem ZmM{l l':List Int}(h1:∀ b∈l,0≤b∧b≤255)(h2:∀ b∈l',0≤b∧b≤255)(h:ZbV l=ZbV l'):l=l':=by
 refine Zmf h1 h2 ?_
 have:=congrArg (fun x:ByteArray=>x.data.toList) h
 simpa[ZbV] using this
theorem ZkN{l:List Int}(h:∀ b∈l,0≤b∧b≤255):ZdC (ZbV l)=l:=by
 simp only[ZdC,ZbV,List.map_map]
 conv=>rhs;rw[← List.map_id l]
 refine List.map_congr_left fun b hb=>?_
 have:=h b hb
 simp;omega
theorem Zi7(l:List Int):l.map ((1:Int)*·)=l:=by
 conv=>rhs;rw[← List.map_id l]
 exact List.map_congr_left fun n _=>by simp
theorem Zu1(l:List Int):l.map ((-1:Int)*·)=Zb5 l:=List.map_congr_left fun n _=>by omega
theorem ZrD{C C':List Int}{s s':Int}:ZbV (Zd9 C s)=ZbV (Zd9 C' s')↔C.map (s*·)=C'.map (s'*·):=by
 have hb:∀ (l:List Int) (s:Int),∀ b∈Zd9 l s,0≤b∧b≤255:=fun l s b hb=>by have:=Ze6 l s b hb;omega
 constructor
 ·intro h
  have:=ZmM (hb _ _) (hb _ _) h
  exact (Zlf (r:=[]) (r':=[]) (by simp) (by simp) (by simpa using this)).1
 ·intro h
  have:∀ (l:List Int) (s:Int),Zd9 l s=(l.map (s*·)).flatMap fun n=>ZbG n++[44]:=fun l s=>by
   simp[Zd9,List.flatMap_map]
  rw[this,this,h]
theorem ZkG{C C':List Int}:ZbV (Zd9 C 1)=ZbV (Zd9 C' 1)↔C=C':=by rw[ZrD,Zi7,Zi7]
theorem Zn5{C C':List Int}:ZbV (Zd9 C (-1))=ZbV (Zd9 C' 1)↔Zb5 C=C':=by rw[ZrD,Zi7,Zu1]
theorem ZdR(c:Zc)(p:List Zc):Zcs (c::p)=ZbG c.1++58::(ZbG c.2.1++58::((Zd9 c.2.2.1 1++ZbG c.2.2.2)++59::Zcs p)):=by
 simp[Zcs]
theorem Zmj:∀ {p q:List Zc},Zcs p=Zcs q→p=q
 | [],[],_=>rfl
 | [],c::q,h=>by rw[ZdR] at h;simp[Zcs] at h
 | c::p,[],h=>by rw[ZdR] at h;simp[Zcs] at h
 | c::p,d::q,h=>by
   rw[ZdR,ZdR] at h
   have n58:∀ n,(58:Int)∉ZbG n:=fun n h=>by have:=Zcc n _ h;omega
   have n59:∀ C K,(59:Int)∉Zd9 C 1++ZbG K:=fun C K h=>by
    rcases List.mem_append.1 h with h | h
    ·have:=Ze6 _ _ _ h;omega
    ·have:=Zcc _ _ h;omega
   obtain⟨e1,h⟩:=ZfY (n58 _) (n58 _) h
   obtain⟨e2,h⟩:=ZfY (n58 _) (n58 _) h
   obtain⟨e3,h⟩:=ZfY (n59 _ _) (n59 _ _) h
   obtain⟨e4,e5⟩:=Zlf (ZwD _) (ZwD _) e3
   rw[Zi7,Zi7] at e4
   have ih:=Zmj h
   rw[ih,Prod.ext (Zgn e1) (Prod.ext (Zgn e2) (Prod.ext e4 (Zgn e5)))]
theorem ZiS(p:List Zc):∀ b∈Zcs p,0≤b∧b≤255:=by
 intro b hb
 simp only[Zcs,List.mem_flatMap,List.mem_append,List.mem_singleton] at hb
 obtain⟨c,_,hb⟩:=hb
 rcases hb with (((((hb | rfl) | hb) | rfl) | hb) | hb) | rfl
 ·have:=Zcc _ _ hb;omega
 ·omega
 ·have:=Zcc _ _ hb;omega
 ·omega
 ·have:=Ze6 _ _ _ hb;omega
 ·have:=Zcc _ _ hb;omega
 ·omega
theorem Zoc{p q:List Zc}:ZbV (Zcs p)=ZbV (Zcs q)↔p=q :=
 ⟨fun h=>Zmj (ZmM (ZiS p) (ZiS q) h),fun h=>by rw[h]⟩
def ZaE.wp(x0:List Int)(x1:Int)(Q:ByteArray→Prop):Prop:=let v2:=List.length ([(44:Int)]);Lp (σ:=Int×List Int) (fun y3 R3=>let v0:=List.getD x0 (Int.toNat y3.1) (0:Int);let v1:=List.length (y3.2++ZbG (x1*v0));cond (decide (y3.1 < ((List.length x0:Nat):Int))) (((0:Int)≤y3.1∧y3.1 < ((List.length x0:Nat):Int))∧(Zo IntKind.i64 (x1*v0)∧(ZpH (x1*v0) y3.2∧((((v1+v2)*1)≤140737488355328∧(v1+v2)≤9223372036854775807)∧(Zo IntKind.i64 (y3.1+(1:Int))∧R3 ((y3.1+(1:Int)),((y3.2++ZbG (x1*v0))++[(44:Int)]))))))) (Q (ZbV y3.2))) ((0:Int),([]:List Int))
def Zp.wp(x0:List Zc)(Q:ByteArray→Prop):Prop:=let v2:=List.length ([(58:Int)]);let v8:=List.length ([(59:Int)]);Lp (σ:=Int×List Int) (fun y2 R2=>let v0:=List.getD x0 (Int.toNat y2.1) Za;let v1:=List.length (y2.2++ZbG v0.1);let v3:=List.length (((y2.2++ZbG v0.1)++[(58:Int)])++ZbG v0.2.1);let v4:=List.length ((((y2.2++ZbG v0.1)++[(58:Int)])++ZbG v0.2.1)++[(58:Int)]);let v5:=ZaE.fn (v0.2.2.1,((1:Int),()));let v6:=List.length (ZdC v5);let v7:=List.length ((((((y2.2++ZbG v0.1)++[(58:Int)])++ZbG v0.2.1)++[(58:Int)])++ZdC v5)++ZbG v0.2.2.2);cond (decide (y2.1 < ((List.length x0:Nat):Int))) (((0:Int)≤y2.1∧y2.1 < ((List.length x0:Nat):Int))∧(ZpH v0.1 y2.2∧((((v1+v2)*1)≤140737488355328∧(v1+v2)≤9223372036854775807)∧(ZpH v0.2.1 ((y2.2++ZbG v0.1)++[(58:Int)])∧((((v3+v2)*1)≤140737488355328∧(v3+v2)≤9223372036854775807)∧(ZaE.pre (v0.2.2.1,((1:Int),()))∧((((v4+v6)*1)≤140737488355328∧(v4+v6)≤9223372036854775807)∧(ZpH v0.2.2.2 (((((y2.2++ZbG v0.1)++[(58:Int)])++ZbG v0.2.1)++[(58:Int)])++ZdC v5)∧((((v7+v8)*1)≤140737488355328∧(v7+v8)≤9223372036854775807)∧(Zo IntKind.i64 (y2.1+(1:Int))∧R2 ((y2.1+(1:Int)),(((((((y2.2++ZbG v0.1)++[(58:Int)])++ZbG v0.2.1)++[(58:Int)])++ZdC v5)++ZbG v0.2.2.2)++[(59:Int)])))))))))))) (Q (ZbV y2.2))) ((0:Int),([]:List Int))
def ZaR.wp(x0:List Zc)(Q:(List Zc)→Prop):Prop:=Lp (σ:=Int×(List (Zc))×(ByteArray→Option Int)) (fun y2 R2=>let v0:=List.getD x0 (Int.toNat y2.1) Za;let v1:=ZaE.fn (v0.2.2.1,((1:Int),()));let v3:=Option.getD (y2.2.2 v1) (0:Int);let v4:=List.getD y2.2.1 (Int.toNat v3) Za;cond (decide (y2.1 < ((List.length x0:Nat):Int))) (((0:Int)≤y2.1∧y2.1 < ((List.length x0:Nat):Int))∧cond (v0.1 != (0:Int)) ((((List.length y2.2.1+List.length [v0])*48)≤140737488355328∧(List.length y2.2.1+List.length [v0])≤9223372036854775807)∧(Zo IntKind.i64 (y2.1+(1:Int))∧R2 ((y2.1+(1:Int)),((y2.2.1++[v0]),y2.2.2)))) (ZaE.pre (v0.2.2.1,((1:Int),()))∧cond (Option.isSome (y2.2.2 v1)) (((0:Int)≤v3∧v3 < ((List.length y2.2.1:Nat):Int))∧(Int.toNat v3 < List.length y2.2.1∧(((0:Int)≤v3∧v3 < ((List.length y2.2.1:Nat):Int))∧(Int.toNat v3 < List.length y2.2.1∧(Zo IntKind.i64 (y2.1+(1:Int))∧R2 ((y2.1+(1:Int)),((List.set y2.2.1 (Int.toNat v3) (v4.1,(v4.2.1,(v4.2.2.1,(Min.min v4.2.2.2 v0.2.2.2))))),y2.2.2))))))) ((((List.length y2.2.1+List.length [v0])*48)≤140737488355328∧(List.length y2.2.1+List.length [v0])≤9223372036854775807)∧(Zo IntKind.i64 (y2.1+(1:Int))∧R2 ((y2.1+(1:Int)),((y2.2.1++[v0]),(ZdA y2.2.2 v1 ((List.length y2.2.1:Nat):Int)))))))) (Q y2.2.1)) ((0:Int),(([]:List (Zc)),fun (a2:ByteArray)=>(none:Option Int)))
def Zar.wp(x0:List Zc)(Q:(List Zc)×Bool→Prop):Prop:=Lp (σ:=Int×(ByteArray→Option Int)) (fun y2 R2=>let v0:=List.getD x0 (Int.toNat y2.1) Za;cond (decide (y2.1 < ((List.length x0:Nat):Int))) (((0:Int)≤y2.1∧y2.1 < ((List.length x0:Nat):Int))∧cond (v0.1 == (0:Int)) (ZaE.pre (v0.2.2.1,((1:Int),()))∧(Zo IntKind.i64 (y2.1+(1:Int))∧R2 ((y2.1+(1:Int)),ZdA y2.2 (ZaE.fn (v0.2.2.1,((1:Int),()))) y2.1))) (Zo IntKind.i64 (y2.1+(1:Int))∧R2 ((y2.1+(1:Int)),y2.2))) (Lp (σ:=Int×(List (Zc))×(Int→Option Bool)) (fun y4 R4=>let v3:=List.getD x0 (Int.toNat y4.1) Za;let v4:=ZaE.fn (v3.2.2.1,((-(1:Int)),()));let v6:=Option.getD (y2.2 v4) (0:Int);let v7:=List.getD x0 (Int.toNat v6) Za;let v8:=ZaN.fn (((1:Int),((0:Int),v3.2.2)),());cond (decide (y4.1 < ((List.length x0:Nat):Int))) (((0:Int)≤y4.1∧y4.1 < ((List.length x0:Nat):Int))∧cond (Option.getD (y4.2.2 y4.1) false) (Zo IntKind.i64 (y4.1+(1:Int))∧R4 ((y4.1+(1:Int)),y4.2)) (ZaE.pre (v3.2.2.1,((-(1:Int)),()))∧(((!(v3.1 != (0:Int)))=true→((!(v3.1 != (0:Int)))=true∧True))∧(((v3.1 != (0:Int))=false→(!(v3.1 != (0:Int)))=true)∧cond ((v3.1 != (0:Int))||(!(Option.isSome (y2.2 v4)))) ((((List.length y4.2.1+List.length [v3])*48)≤140737488355328∧(List.length y4.2.1+List.length [v3])≤9223372036854775807)∧(Zo IntKind.i64 (y4.1+(1:Int))∧R4 ((y4.1+(1:Int)),((y4.2.1++[v3]),y4.2.2)))) (((0:Int)≤v6∧v6 < ((List.length x0:Nat):Int))∧(Zo IntKind.i64 (v3.2.2.2+v7.2.2.2)∧cond (decide ((v3.2.2.2+v7.2.2.2) < (0:Int))) (Q (([]:List (Zc)),true)) (cond ((v3.2.2.2+v7.2.2.2) == (0:Int)) (ZaN.pre (((1:Int),((0:Int),v3.2.2)),())∧((((List.length y4.2.1+List.length [v8.1])*48)≤140737488355328∧(List.length y4.2.1+List.length [v8.1])≤9223372036854775807)∧(Zo IntKind.i64 (y4.1+(1:Int))∧R4 ((y4.1+(1:Int)),((y4.2.1++[v8.1]),ZdA y4.2.2 v6 true))))) ((((List.length y4.2.1+List.length [v3])*48)≤140737488355328∧(List.length y4.2.1+List.length [v3])≤9223372036854775807)∧(Zo IntKind.i64 (y4.1+(1:Int))∧R4 ((y4.1+(1:Int)),((y4.2.1++[v3]),y4.2.2))))))))))) (Q (y4.2.1,false))) ((0:Int),(([]:List (Zc)),fun (a4:Int)=>(none:Option Bool))))) ((0:Int),fun (a2:ByteArray)=>(none:Option Int))
def Zb.wp(x0:List Zc)(Q:(List Zc)×Bool×Int→Prop):Prop:=Lp (σ:=Int×List (Zc)) (fun y2 R2=>let v0:=List.getD x0 (Int.toNat y2.1) Za;let v1:=[(((ZaN.fn (v0,())).1).1,((((ZaN.fn (v0,())).1).2).1,((((ZaN.fn (v0,())).1).2).2)))];let v2:=Zar.fn (ZaR.fn (y2.2,()),());let v14:=Ze.fn (y2.2,((fun (a9:Zc)=>True,fun (a9:Zc)=>Za9.fn (a9,())),()));let v28:=Ze.fn (y2.2,((fun (a13:Zc)=>True,fun (a13:Zc)=>Za9.fn (a13,())),()));let v31:=Ze.fn (y2.2,((fun (a11:Zc)=>True,fun (a11:Zc)=>Za9.fn (a11,())),()));cond (decide (y2.1 < ((List.length x0:Nat):Int))) (((0:Int)≤y2.1∧y2.1 < ((List.length x0:Nat):Int))∧(ZaN.pre (v0,())∧cond (decide ((ZaN.fn (v0,())).2 < (0:Int))) (Q (([]:List (Zc)),(true,(0:Int)))) (cond ((ZaN.fn (v0,())).2 == (0:Int)) ((((List.length y2.2+List.length v1)*48)≤140737488355328∧(List.length y2.2+List.length v1)≤9223372036854775807)∧(Zo IntKind.i64 (y2.1+(1:Int))∧R2 ((y2.1+(1:Int)),(y2.2++v1)))) (Zo IntKind.i64 (y2.1+(1:Int))∧R2 ((y2.1+(1:Int)),y2.2))))) (Ze.pre (y2.2,((fun (a4:Zc)=>True,fun (a4:Zc)=>Za9.fn (a4,())),()))∧(ZaR.pre (y2.2,())∧(Zar.pre (ZaR.fn (y2.2,()),())∧cond v2.2 (Q (([]:List (Zc)),(true,(0:Int)))) (Lp (σ:=Int×(ByteArray→Option Int)) (fun y4 R4=>let v3:=List.getD v2.1 (Int.toNat y4.1) Za;let v4:=ZaE.fn (v3.2.2.1,((1:Int),()));let v5:=Option.isSome (y4.2 v4);cond (decide (y4.1 < ((List.length v2.1:Nat):Int))) (((0:Int)≤y4.1∧y4.1 < ((List.length v2.1:Nat):Int))∧cond (v3.1 != (1:Int)) (Zo IntKind.i64 (y4.1+(1:Int))∧R4 ((y4.1+(1:Int)),y4.2)) (ZaE.pre (v3.2.2.1,((1:Int),()))∧((v5=true→(v5=true∧True))∧((v5=true→(v5=true∧True))∧((v5=true→(v5=true∧(v5=true∧True)))∧((v5=true→v5=true)∧cond (v5&&((Option.getD (y4.2 v4) (0:Int)) != v3.2.2.2)) (Q (([]:List (Zc)),(true,(0:Int)))) (Zo IntKind.i64 (y4.1+(1:Int))∧R4 ((y4.1+(1:Int)),ZdA y4.2 v4 v3.2.2.2)))))))) (Lp (σ:=Int×List (Zc)) (fun y6 R6=>let v7:=List.getD v2.1 (Int.toNat y6.1) Za;let v8:=ZaE.fn (v7.2.2.1,((1:Int),()));let v11:=ZaE.fn (v7.2.2.1,((-(1:Int)),()));let v13:=Option.getD (y4.2 v11) (0:Int);cond (decide (y6.1 < ((List.length v2.1:Nat):Int))) (((0:Int)≤y6.1∧y6.1 < ((List.length v2.1:Nat):Int))∧cond (v7.1 == (0:Int)) (ZaE.pre (v7.2.2.1,((1:Int),()))∧cond (Option.isSome (y4.2 v8)) (cond (decide (v7.2.2.2 < (Option.getD (y4.2 v8) (0:Int)))) (Q (([]:List (Zc)),(true,(0:Int)))) (Zo IntKind.i64 (y6.1+(1:Int))∧R6 ((y6.1+(1:Int)),y6.2))) (ZaE.pre (v7.2.2.1,((-(1:Int)),()))∧cond (Option.isSome (y4.2 v11)) (Zo IntKind.i64 (v7.2.2.2+v13)∧cond (decide ((v7.2.2.2+v13) < (0:Int))) (Q (([]:List (Zc)),(true,(0:Int)))) (Zo IntKind.i64 (y6.1+(1:Int))∧R6 ((y6.1+(1:Int)),y6.2))) ((((List.length y6.2+List.length [v7])*48)≤140737488355328∧(List.length y6.2+List.length [v7])≤9223372036854775807)∧(Zo IntKind.i64 (y6.1+(1:Int))∧R6 ((y6.1+(1:Int)),(y6.2++[v7])))))) ((((List.length y6.2+List.length [v7])*48)≤140737488355328∧(List.length y6.2+List.length [v7])≤9223372036854775807)∧(Zo IntKind.i64 (y6.1+(1:Int))∧R6 ((y6.1+(1:Int)),(y6.2++[v7]))))) (ZqO (fun (a8:Zc)=>fun (a9:Zc)=>Zap.pre (a8,(a9,()))) y6.2∧∀ b8:List (Zc),((List.Perm y6.2 b8∧ZeR (fun (a9:Zc)=>fun (a10:Zc)=>Zap.fn (a9,(a10,()))) b8)→cond (decide (((List.length b8:Nat):Int) < (2:Int))) (((!v14)=true→((!v14)=true∧True))∧(((!v14)=true→((!v14)=true∧True))∧((v14=false→(!v14)=true)∧cond (v14||decide ((96:Int) < ((List.length b8:Nat):Int))) (Q (([]:List (Zc)),(false,(3:Int)))) (Q (b8,(false,(0:Int))))))) (Lp (σ:=Int) (fun y9 R9=>let v15:=Int.toNat (y9 - (1:Int));let v16:=List.getD b8 (Int.toNat y9) Za;let v17:=List.getD b8 v15 Za;cond (decide (y9 < ((List.length b8:Nat):Int))) (((0:Int)≤y9∧y9 < ((List.length b8:Nat):Int))∧(Int.toNat y9 < List.length b8∧(Zo IntKind.i64 (y9 - (1:Int))∧(((0:Int)≤(y9 - (1:Int))∧(y9 - (1:Int)) < ((List.length b8:Nat):Int))∧(v15 < List.length b8∧(Zao.pre (v16,(v17,()))∧cond (Zao.fn (v16,(v17,()))) (((0:Int)≤y9∧y9≤((List.length b8:Nat):Int))∧Lp (σ:=Int×Int×List (Zc)) (fun y11 R11=>let v19:=Int.toNat (y11.1 - (1:Int));let v20:=List.getD y11.2.2 ((0+Int.toNat y9)+Int.toNat y11.1) Za;let v21:=List.getD y11.2.2 ((0+Int.toNat y9)+v19) Za;let v24:=List.take (0+Int.toNat y11.2.1) y11.2.2;let v25:=List.replicate (List.length y11.2.2 - Int.toNat y11.2.1) Za;let v26:=List.drop ((0+Int.toNat y11.2.1)+(List.length y11.2.2 - Int.toNat y11.2.1)) y11.2.2;let v27:=List.length ((v24++v25)++v26);let v30:=List.take (Int.toNat y11.2.1) (List.drop 0 ((v24++v25)++v26));cond (decide (y11.1 < (((List.length b8 - Int.toNat y9):Nat):Int))) (((0:Int)≤y11.1∧(y11.1 < (((List.length b8 - Int.toNat y9):Nat):Int)∧((0+Int.toNat y9)+(List.length b8 - Int.toNat y9))≤List.length y11.2.2))∧(((0+Int.toNat y9)+Int.toNat y11.1) < List.length y11.2.2∧(Zo IntKind.i64 (y11.1 - (1:Int))∧(((0:Int)≤(y11.1 - (1:Int))∧((y11.1 - (1:Int)) < (((List.length b8 - Int.toNat y9):Nat):Int)∧((0+Int.toNat y9)+(List.length b8 - Int.toNat y9))≤List.length y11.2.2))∧(((0+Int.toNat y9)+v19) < List.length y11.2.2∧(Zao.pre (v20,(v21,()))∧cond (!(Zao.fn (v20,(v21,())))) (((0:Int)≤y11.1∧(y11.1 < (((List.length b8 - Int.toNat y9):Nat):Int)∧((0+Int.toNat y9)+(List.length b8 - Int.toNat y9))≤List.length y11.2.2))∧(((0+Int.toNat y9)+Int.toNat y11.1) < List.length y11.2.2∧(((0:Int)≤y11.2.1∧y11.2.1 < ((List.length y11.2.2:Nat):Int))∧(Int.toNat y11.2.1 < List.length y11.2.2∧(Zo IntKind.i64 (y11.2.1+(1:Int))∧(Zo IntKind.i64 (y11.1+(1:Int))∧R11 ((y11.1+(1:Int)),((y11.2.1+(1:Int)),(List.set y11.2.2 (Int.toNat y11.2.1) v20))))))))) (Zo IntKind.i64 (y11.1+(1:Int))∧R11 ((y11.1+(1:Int)),y11.2)))))))) (((0:Int)≤y11.2.1∧y11.2.1≤((List.length y11.2.2:Nat):Int))∧(((0+Int.toNat y11.2.1)+(List.length y11.2.2 - Int.toNat y11.2.1))≤List.length y11.2.2∧(((0:Int)≤y11.2.1∧y11.2.1≤((v27:Nat):Int))∧((0+Int.toNat y11.2.1)≤v27∧(((!v28)=true→((!v28)=true∧True))∧(((!v28)=true→((!v28)=true∧True))∧((v28=false→(!v28)=true)∧cond (v28||decide ((96:Int) < ((List.length v30:Nat):Int))) (Q (([]:List (Zc)),(false,(3:Int)))) (Q (v30,(false,(0:Int)))))))))))) ((1:Int),(y9,b8))) (Zo IntKind.i64 (y9+(1:Int))∧R9 (y9+(1:Int))))))))) (((!v31)=true→((!v31)=true∧True))∧(((!v31)=true→((!v31)=true∧True))∧((v31=false→(!v31)=true)∧cond (v31||decide ((96:Int) < ((List.length b8:Nat):Int))) (Q (([]:List (Zc)),(false,(3:Int)))) (Q (b8,(false,(0:Int)))))))) (1:Int))))) ((0:Int),([]:List (Zc))))) ((0:Int),fun (a4:ByteArray)=>(none:Option Int))))))) ((0:Int),([]:List (Zc)))
theorem ZpQ(l:List Int)(s:Int):∀ b∈Zd9 l s,0≤b∧b≤255:=fun b hb=>by have:=Ze6 l s b hb;omega
theorem ZmX(l:List Int)(s:Int):ZdC (ZbV (Zd9 l s))=Zd9 l s:=ZkN (ZpQ l s)
theorem Zsc(l:List Int)(n s:Int):Zd9 (l++[n]) s=Zd9 l s++ZbG (s*n)++[44]:=by simp[Zd9]
theorem ZpC(p:List Zc)(c:Zc):Zcs (p++[c])=Zcs p++ZbG c.1++[58]++ZbG c.2.1++[58]++Zd9 c.2.2.1 1++ZbG c.2.2.2++[59]:=by simp[Zcs]
theorem ZhE{s:Int}(hs:s=1∨s=-1):∀ {l:List Int},ZcO l→(Zd9 l s).length≤22*l.length
 | [],_=>by simp[Zd9]
 | n::l,h=>by
   rw[Zes]
   have h1:=ZhE hs (l:=l) fun m hm=>h m (by simp[hm])
   have h2:=h n (by simp)
   have h3:(ZbG (s*n)).length≤21:=by rcases hs with rfl | rfl<;>exact ZcJ (by omega) (by omega)
   simp only[List.length_append,List.length_cons];omega
theorem Zl1:∀ {p:List Zc},(∀ c∈p,c.2.2.1.length≤4096∧ZcO c.2.2.1∧ZcO [c.1,c.2.1,c.2.2.2])→(Zcs p).length≤90200*p.length
 | [],_=>by simp[Zcs]
 | c::p,h=>by
   rw[ZdR]
   have h1:=Zl1 (p:=p) fun m hm=>h m (by simp[hm])
   obtain⟨h2,h3,h4⟩:=h c (by simp)
   have h5:=ZhE (.inl rfl) h3
   have a1:=ZcJ (h4 c.1 (by simp)).1 (h4 c.1 (by simp)).2
   have a2:=ZcJ (h4 c.2.1 (by simp)).1 (h4 c.2.1 (by simp)).2
   have a3:=ZcJ (h4 c.2.2.2 (by simp)).1 (h4 c.2.2.2 (by simp)).2
   simp only[List.length_append,List.length_cons];omega
theorem Zpi{l:List Int}(i:Nat)(h:ZcO l):ZcO (l.take i):=fun n hn=>h n (List.mem_of_mem_take hn)
theorem ZaE.spec(l:List Int)(s:Int)(hp:ZaE.pre (l,s,())):ZaE.wp l s (fun r=>r=ZaE.fn (l,s,())):=by
 obtain⟨hl,hi,hs⟩:=hp
 simp only at hl hi hs
 have hfn:ZaE.fn (l,s,())=ZbV (Zd9 l s):=rfl
 simp only[ZaE.wp,hfn]
 refine Lp.iter l.length (fun i y=>y=((i:Int),Zd9 (l.take i) s)) (by simp[Zd9]) ?_
 rintro i y hle rfl R hR
 by_cases e:i < l.length
 ·have hk:=ZhE hs (Zpi i hi)
  have hn:=hi _ (Zj (d:=0) e)
  have hlt:(l.take i).length≤1048576:=by simp;omega
  have h3:(ZbG (s*l.getD i 0)).length≤21:=by rcases hs with rfl | rfl<;>exact ZcJ (by omega) (by omega)
  have hf:Zo .i64 (s*l.getD i 0):=by
   show -9223372036854775808≤s*l.getD i 0∧s*l.getD i 0≤9223372036854775807
   rcases hs with rfl | rfl<;>omega
  simp only[decide_eq_true (show (i:Int) < (l.length:Int) by omega),Int.toNat_natCast,cond_true]
  refine⟨⟨by omega,by omega⟩,hf,⟨hf,by omega⟩,⟨?_,?_⟩,⟨by omega,by omega⟩,hR e _ ?_⟩
  ·simp only[List.length_append,List.length_cons,List.length_nil];omega
  ·simp only[List.length_append,List.length_cons,List.length_nil];omega
  ·rw[Zv 0 e,Zsc]
   rfl
 ·have:i=l.length:=by omega
  subst this
  simp only[Int.lt_irrefl,decide_false,cond_false,List.take_length]
theorem Zp.spec(p:List Zc)(hp:Zp.pre (p,())):Zp.wp p (fun r=>r=Zp.fn (p,())):=by
 obtain⟨hl,hi⟩:=hp
 simp only at hl hi
 have hfn:Zp.fn (p,())=ZbV (Zcs p):=rfl
 simp only[Zp.wp,hfn,ZaE.fn,ZmX]
 refine Lp.iter p.length (fun i y=>y=((i:Int),Zcs (p.take i))) (by simp[Zcs]) ?_
 rintro i y hle rfl R hR
 by_cases e:i < p.length
 ·have hk:=Zl1 (p:=p.take i) fun c hc=>hi c (List.mem_of_mem_take hc)
  obtain⟨h2,h3,h4⟩:=hi _ (Zj (d:=Za) e)
  have h5:=ZhE (.inl rfl) h3
  have b1:=h4 (p.getD i Za).1 (by simp)
  have b2:=h4 (p.getD i Za).2.1 (by simp)
  have b3:=h4 (p.getD i Za).2.2.2 (by simp)
  have a1:=ZcJ b1.1 b1.2
  have a2:=ZcJ b2.1 b2.2
  have a3:=ZcJ b3.1 b3.2
  have hlt:(p.take i).length≤1048576:=by simp;omega
  have hf:∀ n:Int,-9223372036854775807≤n∧n≤9223372036854775807→Zo .i64 n:=fun n h=>⟨by omega,h.2⟩
  simp only[decide_eq_true (show (i:Int) < (p.length:Int) by omega),Int.toNat_natCast,cond_true]
  generalize hc:p.getD i Za=c at *
  generalize hA:Zcs (p.take i)=A at *
  have g1:(A++ZbG c.1).length≤A.length+21:=by simp only[List.length_append];omega
  refine⟨⟨by omega,by omega⟩,⟨hf _ b1,by omega⟩,⟨?_,?_⟩,⟨hf _ b2,?_⟩,⟨?_,?_⟩,⟨(by omega:c.2.2.1.length≤1048576),h3,.inl rfl⟩,⟨?_,?_⟩,⟨hf _ b3,?_⟩,⟨?_,?_⟩,⟨by omega,by omega⟩,hR e _ ?_⟩
  any_goals (simp only[List.length_append,List.length_cons,List.length_nil];omega)
  rw[Zv Za e,ZpC,hA,hc]
  rfl
 ·have:i=p.length:=by omega
  subst this
  simp only[Int.lt_irrefl,decide_false,cond_false,List.take_length]
theorem ZmU{C:List Int}{out:List Zc}{c:Zc}(h:c.1≠0):Zef C (out++[c])=Zef C out:=by
 simp only[Zef,List.findIdx?_append]
 simp[h]
theorem Zpl{C:List Int}{out:List Zc}{c:Zc}(h:c.1=0):Zef C (out++[c])=(Zef C out).or (if C=c.2.2.1 then some out.length else none):=by
 simp only[Zef,List.findIdx?_append]
 by_cases h2:C=c.2.2.1
 ·simp[h,h2]
 ·rw[if_neg h2];simp[h,show ¬ c.2.2.1=C from fun e=>h2 e.symm]
theorem ZmD(C:List Int)(out:List Zc):Zef C out=(out.map fun d=>(d.1,d.2.2.1)).findIdx? fun d=>decide (d.1=0∧d.2=C):=by
 simp only[Zef,List.findIdx?_map]
 rfl
theorem ZrA{C:List Int}{out:List Zc}{i:Nat}{x:Zc}(h:x.1=(out.getD i Za).1)(h2:x.2.2.1=(out.getD i Za).2.2.1):Zef C (out.set i x)=Zef C out:=by
 by_cases e:i < out.length
 ·rw[ZmD,ZmD,List.map_set,h,h2,ZD e]
  congr 1
  have:((out[i].1,out[i].2.2.1):Int×List Int)=(out.map fun d=>(d.1,d.2.2.1))[i]'(by simpa using e):=by simp
  rw[this,List.set_getElem_self]
 ·rw[List.set_eq_of_length_le (by omega)]
theorem ZgG{C:List Int}{out:List Zc}{i:Nat}(h:Zef C out=some i):∃ hi:i < out.length,out[i].1=0∧out[i].2.2.1=C:=by
 obtain⟨hi,h1,_⟩:=List.findIdx?_eq_some_iff_getElem.1 h
 exact⟨hi,by simpa using h1⟩
theorem ZkE(out:List Zc)(c:Zc):(Zbc out c).length≤out.length+1:=by
 unfold Zbc
 split
 ·simp
 ·split<;>simp
theorem ZgB:∀ (l out:List Zc),(l.foldl Zbc out).length≤out.length+l.length
 | [],out=>by simp
 | c::l,out=>by
   have:=ZgB l (Zbc out c)
   have:=ZkE out c
   simp only[List.foldl_cons,List.length_cons];omega
def Zvz(out:List Zc)(m:ByteArray→Option Int):Prop:=∀ C,m (ZbV (Zd9 C 1))=(Zef C out).map fun (i:Nat)=>(i:Int)
theorem ZaR.spec(l:List Zc)(hp:ZaR.pre (l,())):ZaR.wp l (fun r=>r=ZaR.fn (l,())):=by
 obtain⟨hl,hi⟩:=hp
 simp only at hl hi
 have hfn:ZaR.fn (l,())=Zbu l:=rfl
 simp only[ZaR.wp,hfn,ZaE.fn]
 refine Lp.iter l.length (fun i y=>y.1=(i:Int)∧y.2.1=Zbu (l.take i)∧Zvz y.2.1 y.2.2) ⟨rfl,by simp[Zbu],fun C=>by simp[Zef]⟩ ?_
 rintro i ⟨y,out,m⟩ hle ⟨hy,ho,hm⟩ R hR
 simp only at hy ho hm
 subst hy
 by_cases e:i < l.length
 ·have hlen:=ZgB (l.take i) []
  have hlt:(l.take i).length≤1048576:=by simp;omega
  rw[show (l.take i).foldl Zbc []=out from ho.symm] at hlen
  simp only[List.length_nil] at hlen
  have hst:Zbu (l.take (i+1))=Zbc out (l.getD i Za):=by
   rw[Zv Za e,Zbu,List.foldl_append,ho];rfl
  obtain⟨hc1,hc2⟩:=hi _ (Zj (d:=Za) e)
  simp only[decide_eq_true (show (i:Int) < (l.length:Int) by omega),Int.toNat_natCast,cond_true]
  generalize l.getD i Za=c at *
  refine⟨⟨by omega,by omega⟩,?_⟩
  by_cases hk:c.1=0
  ·rw[hk]
   simp only[bne_self_eq_false,cond_false]
   refine⟨⟨hc1,hc2,.inl rfl⟩,?_⟩
   have hmC:=hm c.2.2.1
   cases hg:Zef c.2.2.1 out with
   | none =>
     rw[hg] at hmC
     simp only[hmC,Option.map_none,Option.isSome_none,cond_false]
     refine⟨⟨by simp;omega,by simp;omega⟩,⟨by omega,by omega⟩,hR e _ ⟨by simp,?_,?_⟩⟩
     ·simp only[hst,Zbc,hk,hg];rfl
     ·intro C
      simp only[ZdA,ZkG]
      rw[Zpl hk]
      by_cases hC:C=c.2.2.1
      ·rw[if_pos hC,if_pos hC,hC,hg];rfl
      ·rw[if_neg hC,if_neg hC,hm C];simp
   | some j =>
     rw[hg] at hmC
     obtain⟨hj,h1,h2⟩:=ZgG hg
     simp only[hmC,Option.map_some,Option.isSome_some,cond_true,Option.getD_some,Int.toNat_natCast]
     have hgj:=ZD (d:=Za) hj
     refine⟨⟨by omega,by omega⟩,hj,⟨by omega,by omega⟩,hj,⟨by omega,by omega⟩,hR e _ ⟨by simp,?_,?_⟩⟩
     ·simp only[hst,Zbc,hk,hg];rfl
     ·intro C
      exact (hm C).trans (congrArg _ (ZrA (C:=C) (out:=out) (i:=j) (x:=Zhh (out.getD j Za) c.2.2.2) rfl rfl).symm)
  ·rw[bne_iff_ne.2 hk]
   simp only[cond_true]
   refine⟨⟨by simp;omega,by simp;omega⟩,⟨by omega,by omega⟩,hR e _ ⟨by simp,?_,?_⟩⟩
   ·simp only[hst,Zbc,if_pos hk]
   ·intro C
    exact (hm C).trans (congrArg _ (ZmU hk).symm)
 ·have:i=l.length:=by omega
  subst this
  simp only[Int.lt_irrefl,decide_false,cond_false,ho,List.take_length]
theorem Zfy(C:List Int)(c:Zc):∀ (l:List Zc) (k:Nat),ZcS C (l++[c]) k=if c.1=0∧c.2.2.1=C then some (k+l.length) else ZcS C l k
 | [],k=>by
   simp only[List.nil_append,ZcS,List.length_nil,Nat.add_zero]
 | d::l,k=>by
   simp only[List.cons_append,ZcS,Zfy C c l (k+1),List.length_cons]
   by_cases h:c.1=0∧c.2.2.1=C
   ·simp only[if_pos h];congr 1;omega
   ·simp only[if_neg h]
theorem Zft{C:List Int}:∀ {l:List Zc} {k j:Nat},ZcS C l k=some j→k≤j∧∃ h:j - k < l.length,l[j - k].1=0∧l[j - k].2.2.1=C
 | [],k,j,h=>by cases h
 | d::l,k,j,h=>by
   simp only[ZcS] at h
   cases h1:ZcS C l (k+1) with
   | some i =>
     rw[h1] at h
     cases h
     obtain⟨h2,h3,h4⟩:=Zft h1
     have e:j - k=(j - (k+1))+1:=by omega
     refine⟨by omega,by simp;omega,?_⟩
     simp only[e,List.getElem_cons_succ]
     exact h4
   | none =>
     rw[h1] at h
     simp only at h
     split at h
     ·rename_i h2
      cases h
      refine⟨Nat.le_refl _,by simp,?_⟩
      simp only[Nat.sub_self,List.getElem_cons_zero]
      exact h2
     ·cases h
theorem Zmp{l:List Zc}{st st':List Zc×(Int→Option Bool)}{ic:Nat×Zc}(h:ZbZ l st ic=some st'):st'.1.length≤st.1.length+1:=by
 unfold ZbZ at h
 split at h
 ·cases h;omega
 ·split at h
  ·cases h;simp
  ·split at h
   ·cases h
   ·split at h<;>(cases h;simp)
theorem Zit{l:List Zc}:∀ {m:List (Nat×Zc)} {st st':List Zc×(Int→Option Bool)},m.foldlM (ZbZ l) st=some st'→st'.1.length≤st.1.length+m.length
 | [],st,st',h=>by cases h;simp
 | x::m,st,st',h=>by
   simp only[List.foldlM_cons,Option.bind_eq_bind,Option.bind_eq_some_iff] at h
   obtain⟨s,h1,h2⟩:=h
   have:=Zmp h1
   have:=Zit h2
   simp only[List.length_cons];omega
theorem Zb3(l:List Zc):(ZcN l).length=l.length:=by simp[ZcN]
theorem Zhb{l:List Zc}{i:Nat}(h:i < l.length):(ZcN l).getD i (0,Za)=(i,l.getD i Za):=by
 rw[ZD (by rw[Zb3];exact h)]
 simp[ZcN]
theorem ZcF{l:Lin}(h:linB l):ZcO l.1:=fun n hn=>by have:=h.2.1 n hn;unfold Zfb at this;omega
theorem Zar.spec(l:List Zc)(hp:Zar.pre (l,())):Zar.wp l (fun r=>r=Zar.fn (l,())):=by
 obtain⟨hl,hi⟩:=hp
 simp only at hl hi
 simp only[Zar.wp,ZaE.fn]
 refine Lp.iter l.length (fun i y=>y.1=(i:Int)∧∀ C,y.2 (ZbV (Zd9 C 1))=(ZcS C (l.take i) 0).map fun (i:Nat)=>(i:Int)) ⟨rfl,fun C=>rfl⟩ ?_
 rintro i ⟨y,m⟩ hle ⟨hy,hm⟩ R hR
 simp only at hy hm
 subst hy
 by_cases e:i < l.length
 ·obtain⟨hk0,hb⟩:=hi _ (Zj (d:=Za) e)
  simp only[decide_eq_true (show (i:Int) < (l.length:Int) by omega),Int.toNat_natCast,cond_true]
  refine⟨⟨by omega,by omega⟩,?_⟩
  have hts:=Zv Za e
  generalize l.getD i Za=c at *
  by_cases hk:c.1=0
  ·simp only[hk,beq_self_eq_true,cond_true]
   refine⟨⟨hb.1,ZcF hb,.inl rfl⟩,⟨by omega,by omega⟩,hR e _ ⟨rfl,fun C=>?_⟩⟩
   rw[hts,Zfy]
   simp only[ZdA,ZkG]
   by_cases hC:C=c.2.2.1
   ·rw[if_pos hC,if_pos ⟨hk,hC.symm⟩];simp;omega
   ·rw[if_neg hC,if_neg (fun h=>hC h.2.symm)];exact hm C
  ·rw[beq_eq_false_iff_ne.2 hk]
   simp only[cond_false]
   refine⟨⟨by omega,by omega⟩,hR e _ ⟨rfl,fun C=>?_⟩⟩
   rw[hts,Zfy,if_neg (fun h=>hk h.1)]
   exact hm C
 clear hR
 have hil:i=l.length:=by omega
 subst hil
 simp only[Int.lt_irrefl,decide_false,cond_false]
 rw[List.take_length] at hm
 have hfn:Zar.fn (l,())=(match ((ZcN l).foldlM (ZbZ l) ([],fun _=>none)).map (·.1) with | none=>([],true) | some out=>(out,false)):=rfl
 refine Lp.foldO (ZcN l) (0,Za) (ZbZ l) ([],fun _=>none) (by rw[Zb3];omega) ?_ ?_
 ·rintro i ⟨out,gone⟩ R e _ hf ht hR1 hR2
  rw[Zb3] at e
  rw[Zhb e] at hR1 hR2
  have hlen:=Zit ht
  simp only[List.length_nil,List.length_take,Zb3] at hlen
  obtain⟨hk0,hb⟩:=hi _ (Zj (d:=Za) e)
  simp only[decide_eq_true (show (i:Int) < (l.length:Int) by omega),Int.toNat_natCast,cond_true]
  refine⟨⟨by omega,by omega⟩,?_⟩
  have hat:∀ j,j < l.length→l.getD j Za∈l:=fun j hj=>Zj hj
  simp only[ZbZ] at hR1 hR2
  by_cases hg:(gone (i:Int)).getD false=true
  ·simp only[hg,cond_true,if_true] at hR1 ⊢
   exact⟨hf,hR1 _ rfl⟩
  rw[Bool.not_eq_true] at hg
  simp only[hg,cond_false,Bool.false_eq_true,if_false] at hR1 hR2 ⊢
  refine⟨⟨hb.1,ZcF hb,.inr rfl⟩,fun h=>⟨h,trivial⟩,fun h=>by rw[h];rfl,?_⟩
  have hw:m (ZbV (Zd9 (l.getD i Za).2.2.1 (-1)))=(ZcS (Zb5 (l.getD i Za).2.2.1) l 0).map fun (i:Nat)=>(i:Int):=by
   rw[← hm,Zn5.2 rfl]
  simp only[hw]
  by_cases hk:(l.getD i Za).1=0
  ·simp only[hk,bne_self_eq_false,Bool.false_or,ne_eq,not_true_eq_false,if_false] at hR1 hR2 ⊢
   cases hj:ZcS (Zb5 (l.getD i Za).2.2.1) l 0 with
   | none =>
     rw[hj] at hR1
     simp only[Option.map_none,Option.isSome_none,Bool.not_false,cond_true]
     exact⟨⟨by simp;omega,by simp;omega⟩,hf,hR1 _ rfl⟩
   | some j =>
     rw[hj] at hR1 hR2
     obtain⟨_,hj1,hj2,hj3⟩:=Zft hj
     simp only[Nat.sub_zero] at hj1 hj2 hj3
     obtain⟨_,hb'⟩:=hi _ (hat j hj1)
     have q1:=hb.2.2
     have q2:=hb'.2.2
     unfold Zfb at q1 q2
     simp only[Option.map_some,Option.isSome_some,Bool.not_true,cond_false,Option.getD_some,Int.toNat_natCast] at hR1 hR2 ⊢
     refine⟨⟨by omega,by omega⟩,⟨by omega,by omega⟩,?_⟩
     by_cases h1:(l.getD i Za).2.2.2+(l.getD j Za).2.2.2 < 0
     ·simp only[decide_eq_true h1,cond_true]
      rw[hfn,hR2 (by rw[if_pos h1])]
      rfl
     ·simp only[decide_eq_false h1,cond_false]
      rw[if_neg h1] at hR1
      by_cases h2:(l.getD i Za).2.2.2+(l.getD j Za).2.2.2=0
      ·rw[if_pos h2] at hR1
       simp only[h2,beq_self_eq_true,cond_true]
       exact⟨⟨.inr (.inl rfl),hb⟩,⟨by simp;omega,by simp;omega⟩,hf,hR1 _ rfl⟩
      ·rw[if_neg h2] at hR1
       rw[beq_eq_false_iff_ne.2 h2]
       simp only[cond_false]
       exact⟨⟨by simp;omega,by simp;omega⟩,hf,hR1 _ rfl⟩
  ·simp only[bne_iff_ne.2 hk,Bool.true_or,cond_true,ne_eq,hk,not_false_eq_true,if_true] at hR1 ⊢
   exact⟨⟨by simp;omega,by simp;omega⟩,hf,hR1 _ rfl⟩
 ·rintro⟨out,gone⟩ R ht
  rw[Zb3]
  simp only[Int.lt_irrefl,decide_false,cond_false]
  rw[hfn,ht]
  rfl
def Zgk{α:Type}(f:α→α→Int):Prop:=(∀ x y,f x y=-f y x)∧∀ x y z,f x y≤0→f y z≤0→f x z≤0∧(f x z=0→f x y=0∧f y z=0)
theorem Zgk.zero{α:Type}{f:α→α→Int}(h:Zgk f){x y z:α}(h1:f x y=0)(h2:f y z=0):f x z=0:=by
 have a:=(h.2 x y z (by omega) (by omega)).1
 have b:=(h.2 z y x (by have:=h.1 z y;omega) (by have:=h.1 y x;omega)).1
 have:=h.1 x z
 omega
theorem Zgk.lex{α β:Type}{f:α→α→Int}{g:β→β→Int}(hf:Zgk f)(hg:Zgk g):Zgk fun x y:α×β=>if f x.1 y.1=0 then g x.2 y.2 else f x.1 y.1:=by
 refine⟨fun x y=>?_,fun x y z=>?_⟩
 ·have:=hf.1 x.1 y.1
  have:=hg.1 x.2 y.2
  simp only
  split<;>split<;>omega
 ·have h1:=hf.2 x.1 y.1 z.1
  have h2:=hg.2 x.2 y.2 z.2
  have h3:=@Zgk.zero _ _ hf x.1 y.1 z.1
  simp only
  intro ha hb
  split at ha<;>split at hb<;>split<;>(try split)<;>(try split)<;>omega
theorem Zgk.comap{α β:Type}{f:α→α→Int}(hf:Zgk f)(g:β→α):Zgk fun x y=>f (g x) (g y):=⟨fun x y=>hf.1 _ _,fun x y z=>hf.2 _ _ _⟩
theorem ZdP:Zgk Zhg:=by
 refine⟨fun x y=>?_,fun x y z=>?_⟩
 ·unfold Zhg;repeat' split
  all_goals omega
 ·unfold Zhg;repeat' split
  all_goals omega
theorem Zmq:∀ a b:List Int,ZcX a b=-ZcX b a
 | [],[]=>rfl
 | [],_::_=>rfl
 | _::_,[]=>rfl
 | x::a,y::b=>by
   have h1:=ZdP.1 x y
   have h2:=Zmq a b
   simp only[ZcX]
   split<;>split<;>omega
theorem ZjZ:∀ a b c:List Int,ZcX a b≤0→ZcX b c≤0→ZcX a c≤0∧(ZcX a c=0→ZcX a b=0∧ZcX b c=0)
 | [],[],[]=>by simp[ZcX]
 | [],[],_::_=>by simp[ZcX]
 | [],_::_,[]=>by simp[ZcX]
 | [],_::_,_::_=>by simp[ZcX]
 | _::_,[],_=>by simp[ZcX]
 | _::_,_::_,[]=>by simp[ZcX]
 | x::a,y::b,z::c=>by
   have h1:=ZdP.2 x y z
   have h2:=ZjZ a b c
   have h3:=@Zgk.zero _ _ ZdP x y z
   simp only[ZcX]
   intro ha hb
   split at ha<;>split at hb<;>split<;>(try split)<;>(try split)<;>omega
theorem Zqt:Zgk ZcX:=⟨Zmq,ZjZ⟩
theorem Zly{a b:Int}(h:Zhg a b=0):a=b:=by
 unfold Zhg at h
 split at h
 ·omega
 ·split at h<;>omega
theorem Zrb:∀ {a b:List Int},ZcX a b=0→a=b
 | [],[],_=>rfl
 | [],_::_,h=>by simp[ZcX] at h
 | _::_,[],h=>by simp[ZcX] at h
 | x::a,y::b,h=>by
   simp only[ZcX] at h
   split at h
   ·rename_i h1
    rw[Zly h1,Zrb h]
   ·rename_i h1;exact absurd h h1
theorem Zhw(a b:Zc):Zhr a b=if Zhg (Zce a.1) (Zce b.1)=0 then (if Zhg a.2.1 b.2.1=0 then (if ZcX a.2.2.1 b.2.2.1=0 then Zhg a.2.2.2 b.2.2.2 else ZcX a.2.2.1 b.2.2.1) else Zhg a.2.1 b.2.1) else Zhg (Zce a.1) (Zce b.1):=by
 simp only[Zhr,orL]
 split
 ·split
  ·split
   ·split<;>omega
   ·rfl
  ·rfl
 ·rfl
theorem ZcK:Zgk Zhr:=by
 have h:=(ZdP.comap Zce).lex (ZdP.lex (Zqt.lex ZdP))
 refine⟨fun x y=>?_,fun x y z=>?_⟩
 ·have:=h.1 x y
  simp only[Zhw];exact this
 ·have:=h.2 x y z
  simp only[Zhw];exact this
theorem Zgj(a:Zc):Zhr a a=0:=by have:=ZcK.1 a a;omega
theorem ZqK{a b:Int}(ha:Zgh a)(hb:Zgh b)(h:Zce a=Zce b):a=b:=by
 rcases ha with rfl | rfl | rfl<;>rcases hb with rfl | rfl | rfl<;>first | rfl | (simp[Zce] at h)
theorem Zlh{a b:Zc}(ha:Zgh a.1)(hb:Zgh b.1)(h:Zhr a b=0):a=b:=by
 rw[Zhw] at h
 split at h
 ·rename_i h1
  split at h
  ·rename_i h2
   split at h
   ·rename_i h3
    exact Prod.ext (ZqK ha hb (Zly h1)) (Prod.ext (Zly h2) (Prod.ext (Zrb h3) (Zly h)))
   ·rename_i h3;exact absurd h h3
  ·rename_i h2;exact absurd h h2
 ·rename_i h1;exact absurd h h1
def SS(l:List Zc):Prop:=l.Pairwise fun a b=>Zhr a b < 0
def K3(l:List Zc):Prop:=∀ c∈l,Zgh c.1
theorem ZqU:∀ {l m:List Zc},SS l→SS m→(∀ c,c∈l↔c∈m)→l=m
 | [],[],_,_,_=>rfl
 | [],b::m,_,_,h=>by have:=(h b).2 (by simp);simp at this
 | a::l,[],_,_,h=>by have:=(h a).1 (by simp);simp at this
 | a::l,b::m,h1,h2,h=>by
   obtain⟨h1a,h1b⟩:=List.pairwise_cons.1 h1
   obtain⟨h2a,h2b⟩:=List.pairwise_cons.1 h2
   have e:a=b:=by
    rcases List.mem_cons.1 ((h a).1 (by simp)) with e | ha
    ·exact e
    rcases List.mem_cons.1 ((h b).2 (by simp)) with e | hb
    ·exact e.symm
    have:=h1a b hb
    have:=h2a a ha
    have:=ZcK.1 a b
    omega
   subst e
   congr 1
   refine ZqU h1b h2b fun c=>?_
   have hc:=h c
   simp only[List.mem_cons] at hc
   have hn1:c∈l→c≠a:=fun hm e=>by subst e;have:=h1a _ hm;have:=Zgj c;omega
   have hn2:c∈m→c≠a:=fun hm e=>by subst e;have:=h2a _ hm;have:=Zgj c;omega
   exact⟨fun hm=>(hc.1 (.inr hm)).resolve_left (hn1 hm),fun hm=>(hc.2 (.inr hm)).resolve_left (hn2 hm)⟩
theorem ZfU{c x:Zc}:∀ {l:List Zc},x∈ZhD c l↔x=c∨x∈l
 | []=>by simp[ZhD]
 | d::l=>by
   simp only[ZhD]
   split
   ·simp only[List.mem_cons,ZfU (l:=l)]
    constructor
    ·rintro (h | h | h)<;>simp[h]
    ·rintro (h | h | h)<;>simp[h]
   ·split
    ·rename_i h;subst h;simp
    ·simp
theorem ZrW{c:Zc}:∀ {l:List Zc},Zgh c.1→K3 l→SS l→SS (ZhD c l)
 | [],_,_,_=>List.pairwise_singleton _ _
 | d::l,hc,hk,h=>by
   obtain⟨h1,h2⟩:=List.pairwise_cons.1 h
   simp only[ZhD]
   split
   ·rename_i hd
    refine List.pairwise_cons.2 ⟨fun x hx=>?_,ZrW hc (fun x hx=>hk x (by simp[hx])) h2⟩
    rcases ZfU.1 hx with rfl | hx
    ·exact hd
    ·exact h1 x hx
   ·rename_i hd
    split
    ·exact h
    ·rename_i he
     have hlt:Zhr c d < 0:=by
      have:=ZcK.1 c d
      have:Zhr d c≠0:=fun e=>he (Zlh (hk d (by simp)) hc e)
      omega
     refine List.pairwise_cons.2 ⟨fun x hx=>?_,h⟩
     rcases List.mem_cons.1 hx with rfl | hx
     ·exact hlt
     ·have:=h1 x hx
      have:=ZcK.2 c d x (by omega) (by omega)
      omega
theorem Zlq:∀ {l out:List Zc},K3 l→K3 out→SS out→SS (l.foldl (fun out c=>ZhD c out) out)∧∀ x,x∈l.foldl (fun out c=>ZhD c out) out↔x∈l∨x∈out
 | [],out,_,_,h=>⟨h,by simp⟩
 | c::l,out,h1,h2,h=>by
   have hc:=h1 c (by simp)
   obtain⟨g1,g2⟩:=Zlq (l:=l) (out:=ZhD c out) (fun x hx=>h1 x (by simp[hx])) (fun x hx=>by
    rcases ZfU.1 hx with rfl | hx
    ·exact hc
    ·exact h2 x hx) (ZrW hc h2 h)
   refine⟨g1,fun x=>?_⟩
   rw[List.foldl_cons,g2,ZfU,List.mem_cons]
   constructor
   ·rintro (h | h | h)<;>simp[h]
   ·rintro ((h | h) | h)<;>simp[h]
theorem ZhH{l:List Zc}(h:K3 l):SS (ZaU l):=(Zlq h (by intro c hc;simp at hc) List.Pairwise.nil).1
theorem ZcL{l:List Zc}(h:K3 l)(x:Zc):x∈ZaU l↔x∈l:=by
 have:=(Zlq h (out:=[]) (by intro c hc;simp at hc) List.Pairwise.nil).2 x
 simpa[ZaU] using this
theorem ZjU{l m:List Zc}(h:K3 l)(hs:SS m)(hm:∀ c,c∈m↔c∈l):m=ZaU l:=ZqU hs (ZhH h) fun c=>by rw[hm,ZcL h]
def Zcp(out:List Zc)(x:Zc):List Zc:=if out.getLast?=some x then out else out++[x]
def Zfw(l:List Zc):List Zc:=l.foldl Zcp []
theorem Zkw:∀ {l out:List Zc},K3 l→K3 out→SS out→l.Pairwise (fun a b=>Zhr a b≤0)→(∀ a∈out,∀ b∈l,Zhr a b≤0)→SS (l.foldl Zcp out)∧∀ x,x∈l.foldl Zcp out↔x∈l∨x∈out
 | [],out,_,_,h,_,_=>⟨h,by simp⟩
 | c::l,out,h1,h2,h,h3,h4=>by
   obtain⟨h3a,h3b⟩:=List.pairwise_cons.1 h3
   have h1':K3 l:=fun x hx=>h1 x (by simp[hx])
   rw[List.foldl_cons]
   by_cases e:out.getLast?=some c
   ·rw[show Zcp out c=out by rw[Zcp,if_pos e]]
    obtain⟨g1,g2⟩:=Zkw h1' h2 h h3b fun a ha b hb=>h4 a ha b (by simp[hb])
    refine⟨g1,fun x=>?_⟩
    have hmem:c∈out:=List.mem_of_getLast? e
    rw[g2,List.mem_cons]
    constructor
    ·rintro (h | h)<;>simp[h]
    ·rintro ((h | h) | h)
     ·subst h;exact .inr hmem
     ·exact .inl h
     ·exact .inr h
   ·rw[show Zcp out c=out++[c] by rw[Zcp,if_neg e]]
    have hlt:∀ a∈out,Zhr a c < 0:=by
     intro a ha
     have h5:=h4 a ha c (by simp)
     rcases Int.lt_or_eq_of_le h5 with h6 | h6
     ·exact h6
     ·have hac:=Zlh (h2 a ha) (h1 c (by simp)) h6
      subst hac
      rcases List.eq_nil_or_concat out with h7 | ⟨i,z,h7⟩
      ·subst h7;simp at ha
      ·rw[List.concat_eq_append] at h7
       subst h7
       rw[List.getLast?_append] at e
       simp only[List.getLast?_singleton,Option.some_or,Option.some.injEq] at e
       have h8:=(List.pairwise_append.1 h).2.2
       rcases List.mem_append.1 ha with ha | ha
       ·have h9:=h8 a ha z (by simp)
        have h10:=h4 z (by simp) a (by simp)
        have:=ZcK.1 a z
        omega
       ·simp only[List.mem_singleton] at ha
        exact absurd ha.symm e
    obtain⟨g1,g2⟩:=Zkw (out:=out++[c]) h1' (fun x hx=>by
     rcases List.mem_append.1 hx with hx | hx
     ·exact h2 x hx
     ·simp only[List.mem_singleton] at hx;subst hx;exact h1 x (by simp)) (List.pairwise_append.2 ⟨h,List.pairwise_singleton _ _,fun a ha b hb=>by
      simp only[List.mem_singleton] at hb;subst hb;exact hlt a ha⟩) h3b (fun a ha b hb=>by
     rcases List.mem_append.1 ha with ha | ha
     ·exact h4 a ha b (by simp[hb])
     ·simp only[List.mem_singleton] at ha;subst ha;exact h3a b hb)
    refine⟨g1,fun x=>?_⟩
    rw[g2,List.mem_append,List.mem_singleton,List.mem_cons]
    constructor
    ·rintro (h | h | h)<;>simp[h]
    ·rintro ((h | h) | h)<;>simp[h]
theorem ZtG{l b:List Zc}(hk:K3 l)(hp:l.Perm b)(hs:ZeR Zhr b):Zfw b=ZaU l:=by
 have hk':K3 b:=fun c hc=>hk c (hp.mem_iff.2 hc)
 obtain⟨g1,g2⟩:=Zkw (out:=[]) hk' (by intro c hc;simp at hc) List.Pairwise.nil (hs.imp fun {a b} h=>by have:=ZcK.1 a b;omega) (by intro a ha;simp at ha)
 refine ZjU hk g1 fun c=>?_
 have:=g2 c
 rw[hp.mem_iff]
 simpa[Zfw] using this
theorem Zku(out:List Zc)(x:Zc):(Zcp out x).getLast?=some x:=by
 unfold Zcp
 split
 ·assumption
 ·simp
theorem ZeN{n g:Int}(h:Zfb n):Zfb (n.tdiv g):=by
 have:=ZcE n g
 unfold Zfb at *
 omega
theorem Zqs{n:Int}{g:Nat}(hg:0 < g)(h:Zfb n):Zfb (n / (g:Int)):=by
 unfold Zfb at *
 have h1:=Int.emod_add_mul_ediv n g
 have h2:=Int.emod_nonneg n (show (g:Int)≠0 by omega)
 have h3:=Int.emod_lt_of_pos n (show (0:Int) < g by omega)
 have h4:(1:Int)≤g:=by omega
 generalize n / (g:Int)=q at *
 constructor
 ·apply Int.le_of_not_gt
  intro hq
  have:(g:Int)*q≤1*q:=by
   have:=Int.mul_le_mul_of_nonpos_right h4 (show q≤0 by omega)
   omega
  have h5:(g:Int)*(q+1)≤1*(q+1):=Int.mul_le_mul_of_nonpos_right h4 (show q+1≤0 by omega)
  rw[Int.mul_add] at h5
  omega
 ·apply Int.le_of_not_gt
  intro hq
  have h5:1*q≤(g:Int)*q:=Int.mul_le_mul_of_nonneg_right h4 (show 0≤q by omega)
  omega
theorem Zot{n m:Int}(h1:1≤m)(h2:m≤2305843009213693952):Zfb (n % m):=by
 have h2:=Int.emod_nonneg n (show m≠0 by omega)
 have h3:=Int.emod_lt_of_pos n (show (0:Int) < m by omega)
 unfold Zfb;omega
theorem Zt3{c:Zc}(h:condB c)(h0:(ZbD c).2=0):condB (ZbD c).1:=by
 obtain⟨hk,h1,h2,h3⟩:=h
 have hs:∀ b,(ZcI b).2≠0:=fun b=>by cases b<;>simp[ZcI]
 unfold ZbD at h0 ⊢
 rcases hk with hk | hk | ⟨hk,hm1,hm2⟩
 ·simp only[hk,if_true] at h0 ⊢
  unfold geF at h0 ⊢
  by_cases hg:Za1 c.2.2.1=0
  ·rw[if_pos hg] at h0;exact absurd h0 (hs _)
  ·rw[if_neg hg]
   refine⟨.inl rfl,by simpa using h1,fun n hn=>?_,Zqs (by omega) h3⟩
   obtain⟨m,hm,rfl⟩:=List.mem_map.1 hn
   exact ZeN (h2 m hm)
 ·simp only[hk,show (1:Int)≠0 by decide,if_true,if_false] at h0 ⊢
  unfold eqF at h0 ⊢
  by_cases hg:Za1 c.2.2.1=0∨c.2.2.2.tmod (Za1 c.2.2.1)≠0
  ·rw[if_pos hg] at h0;exact absurd h0 (hs _)
  ·rw[if_neg hg]
   refine⟨.inr (.inl rfl),by simpa using h1,fun n hn=>?_,ZeN h3⟩
   obtain⟨m,hm,rfl⟩:=List.mem_map.1 hn
   exact ZeN (h2 m hm)
 ·simp only[hk,show (2:Int)≠0 by decide,show (2:Int)≠1 by decide,if_false] at h0 ⊢
  unfold ZkX at h0 ⊢
  split at h0
  ·exact absurd h0 (hs _)
  split at h0
  ·exact absurd h0 (hs _)
  rename_i ha hb
  rw[if_neg ha,if_neg hb]
  have hp:0 < Zb8 c:=Zf6 hm1 _
  have hle:Zb8 c≤c.2.1.toNat:=ZeJ hm1 _
  refine⟨.inr (.inr ⟨rfl,?_,?_⟩),by simpa using h1,fun n hn=>?_,ZeN (Zot hm1 hm2)⟩
  ·show 1≤c.2.1.tdiv (Zb8 c)
   rw[Int.tdiv_eq_ediv_of_nonneg (by omega)]
   have:(1:Int)=(Zb8 c:Int) / (Zb8 c:Int):=(Int.ediv_self (by omega)).symm
   rw[this]
   exact Int.ediv_le_ediv (by omega) (by omega)
  ·have:=ZcE c.2.1 (Zb8 c)
   show c.2.1.tdiv (Zb8 c)≤_
   omega
  ·simp only[List.map_map,List.mem_map] at hn
   obtain⟨m,hm,rfl⟩:=hn
   exact ZeN (Zot hm1 hm2)
theorem condB.k3{c:Zc}(h:condB c):Zgh c.1:=by
 rcases h.1 with h | h | h
 ·exact .inl h
 ·exact .inr (.inl h)
 ·exact .inr (.inr h.1)
def ZfJ(out:List Zc)(c:Zc):Option (List Zc):=if (ZbD c).2 < 0 then none else if (ZbD c).2=0 then some (out++[(ZbD c).1]) else some out
def ZbN(p:List Zc):List Zc:=((p.map ZbD).filter fun r=>decide (r.2=0)).map (·.1)
def ZaF(p:List Zc):Bool:=(p.map ZbD).any fun r=>decide (r.2 < 0)
theorem Zeu:∀ (p out:List Zc),p.foldlM ZfJ out=if ZaF p then none else some (out++ZbN p)
 | [],out=>by simp[ZaF,ZbN]
 | c::p,out=>by
   rw[List.foldlM_cons]
   simp only[ZfJ,ZaF,ZbN,List.map_cons,List.any_cons]
   by_cases h:(ZbD c).2 < 0
   ·simp[h]
   ·have ih:∀ out,p.foldlM ZfJ out=if ZaF p then none else some (out++ZbN p):=Zeu p
    unfold ZaF ZbN at ih
    by_cases h2:(ZbD c).2=0
    ·simp only[if_neg h,if_pos h2,Option.bind_eq_bind,Option.bind_some,ih,decide_eq_false h,Bool.false_or]
     simp[h2]
    ·simp only[if_neg h,if_neg h2,Option.bind_eq_bind,Option.bind_some,ih,decide_eq_false h,Bool.false_or]
     simp[h2]
theorem ZoL{p:List Zc}(h:ZaD p):ZaD (ZbN p):=by
 refine⟨?_,fun c hc=>?_⟩
 ·have:=List.length_filter_le (fun r:Zc×Int=>decide (r.2=0)) (p.map ZbD)
  have:=h.1
  simp only[ZbN,List.length_map] at *
  omega
 ·simp only[ZbN,List.mem_map,List.mem_filter] at hc
  obtain⟨r,⟨⟨d,hd,rfl⟩,hr⟩,rfl⟩:=hc
  exact Zt3 (h.2 d hd) (by simpa using hr)
theorem Zkr{p:List Zc}(h:ZaD p):ZtL p:=⟨h.1,fun c hc=>⟨(h.2 c hc).2.1,ZcF (h.2 c hc).2⟩⟩
theorem Zs4{a b:Int}(h:Zfb a)(h2:Zfb b):Zfb (min a b):=by unfold Zfb at *;omega
theorem ZnK{P:Zc→Prop}(hmin:∀ d c,P d→P c→P (Zhh d c.2.2.2)){out:List Zc}{c:Zc}(h:∀ d∈out,P d)(hc:P c):∀ d∈Zbc out c,P d:=by
 intro d hd
 unfold Zbc at hd
 have key:d∈out++[c]→P d:=fun hd=>by
  rcases List.mem_append.1 hd with hd | hd
  ·exact h d hd
  ·simp only[List.mem_singleton] at hd;subst hd;exact hc
 split at hd
 ·exact key hd
 ·split at hd
  ·rename_i i hi
   obtain⟨hi,_⟩:=ZgG hi
   rcases List.mem_or_eq_of_mem_set hd with hd | hd
   ·exact h d hd
   ·subst hd
    exact hmin _ _ (h _ (Zj (d:=Za) hi)) hc
  ·exact key hd
theorem Zhz{P:Zc→Prop}(hmin:∀ d c,P d→P c→P (Zhh d c.2.2.2)){l:List Zc}(h:∀ d∈l,P d):∀ d∈Zbu l,P d:=by
 have key:∀ (l out:List Zc),(∀ d∈out,P d)→(∀ d∈l,P d)→∀ d∈l.foldl Zbc out,P d:=by
  intro l
  induction l with
  | nil=>exact fun out h _=>h
  | cons c l ih=>exact fun out h h2=>ih _ (ZnK hmin h (h2 c (by simp))) fun d hd=>h2 d (by simp[hd])
 exact key l [] (by simp) h
theorem Zwf{d c:Zc}(hb:condB d)(hc:condB c):condB (Zhh d c.2.2.2):=⟨hb.1,hb.2.1,hb.2.2.1,Zs4 hb.2.2.2 hc.2.2.2⟩
theorem Zok{l:List Zc}(h:ZaD l):ZaD (Zbu l):=by
 have:=ZgB l []
 have:=h.1
 exact⟨by simp only[Zbu];simp at *;omega,Zhz (fun d c=>Zwf) h.2⟩
theorem ZvU{c:Zc}(h:linB c.2.2):condB (ZbD (1,0,c.2.2)).1:=by
 have hb:condB (1,0,c.2.2):=⟨.inr (.inl rfl),h⟩
 by_cases h0:(ZbD (1,0,c.2.2)).2=0
 ·exact Zt3 hb h0
 ·have hd:condB Za:=⟨.inl rfl,by simp,by simp,(by unfold Zfb;omega:Zfb 0)⟩
  have:(ZbD (1,0,c.2.2)).1=Za:=by
   simp only[ZbD,show (1:Int)≠0 by decide,if_true,if_false] at h0 ⊢
   unfold eqF at h0 ⊢
   split
   ·simp[ZcI]
   ·rename_i h1
    rw[if_neg h1] at h0
    exact absurd rfl h0
  rw[this];exact hd
theorem Zpt{P:Zc→Prop}(heq:∀ c,c.1=0→P c→P (ZbD (1,0,c.2.2)).1){l:List Zc}{st st':List Zc×(Int→Option Bool)}{ic:Nat×Zc}(h:ZbZ l st ic=some st')(h1:∀ d∈st.1,P d)(h2:P ic.2):∀ d∈st'.1,P d:=by
 have key:∀ x,P x→∀ d∈st.1++[x],P d:=fun x hx d hd=>by
  rcases List.mem_append.1 hd with hd | hd
  ·exact h1 d hd
  ·simp only[List.mem_singleton] at hd;subst hd;exact hx
 unfold ZbZ at h
 split at h
 ·cases h;exact h1
 ·split at h
  ·cases h;exact key _ h2
  ·rename_i j hj
   have h0:ic.2.1=0:=by
    rcases Decidable.em (ic.2.1=0) with h0 | h0
    ·exact h0
    ·rw[if_pos h0] at hj;cases hj
   split at h
   ·cases h
   ·split at h
    ·cases h;exact key _ (heq _ h0 h2)
    ·cases h;exact key _ h2
theorem ZnA{P:Zc→Prop}(heq:∀ c,c.1=0→P c→P (ZbD (1,0,c.2.2)).1){l:List Zc}:∀ {m:List (Nat×Zc)} {st st':List Zc×(Int→Option Bool)},m.foldlM (ZbZ l) st=some st'→(∀ d∈st.1,P d)→(∀ ic∈m,P ic.2)→∀ d∈st'.1,P d
 | [],st,st',h,h1,_=>by cases h;exact h1
 | x::m,st,st',h,h1,h2=>by
   simp only[List.foldlM_cons,Option.bind_eq_bind,Option.bind_eq_some_iff] at h
   obtain⟨s,h3,h4⟩:=h
   exact ZnA heq h4 (Zpt heq h3 h1 (h2 x (by simp))) fun ic hic=>h2 ic (by simp[hic])
theorem Zi0{l:List Zc}{ic:Nat×Zc}(h:ic∈ZcN l):ic.2∈l:=by
 simp only[ZcN,List.mem_map,List.mem_range] at h
 obtain⟨i,hi,rfl⟩:=h
 exact Zj hi
theorem ZqH{l out:List Zc}(h:ZaD l)(hp:Zew l=some out):ZaD out:=by
 unfold Zew at hp
 rw[Option.map_eq_some_iff] at hp
 obtain⟨st,h1,rfl⟩:=hp
 have:=Zit h1
 rw[Zb3] at this
 have h0:=h.1
 refine⟨by simp at this;omega,ZnA (P:=condB) (fun c _ hc=>ZvU hc.2) h1 (by simp) fun ic hic=>h.2 _ (Zi0 hic)⟩
theorem ZmV{P:Zc→Prop}(heq:∀ c,c.1=0→P c→P (ZbD (1,0,c.2.2)).1){l out:List Zc}(h:∀ d∈l,P d)(hp:Zew l=some out):∀ d∈out,P d:=by
 unfold Zew at hp
 rw[Option.map_eq_some_iff] at hp
 obtain⟨st,h1,rfl⟩:=hp
 exact ZnA heq h1 (by simp) fun ic hic=>h _ (Zi0 hic)
theorem Zox(C:List Int)(l:List Zc)(c:Zc):eqK C (l++[c])=if c.1=1∧c.2.2.1=C then some c.2.2.2 else eqK C l:=by
 simp only[eqK,List.reverse_append,List.reverse_singleton,List.singleton_append,List.find?_cons]
 by_cases h:c.1=1∧c.2.2.1=C
 ·rw[if_pos h,decide_eq_true h];rfl
 ·rw[if_neg h,decide_eq_false h]
theorem ZsG{C:List Int}{l:List Zc}{n:Int}(h:eqK C l=some n):∃ c∈l,c.1=1∧c.2.2.1=C∧c.2.2.2=n:=by
 simp only[eqK,Option.map_eq_some_iff] at h
 obtain⟨c,hc,rfl⟩:=h
 have h1:=List.mem_of_find?_eq_some hc
 have h2:=List.find?_some hc
 simp only[decide_eq_true_eq] at h2
 exact⟨c,by simpa using h1,h2.1,h2.2,rfl⟩
theorem Zf2{l:List Zc}:∀ {m out out':List Zc},m.foldlM (ZdG l) out=some out'→out'.length≤out.length+m.length∧∀ d∈out',d∈out∨d∈m
 | [],out,out',h=>by cases h;simp
 | c::m,out,out',h=>by
   simp only[List.foldlM_cons,Option.bind_eq_bind,Option.bind_eq_some_iff] at h
   obtain⟨s,h3,h4⟩:=h
   obtain⟨h5,h6⟩:=Zf2 h4
   have h7:s=out∨s=out++[c]:=by
    unfold ZdG at h3
    split at h3
    ·cases h3;exact .inr rfl
    ·split at h3
     ·split at h3<;>cases h3;exact .inl rfl
     ·split at h3
      ·split at h3<;>cases h3;exact .inl rfl
      ·cases h3;exact .inr rfl
   rcases h7 with rfl | rfl
   ·refine⟨by simp only[List.length_cons];omega,fun d hd=>?_⟩
    rcases h6 d hd with h | h
    ·exact .inl h
    ·exact .inr (by simp[h])
   ·refine⟨by simp only[List.length_cons,List.length_append,List.length_nil] at *;omega,fun d hd=>?_⟩
    rcases h6 d hd with h | h
    ·rcases List.mem_append.1 h with h | h
     ·exact .inl h
     ·simp only[List.mem_singleton] at h;subst h;exact .inr (by simp)
    ·exact .inr (by simp[h])
theorem ZrO{l out:List Zc}(h:ZaD l)(hs:Zb2 l=some out):ZaD out:=by
 unfold Zb2 at hs
 split at hs
 ·cases hs
 ·obtain⟨h1,h2⟩:=Zf2 hs
  have:=h.1
  exact⟨by simp at h1;omega,fun d hd=>(h2 d hd).elim (by simp) (h.2 d)⟩
theorem ZlN{P:Zc→Prop}{l out:List Zc}(h:∀ d∈l,P d)(hs:Zb2 l=some out):∀ d∈out,P d:=by
 unfold Zb2 at hs
 split at hs
 ·cases hs
 ·exact fun d hd=>((Zf2 hs).2 d hd).elim (by simp) (h d)
theorem Z9{α:Type}(o:Option α):o=none∨∃ x,o=some x:=by cases o<;>simp
theorem Zca(p:List Zc):Zac p=if ZaF p then ([],true,(0:Int)) else match (Zew (Zbu (ZbN p))).bind Zb2 with
 | none=>([],true,(0:Int))
 | some out=>if (ZbN p).any (fun c=>!Zi c)||decide (96 < (ZaU out).length) then ([],false,3) else (ZaU out,false,0):=rfl
theorem Zar.fn_eq(l:List Zc):Zar.fn (l,())=(match Zew l with | none=>([],true) | some out=>(out,false)):=rfl
theorem ZjH{b:List Zc}{i:Nat}(h:i < b.length):Zfw (b.take (i+1))=Zcp (Zfw (b.take i)) (b.getD i Za):=by
 rw[Zv Za h,Zfw,List.foldl_append];rfl
theorem Zpq{b:List Zc}{i:Nat}(h:i < b.length):(Zfw (b.take (i+1))).getLast?=some (b.getD i Za):=by
 rw[ZjH h];exact Zku _ _
theorem ZjD{b:List Zc}{i:Nat}(h:i+1 < b.length):Zfw (b.take (i+2))=if b.getD (i+1) Za=b.getD i Za then Zfw (b.take (i+1)) else Zfw (b.take (i+1))++[b.getD (i+1) Za]:=by
 rw[ZjH h,Zcp,Zpq (by omega)]
 by_cases e:b.getD (i+1) Za=b.getD i Za
 ·rw[if_pos e,if_pos (by rw[e])]
 ·rw[if_neg e,if_neg (fun h=>e (Option.some.inj h).symm)]
theorem Zb.spec(p:List Zc)(hp:Zb.pre (p,())):Zb.wp p (fun r=>r=Zb.fn (p,())):=by
 have hp':ZaD p:=hp
 have hl:=hp'.1
 have hQ:Zb.fn (p,())=Zac p:=rfl
 simp only[Zb.wp,hQ]
 refine Lp.foldO p Za ZfJ [] (by omega) ?_ ?_
 ·intro i out R e e2 hf ht hR1 hR2
  have hb:=hp'.2 _ (Zj (d:=Za) e)
  have hlen:=ZjI (f:=ZfJ) (fun t x t' h=>by
   unfold ZfJ at h
   split at h
   ·cases h
   ·split at h<;>(cases h;simp)) _ _ _ ht
  simp only[List.length_nil,List.length_take] at hlen
  simp only[decide_eq_true e2,Int.toNat_natCast,cond_true]
  refine⟨⟨by omega,by omega⟩,hb,?_⟩
  simp only[ZfJ] at hR1 hR2
  by_cases h1:(ZbD (p.getD i Za)).2 < 0
  ·simp only[ZaN.fn,decide_eq_true h1,cond_true]
   have:=hR2 (by rw[if_pos h1])
   rw[Zeu] at this
   rw[Zca]
   cases hv:ZaF p with
   | true=>rfl
   | false=>rw[hv] at this;cases this
  ·simp only[ZaN.fn,decide_eq_false h1,cond_false]
   rw[if_neg h1] at hR1
   by_cases h2:(ZbD (p.getD i Za)).2=0
   ·rw[if_pos h2] at hR1
    simp only[h2,beq_self_eq_true,cond_true]
    exact⟨⟨by simp;omega,by simp;omega⟩,hf,hR1 _ rfl⟩
   ·rw[if_neg h2] at hR1
    simp only[beq_eq_false_iff_ne.2 h2,cond_false]
    exact⟨hf,hR1 _ rfl⟩
 intro raws R hraws
 rw[Zeu] at hraws
 have hv:ZaF p=false:=by
  cases h:ZaF p with
  | true=>rw[h] at hraws;cases hraws
  | false=>rfl
 rw[hv] at hraws
 simp only[Bool.false_eq_true,if_false,List.nil_append,Option.some.injEq] at hraws
 subst hraws
 simp only[Int.lt_irrefl,decide_false,cond_false]
 have hrB:=ZoL hp'
 have htd:Zac p=match (Zew (Zbu (ZbN p))).bind Zb2 with
  | none=>([],true,(0:Int))
  | some out=>if (ZbN p).any (fun c=>!Zi c)||decide (96 < (ZaU out).length) then ([],false,3) else (ZaU out,false,0):=by
  rw[Zca,hv];rfl
 generalize ZbN p=l at *
 generalize hT:Zac p=T at *
 have hlB:=Zok hrB
 refine⟨fun _ _=>trivial,Zkr hrB,hlB,?_⟩
 simp only[Zar.fn_eq,ZaR.fn]
 rcases Z9 (Zew (Zbu l)) with hpr | ⟨out,hpr⟩
 ·simp only[hpr,cond_true]
  rw[htd,hpr];rfl
 ·simp only[hpr,cond_false]
  rw[hpr] at htd
  simp only[Option.bind_some] at htd
  have hoB:=ZqH hlB hpr
  have hol:=hoB.1
  have hin:∀ i,i < out.length→condB (out.getD i Za):=fun i hi=>hoB.2 _ (Zj hi)
  clear hpr hlB hrB hp' hp
  refine Lp.iter out.length (fun i y=>y.1=(i:Int)∧(out.take i).foldlM ZdQ []=some (out.take i)∧∀ C,y.2 (ZbV (Zd9 C 1))=eqK C (out.take i)) ⟨rfl,rfl,fun C=>rfl⟩ ?_
  rintro i ⟨y,m⟩ hle ⟨hy,hf,hm⟩ R hR
  simp only at hy hm
  subst hy
  by_cases e:i < out.length
  ·have hb:=hin i e
   have hts:=Zv Za e
   have hfs:(out.take (i+1)).foldlM ZdQ []=ZdQ (out.take i) (out.getD i Za):=by
    rw[hts,List.foldlM_append,hf]
    show (ZdQ _ _).bind _=_
    cases ZdQ (out.take i) (out.getD i Za)<;>rfl
   have hvoid:ZdQ (out.take i) (out.getD i Za)=none→T=([],true,0):=fun h=>by
    have h1:out.foldlM ZdQ []=none:=by
     rw[← List.take_append_drop (i+1) out,List.foldlM_append,hfs,h];rfl
    rw[htd,Zb2,h1]
   simp only[decide_eq_true (show (i:Int) < (out.length:Int) by omega),Int.toNat_natCast,cond_true]
   refine⟨⟨by omega,by omega⟩,?_⟩
   by_cases hk:(out.getD i Za).1=1
   ·simp only[hk,bne_self_eq_false,cond_false,ZaE.fn]
    have hg:∀ b:Bool,(b=true→b=true∧True):=fun b h=>⟨h,trivial⟩
    refine⟨⟨hb.2.1,ZcF hb.2,.inl rfl⟩,hg _,hg _,fun h=>⟨h,h,trivial⟩,fun h=>h,?_⟩
    simp only[hm]
    have hstep:ZdQ (out.take i) (out.getD i Za)=match eqK (out.getD i Za).2.2.1 (out.take i) with
     | some n=>if n≠(out.getD i Za).2.2.2 then none else some (out.take i++[out.getD i Za])
     | none=>some (out.take i++[out.getD i Za]):=by
     unfold ZdQ;exact if_neg fun h=>h hk
    have hnew:∀ C,ZdA m (ZbV (Zd9 (out.getD i Za).2.2.1 1)) (out.getD i Za).2.2.2 (ZbV (Zd9 C 1))=eqK C (out.take (i+1)):=fun C=>by
     rw[hts,Zox]
     simp only[ZdA,ZkG]
     by_cases hC:C=(out.getD i Za).2.2.1
     ·rw[if_pos hC,if_pos ⟨hk,hC.symm⟩]
     ·rw[if_neg hC,if_neg (fun h=>hC h.2.symm)];exact hm C
    cases hq:eqK (out.getD i Za).2.2.1 (out.take i) with
    | none =>
      rw[hq] at hstep
      simp only[Option.isSome_none,Bool.false_and,cond_false]
      refine⟨⟨by omega,by omega⟩,hR e _ ⟨rfl,?_,hnew⟩⟩
      rw[hfs,hstep,hts]
    | some n =>
      rw[hq] at hstep
      simp only[Option.isSome_some,Option.getD_some,Bool.true_and]
      by_cases hn:n=(out.getD i Za).2.2.2
      ·simp only[hn,bne_self_eq_false,cond_false]
       refine⟨⟨by omega,by omega⟩,hR e _ ⟨rfl,?_,hnew⟩⟩
       rw[hfs,hts]
       exact hstep.trans (if_neg fun h=>h hn)
      ·simp only[bne_iff_ne.2 hn,cond_true]
       exact (hvoid (hstep.trans (if_pos hn))).symm
   ·simp only[bne_iff_ne.2 hk,cond_true]
    refine⟨⟨by omega,by omega⟩,hR e _ ⟨rfl,?_,fun C=>?_⟩⟩
    ·rw[hfs,hts];exact if_pos hk
    ·rw[hts,Zox,if_neg (fun h=>hk h.1)];exact hm C
  have hil:i=out.length:=by omega
  subst hil
  clear hR hle
  simp only[Int.lt_irrefl,decide_false,cond_false]
  rw[List.take_length] at hf hm
  have hst:Zb2 out=out.foldlM (ZdG out) []:=by rw[Zb2,hf]
  rw[hst] at htd
  refine Lp.foldO out Za (ZdG out) [] (by omega) ?_ ?_
  ·intro i o2 R e e2 hf2 ht hR1 hR2
   have hb:=hin i e
   obtain⟨hlen,_⟩:=Zf2 ht
   simp only[List.length_nil,List.length_take] at hlen
   simp only[decide_eq_true e2,Int.toNat_natCast,cond_true]
   refine⟨⟨by omega,by omega⟩,?_⟩
   have hvoid:ZdG out o2 (out.getD i Za)=none→T=([],true,0):=fun h=>by
    rw[htd,hR2 h]
   clear hR2
   by_cases hk:(out.getD i Za).1=0
   ·simp only[hk,beq_self_eq_true,cond_true,ZaE.fn]
    refine⟨⟨hb.2.1,ZcF hb.2,.inl rfl⟩,?_⟩
    simp only[Zn5.2 (rfl:Zb5 (out.getD i Za).2.2.1=_),hm]
    have hstep:ZdG out o2 (out.getD i Za)=match eqK (out.getD i Za).2.2.1 out with
     | some n=>if (out.getD i Za).2.2.2 < n then none else some o2
     | none=>match eqK (Zb5 (out.getD i Za).2.2.1) out with
       | some n=>if (out.getD i Za).2.2.2+n < 0 then none else some o2
       | none=>some (o2++[out.getD i Za]):=by
     unfold ZdG;exact if_neg fun h=>h hk
    cases hq:eqK (out.getD i Za).2.2.1 out with
    | some n =>
      rw[hq] at hstep
      simp only[Option.isSome_some,Option.getD_some,cond_true] at hstep ⊢
      by_cases hn:(out.getD i Za).2.2.2 < n
      ·simp only[decide_eq_true hn,cond_true]
       exact (hvoid (by rw[hstep,if_pos hn])).symm
      ·simp only[decide_eq_false hn,cond_false]
       exact⟨hf2,hR1 _ (by rw[hstep,if_neg hn])⟩
    | none =>
      rw[hq] at hstep
      simp only[Option.isSome_none,cond_false] at hstep ⊢
      refine⟨⟨hb.2.1,ZcF hb.2,.inr rfl⟩,?_⟩
      cases hq2:eqK (Zb5 (out.getD i Za).2.2.1) out with
      | some n =>
        rw[hq2] at hstep
        obtain⟨d,hd,_,_,hd3⟩:=ZsG hq2
        have q1:=(hoB.2 d hd).2.2.2
        have q2:=hb.2.2.2
        rw[hd3] at q1
        unfold Zfb at q1 q2
        simp only[Option.isSome_some,Option.getD_some,cond_true] at hstep ⊢
        refine⟨⟨by omega,by omega⟩,?_⟩
        by_cases hn:(out.getD i Za).2.2.2+n < 0
        ·simp only[decide_eq_true hn,cond_true]
         exact (hvoid (by rw[hstep,if_pos hn])).symm
        ·simp only[decide_eq_false hn,cond_false]
         exact⟨hf2,hR1 _ (by rw[hstep,if_neg hn])⟩
      | none =>
        rw[hq2] at hstep
        simp only[Option.isSome_none,cond_false] at hstep ⊢
        exact⟨⟨by simp;omega,by simp;omega⟩,hf2,hR1 _ hstep⟩
   ·simp only[beq_eq_false_iff_ne.2 hk,cond_false]
    exact⟨⟨by simp;omega,by simp;omega⟩,hf2,hR1 _ (if_pos hk)⟩
  intro res R hres
  simp only[Int.lt_irrefl,decide_false,cond_false]
  rw[hres] at htd
  simp only at htd
  obtain⟨hrl,hrm⟩:=Zf2 hres
  simp only[List.length_nil,Nat.zero_add] at hrl
  have hk3:K3 res:=fun d hd=>((hrm d hd).elim (by simp) fun h=>(hoB.2 d h).k3)
  clear hres hst hm hf hin hrm
  refine⟨⟨by omega,fun a ha b hb=>⟨hk3 a ha,hk3 b hb⟩⟩,fun b8 hb8=>?_⟩
  obtain⟨hperm,hsort⟩:=hb8
  have hcf:=ZtG hk3 hperm hsort
  have hbl:b8.length≤1048576:=by have:=hperm.length_eq;omega
  have hb3:∀ i,i < b8.length→Zgh (b8.getD i Za).1:=fun i hi=>hk3 _ (hperm.mem_iff.2 (Zj hi))
  rw[← hcf] at htd
  clear hcf hperm hsort hrl hk3
  have hfin:∀ (b:Bool) (r:List Zc),b=(l.any fun c=>!Zi c)→r=Zfw b8→(cond (b||decide ((96:Int) < (r.length:Int))) ((([]:List Zc),false,(3:Int))=T) ((r,false,(0:Int))=T)):=by
   rintro b r rfl rfl
   rw[htd]
   have e:decide ((96:Int) < ((Zfw b8).length:Int))=decide (96 < (Zfw b8).length):=decide_eq_decide.2 (by omega)
   rw[e]
   cases h:((l.any fun c=>!Zi c)||decide (96 < (Zfw b8).length))<;>rfl
  have hg:∀ b:Bool,(b=true→b=true∧True):=fun b h=>⟨h,trivial⟩
  have hg2:∀ b:Bool,(b=false→(!b)=true):=fun b h=>by rw[h];rfl
  by_cases hs:b8.length < 2
  ·simp only[decide_eq_true (show ((b8.length:Nat):Int) < 2 by omega),cond_true]
   refine⟨hg _,hg _,hg2 _,hfin _ _ rfl ?_⟩
   match b8,hs with
   | [],_=>rfl
   | [x],_=>rfl
  simp only[decide_eq_false (show ¬ ((b8.length:Nat):Int) < 2 by omega),cond_false]
  refine Lp.iter (b8.length - 1) (fun i y=>y=(i:Int)+1∧Zfw (b8.take (i+1))=b8.take (i+1)) ⟨rfl,?_⟩ ?_
  ·match b8,hs with
   | x::b,_=>rfl
   | [],h=>exact absurd (by simp) h
  rintro i y hle ⟨rfl,hc⟩ R hR
  by_cases e:i+1 < b8.length
  ·have t1:((i:Int)+1).toNat=i+1:=by omega
   have t2:((i:Int)+1 - 1).toNat=i:=by omega
   simp only[decide_eq_true (show (i:Int)+1 < (b8.length:Int) by omega),cond_true,t1,t2]
   have k1:=hb3 (i+1) e
   have k2:=hb3 i (by omega)
   have hcs:=ZjD e
   refine⟨⟨by omega,by omega⟩,by omega,⟨by omega,by omega⟩,⟨by omega,by omega⟩,by omega,⟨k1,k2⟩,?_⟩
   by_cases heq:b8.getD (i+1) Za=b8.getD i Za
   ·have:(Zhr (b8.getD (i+1) Za) (b8.getD i Za) == 0)=true:=by rw[heq,Zgj];rfl
    simp only[Zao.fn,this,cond_true]
    rw[if_pos heq] at hcs
    refine⟨⟨by omega,by omega⟩,?_⟩
    clear hR
    refine Lp.iter (b8.length - (i+1) - 1) (fun k y=>y.1=(k:Int)+1∧∃ n:Nat,y.2.1=(n:Int)∧n≤i+1+k∧y.2.2.length=b8.length∧Zfw (b8.take (i+1+k+1))=y.2.2.take n∧∀ j,i+1+k≤j→y.2.2.getD j Za=b8.getD j Za) ⟨rfl,i+1,rfl,by omega,rfl,by rw[← hc,← hcs],fun j _=>rfl⟩ ?_
    rintro k ⟨y1,y2,a⟩ hle2 ⟨hy1,n,hy2,hn,hal,hca,hget⟩ R2 hR2
    simp only at hy1 hy2 hal hca hget
    subst hy1 hy2
    by_cases e2:i+1+k+1 < b8.length
    ·have t3:((k:Int)+1).toNat=k+1:=by omega
     have t4:((k:Int)+1 - 1).toNat=k:=by omega
     simp only[decide_eq_true (show (k:Int)+1 < ((b8.length - (i+1):Nat):Int) by omega),cond_true,t3,t4,Int.toNat_natCast,Nat.zero_add]
     have g1:a.getD (i+1+(k+1)) Za=b8.getD (i+1+k+1) Za:=hget _ (by omega)
     have g2:a.getD (i+1+k) Za=b8.getD (i+1+k) Za:=hget _ (by omega)
     simp only[g1,g2]
     have k3:=hb3 (i+1+k+1) e2
     have k4:=hb3 (i+1+k) (by omega)
     have hcs2:=ZjD e2
     refine⟨⟨by omega,by omega,by omega⟩,by omega,⟨by omega,by omega⟩,⟨by omega,by omega,by omega⟩,by omega,⟨k3,k4⟩,?_⟩
     by_cases heq2:b8.getD (i+1+k+1) Za=b8.getD (i+1+k) Za
     ·have:(Zhr (b8.getD (i+1+k+1) Za) (b8.getD (i+1+k) Za) == 0)=true:=by rw[heq2,Zgj];rfl
      simp only[Zao.fn,this,Bool.not_true,cond_false]
      rw[if_pos heq2] at hcs2
      refine⟨⟨by omega,by omega⟩,hR2 (by omega) _ ⟨by simp,n,rfl,by omega,hal,?_,fun j hj=>hget j (by omega)⟩⟩
      rw[show i+1+(k+1)+1=i+1+k+2 by omega,hcs2,hca]
     ·have:(Zhr (b8.getD (i+1+k+1) Za) (b8.getD (i+1+k) Za) == 0)=false:=beq_eq_false_iff_ne.2 fun h=>heq2 (Zlh k3 k4 h)
      simp only[Zao.fn,this,Bool.not_false,cond_true]
      rw[if_neg heq2] at hcs2
      refine⟨⟨by omega,by omega,by omega⟩,by omega,⟨by omega,by omega⟩,by omega,⟨by omega,by omega⟩,⟨by omega,by omega⟩,hR2 (by omega) _ ⟨by simp,n+1,by simp,by omega,by simp[hal],?_,fun j hj=>?_⟩⟩
      ·rw[show i+1+(k+1)+1=i+1+k+2 by omega,hcs2,hca]
       simp only
       rw[List.take_set,List.take_add_one,List.set_append_right _ _ (by simp;omega)]
       have hnn:n - (a.take n).length=0:=by simp;omega
       rw[hnn,List.getElem?_eq_getElem (show n < a.length by omega)]
       rfl
      ·simp only
       rw[List.getD_eq_getElem?_getD,List.getElem?_set_ne (by omega),← List.getD_eq_getElem?_getD]
       exact hget j (by omega)
    ·have hk:i+1+k+1=b8.length:=by omega
     simp only[decide_eq_false (show ¬ (k:Int)+1 < ((b8.length - (i+1):Nat):Int) by omega),cond_false,Int.toNat_natCast,Nat.zero_add]
     rw[hk,List.take_length] at hca
     have hdr:List.drop (n+(a.length - n)) a=[]:=List.drop_eq_nil_of_le (by omega)
     simp only[hdr,List.append_nil,List.drop_zero]
     have htk:List.take n (a.take n++List.replicate (a.length - n) Za)=a.take n:=by
      rw[List.take_append_of_le_length (by simp;omega),List.take_take,Nat.min_self]
     have hln:(a.take n++List.replicate (a.length - n) Za).length=a.length:=by simp;omega
     simp only[htk,hln]
     exact⟨⟨by omega,by omega⟩,by omega,⟨by omega,by omega⟩,by omega,hg _,hg _,hg2 _,hfin _ _ rfl hca.symm⟩
   ·have:(Zhr (b8.getD (i+1) Za) (b8.getD i Za) == 0)=false:=beq_eq_false_iff_ne.2 fun h=>heq (Zlh k1 k2 h)
    simp only[Zao.fn,this,cond_false]
    rw[if_neg heq] at hcs
    refine⟨⟨by omega,by omega⟩,hR (by omega) _ ⟨by omega,?_⟩⟩
    rw[hcs,hc,Zv Za e]
  ·have hi:i+1=b8.length:=by omega
   simp only[decide_eq_false (show ¬ (i:Int)+1 < (b8.length:Int) by omega),cond_false]
   rw[hi,List.take_length] at hc
   exact⟨hg _,hg _,hg2 _,hfin _ _ rfl hc.symm⟩
def Zaa(out:List (List Zc))(p:List Zc):Option (List (List Zc)) :=
 if (Zac p).2.2≠0 then none else if (Zac p).2.1=true∨(Zac p).1∈out then some out else if 400 < out.length+1 then none else some (out++[(Zac p).1])
def ZfG(l:List (List Zc)):Option (List (List Zc)):=l.foldlM Zaa []
def ZgW(n:Int)(o:Option (List (List Zc))):ZbK×Int:=match o with
 | none=>((0,[]),3)
 | some out=>((n,out),0)
def Zaz(x:ZbK):ZbK×Int:=if Zl x=false then ((0,[]),1) else ZgW x.1 (ZfG x.2)
abbrev Zag.fn(x:ZbK×Unit):ZbK×Int:=Zaz x.1
def Zg2(p:List Zc):Prop:=p.length≤4096∧∀ c∈p,Zi c=true
def Zfx:List Int→List Int→Int
 | x::a,y::b=>x*y+Zfx a b
 | _,_=>0
def Zgu(c:Zc)(v:Int):Bool:=if c.1=0 then decide (0≤v) else if c.1=1 then v == 0 else v.tmod c.2.1 == 0
def Zag.wp(x0:Int×(List (List Zc)))(Q:(Int×(List (List Zc)))×Int→Prop):Prop:=cond (!(ZaB.fn (x0,()))) (Q (((0:Int),([]:List (List (Zc)))),(1:Int))) (Lp (σ:=Int×(List (List (Zc)))×(ByteArray→Option Bool)) (fun y2 R2=>let v0:=List.getD x0.2 (Int.toNat y2.1) ([]:List (Zc));let v1:=Zp.fn ((Zb.fn (v0,())).1,());let v3:=[(Zb.fn (v0,())).1];cond (decide (y2.1 < ((List.length x0.2:Nat):Int))) (((0:Int)≤y2.1∧y2.1 < ((List.length x0.2:Nat):Int))∧(Zb.pre (v0,())∧cond (((Zb.fn (v0,())).2).2 != (0:Int)) (cond (((Zb.fn (v0,())).2).2 != (0:Int)) (Q (((0:Int),([]:List (List (Zc)))),((Zb.fn (v0,())).2).2)) (Q ((x0.1,([]:List (List (Zc)))),(0:Int)))) (((!(((Zb.fn (v0,())).2).1))=true→((!(((Zb.fn (v0,())).2).1))=true∧Zp.pre ((Zb.fn (v0,())).1,())))∧(((!(((Zb.fn (v0,())).2).1))=true→((!(((Zb.fn (v0,())).2).1))=true∧((!(((Zb.fn (v0,())).2).1))=true∧True)))∧((((Zb.fn (v0,())).2).1=false→(!(((Zb.fn (v0,())).2).1))=true)∧cond (((Zb.fn (v0,())).2).1||(Option.getD (y2.2.2 v1) false)) (Zo IntKind.i64 (y2.1+(1:Int))∧R2 ((y2.1+(1:Int)),y2.2)) (Zp.pre ((Zb.fn (v0,())).1,())∧((((List.length y2.2.1+List.length v3)*24)≤140737488355328∧(List.length y2.2.1+List.length v3)≤9223372036854775807)∧cond (decide ((400:Int) < (((List.length (y2.2.1++v3)):Nat):Int))) (Q (((0:Int),([]:List (List (Zc)))),(3:Int))) (Zo IntKind.i64 (y2.1+(1:Int))∧R2 ((y2.1+(1:Int)),((y2.2.1++v3),ZdA y2.2.2 v1 true)))))))))) (Q ((x0.1,y2.2.1),(0:Int)))) ((0:Int),(([]:List (List (Zc))),fun (a2:ByteArray)=>(none:Option Bool))))
theorem ZrQ{P:Zc→Prop}(hmin:∀ d c,P d→P c→P (Zhh d c.2.2.2))(heq:∀ c,c.1=0→P c→P (ZbD (1,0,c.2.2)).1){p:List Zc}(hb:ZaD p)(h:∀ d∈ZbN p,P d):∀ d∈(Zac p).1,P d:=by
 rw[Zca]
 split
 ·simp
 ·rcases Z9 ((Zew (Zbu (ZbN p))).bind Zb2) with ho | ⟨out,ho⟩
  ·rw[ho];simp
  ·rw[ho]
   simp only
   split
   ·simp
   ·obtain⟨o1,h1,h2⟩:=Option.bind_eq_some_iff.1 ho
    have k3:K3 out:=by
     have:=ZrO (ZqH (Zok (ZoL hb)) h1) h2
     exact fun c hc=>(this.2 c hc).k3
    intro d hd
    rw[ZcL k3] at hd
    exact ZlN (ZmV heq (Zhz hmin h) h1) h2 d hd
theorem Zms(p:List Zc):(Zac p).2.2=0∨((Zac p).2.2=3∧(Zac p).2.1=false):=by
 rw[Zca]
 split
 ·exact .inl rfl
 ·split
  ·exact .inl rfl
  ·split
   ·exact .inr ⟨rfl,rfl⟩
   ·exact .inl rfl
theorem ZiL(p:List Zc):(Zac p).1.length≤96:=by
 rw[Zca]
 split
 ·simp
 ·split
  ·simp
  ·split
   ·simp
   ·rename_i h
    simp only[Bool.or_eq_true,decide_eq_true_eq,not_or] at h
    simp only;omega
theorem ZrT{n:Int}:Fit n=true↔-1048576≤n∧n≤1048576:=by simp[Fit]
theorem Znv{k m K K':Int}{C:List Int}(h:Zi (k,m,C,K)=true)(hK:Fit K'=true):Zi (k,m,C,K')=true:=by
 have key:Zaj (C,K)=true→Zaj (C,K')=true:=by
  intro h
  simp only[Zaj,Bool.and_eq_true] at h ⊢
  exact⟨h.1,h.2.1,hK⟩
 simp only[Zi] at *
 split at h
 ·rename_i h0;rw[if_pos h0];simp only[Bool.and_eq_true] at h ⊢;exact⟨h.1,key h.2⟩
 ·rename_i h0
  rw[if_neg h0]
  split at h
  ·rename_i h1;rw[if_pos h1];simp only[Bool.and_eq_true] at h ⊢;exact⟨h.1,key h.2⟩
  ·cases h
theorem Zp1{d c:Zc}(hd:Zi d=true)(hc:Zi c=true):Zi (Zhh d c.2.2.2)=true:=by
 have h1:=(Zaj.b (Zi.lin hc)).2.2
 have h2:=(Zaj.b (Zi.lin hd)).2.2
 exact Znv hd (ZrT.2 (by omega))
theorem Znr:Zi Za=true:=by decide
theorem ZnN{C:List Int}{K:Int}(h1:C.length≤12)(h2:∀ n∈C,Fit n=true)(h3:Fit K=true):Zaj (C,K)=true:=by
 simp only[Zaj,Bool.and_eq_true,List.all_eq_true,decide_eq_true_eq]
 exact⟨h2,by omega,h3⟩
theorem Ztl{C:List Int}{K:Int}(h:Zaj (C,K)=true):Zi (1,0,C,K)=true:=by simp[Zi,h]
theorem Zre{c:Zc}(h:Zaj c.2.2=true):Zi (ZbD (1,0,c.2.2)).1=true:=by
 simp only[ZbD,show (1:Int)≠0 by decide,if_true,if_false]
 unfold eqF
 split
 ·unfold ZcI;exact Znr
 ·obtain⟨h1,h2,h3⟩:=Zaj.b h
  have key:∀ n g:Int,(-1048576≤n∧n≤1048576)→Fit (n.tdiv g)=true:=fun n g hn=>by
   have:=ZcE n g
   rw[ZrT];omega
  refine Ztl (ZnN (by simpa using h1) (fun n hn=>?_) (key _ _ h3))
  obtain⟨m,hm,rfl⟩:=List.mem_map.1 hn
  exact key _ _ (h2 m hm)
theorem Zqj{p:List Zc}(h:(ZbN p).any (fun c=>!Zi c)=true):(Zac p).1=[]:=by
 rw[Zca]
 split
 ·rfl
 ·rcases Z9 ((Zew (Zbu (ZbN p))).bind Zb2) with ho | ⟨out,ho⟩
  ·rw[ho]
  ·rw[ho]
   simp only[h,Bool.true_or,if_true]
theorem ZiI{p:List Zc}(hb:ZaD p):∀ d∈(Zac p).1,Zi d=true:=by
 by_cases h:(ZbN p).any (fun c=>!Zi c)=true
 ·rw[Zqj h];simp
 ·refine ZrQ (P:=fun d=>Zi d=true) (fun d c=>Zp1) (fun c _ hc=>Zre (Zi.lin hc)) hb fun d hd=>?_
  cases hc:Zi d with
  | true=>rfl
  | false=>exact absurd (List.any_eq_true.2 ⟨d,hd,by rw[hc];rfl⟩) h
theorem Zoh{p:List Zc}(hb:ZaD p):Zg2 (Zac p).1:=⟨by have:=ZiL p;omega,ZiI hb⟩
theorem Zg2.B{p:List Zc}(h:Zg2 p):ZaD p:=⟨by have:=h.1;omega,fun c hc=>Zi.condB (h.2 c hc)⟩
theorem Zg2.name{p:List Zc}(h:Zg2 p):nameOk p:=by
 refine⟨by have:=h.1;omega,fun c hc=>?_⟩
 have hv:=h.2 c hc
 obtain⟨h1,h2,h3⟩:=Zaj.b (Zi.lin hv)
 refine⟨by omega,fun n hn=>by have:=h2 n hn;omega,fun n hn=>?_⟩
 have hk:=Zi.kind hv
 simp only[List.mem_cons,List.not_mem_nil,or_false] at hn
 rcases hn with rfl | rfl | rfl
 ·omega
 ·omega
 ·omega
theorem Zc7{α τ:Type}{f:τ→α→Option τ}{l:List α}{d:α}{i:Nat}{a t:τ}(h:(l.take i).foldlM f a=some t)(hi:i < l.length):(l.take (i+1)).foldlM f a=f t (l.getD i d):=by
 rw[Zv d hi,List.foldlM_append,h]
 show (f _ _).bind _=_
 cases f t (l.getD i d)<;>rfl
theorem ZiK{α τ:Type}{f:τ→α→Option τ}{l:List α}{d:α}{i:Nat}{a t:τ}(h:(l.take i).foldlM f a=some t)(hi:i < l.length)(hn:f t (l.getD i d)=none):l.foldlM f a=none:=by
 rw[← List.take_append_drop (i+1) l,List.foldlM_append,Zc7 (d:=d) h hi,hn]
 rfl
def Zfe(out:List (List Zc))(m:ByteArray→Option Bool):Prop:=∀ q,m (ZbV (Zcs q))=if q∈out then some true else none
theorem Zfe.nil:Zfe [] fun _=>none:=fun q=>by simp
theorem Zfe.put{out:List (List Zc)}{m:ByteArray→Option Bool}(h:Zfe out m)(p:List Zc):Zfe (out++[p]) (ZdA m (ZbV (Zcs p)) true):=by
 intro q
 simp only[ZdA,Zoc,List.mem_append,List.mem_singleton]
 by_cases e:q=p
 ·rw[if_pos e,if_pos (.inr e)]
 ·rw[if_neg e,h q]
  by_cases e2:q∈out
  ·rw[if_pos e2,if_pos (.inl e2)]
  ·rw[if_neg e2,if_neg (fun h=>h.elim e2 e)]
theorem Ze0 {p : List Zc} {out : List (List Zc)} {m : ByteArray → Option Bool} {EA K1 EB K2 : Prop} (hp : ZaD p) (hk : Zfe out m) (hl : out.length ≤ 400)
 (hA:(Zac p).2.2=3→Zaa out p=none→EA) (h1:Zaa out p=some out→K1) (hB:Zaa out p=none→EB) (h2:Zaa out p=some (out++[(Zac p).1])→K2) :
 (Zb.pre (p,())∧cond (((Zb.fn (p,())).2).2 != (0:Int)) EA (((!(((Zb.fn (p,())).2).1))=true→((!(((Zb.fn (p,())).2).1))=true∧Zp.pre ((Zb.fn (p,())).1,())))∧(((!(((Zb.fn (p,())).2).1))=true→((!(((Zb.fn (p,())).2).1))=true∧((!(((Zb.fn (p,())).2).1))=true∧True)))∧((((Zb.fn (p,())).2).1=false→(!(((Zb.fn (p,())).2).1))=true)∧cond (((Zb.fn (p,())).2).1||(Option.getD (m (Zp.fn ((Zb.fn (p,())).1,()))) false)) K1 (Zp.pre ((Zb.fn (p,())).1,())∧((((List.length out+List.length [(Zb.fn (p,())).1])*24)≤140737488355328∧(List.length out+List.length [(Zb.fn (p,())).1])≤9223372036854775807)∧cond (decide ((400:Int) < (((List.length (out++[(Zb.fn (p,())).1])):Nat):Int))) EB K2)))))):=by
 have hn:Zp.pre ((Zac p).1,()):=(Zoh hp).name
 refine⟨hp,?_⟩
 simp only[Zb.fn,Zp.fn]
 by_cases he:(Zac p).2.2=0
 ·simp only[he,bne_self_eq_false,cond_false]
  have hs:Zaa out p=if (Zac p).2.1=true∨(Zac p).1∈out then some out else if 400 < out.length+1 then none else some (out++[(Zac p).1]):=by
   unfold Zaa;exact if_neg (fun h=>h he)
  refine⟨fun h=>⟨h,hn⟩,fun h=>⟨h,h,trivial⟩,fun h=>by rw[h];rfl,?_⟩
  have hb:((Zac p).2.1||(m (ZbV (Zcs (Zac p).1))).getD false)=decide ((Zac p).2.1=true∨(Zac p).1∈out):=by
   rw[hk]
   by_cases e:(Zac p).1∈out
   ·rw[if_pos e];simp[e]
   ·rw[if_neg e];simp[e]
  rw[hb]
  by_cases e:(Zac p).2.1=true∨(Zac p).1∈out
  ·rw[decide_eq_true e]
   exact h1 (hs.trans (if_pos e))
  ·rw[decide_eq_false e]
   rw[if_neg e] at hs
   refine⟨hn,⟨by simp;omega,by simp;omega⟩,?_⟩
   by_cases e2:400 < out.length+1
   ·rw[decide_eq_true (show (400:Int) < ((out++[(Zac p).1]).length:Int) by simp;omega)]
    exact hB (hs.trans (if_pos e2))
   ·rw[decide_eq_false (show ¬ (400:Int) < ((out++[(Zac p).1]).length:Int) by simp;omega)]
    exact h2 (hs.trans (if_neg e2))
 ·rw[bne_iff_ne.2 he]
  exact hA (((Zms p).resolve_left he).1) (if_pos he)
theorem ZiF{out out':List (List Zc)}{p:List Zc}(h:Zaa out p=some out')(hl:out.length≤400):out'.length≤400:=by
 unfold Zaa at h
 split at h
 ·cases h
 ·split at h
  ·cases h;exact hl
  ·split at h
   ·cases h
   ·cases h;simp;omega
theorem Zo6:∀ {l:List (List Zc)} {out out':List (List Zc)},l.foldlM Zaa out=some out'→out.length≤400→out'.length≤400
 | [],out,out',h,hl=>by cases h;exact hl
 | p::l,out,out',h,hl=>by
   simp only[List.foldlM_cons,Option.bind_eq_bind,Option.bind_eq_some_iff] at h
   obtain⟨s,h1,h2⟩:=h
   exact Zo6 h2 (ZiF h1 hl)
theorem Lp.tid {body : Int × List (List Zc) × (ByteArray → Option Bool) → (Int × List (List Zc) × (ByteArray → Option Bool) → Prop) → Prop} (l a : List (List Zc)) (m0 : ByteArray → Option Bool) (ha : Zfe a m0) (hal : a.length ≤ 400) (hl : l.length ≤ 1048576 * 4)
 (h:∀ (i:Nat) out m R,i < l.length→(i:Int) < (l.length:Int)→Zo .i64 ((i:Int)+1)→Zfe out m→out.length≤400→(Zaa out (l.getD i [])=some out→R ((i:Int)+1,out,m)) →
  (Zaa out (l.getD i [])=some (out++[(Zac (l.getD i [])).1])→R ((i:Int)+1,out++[(Zac (l.getD i [])).1],ZdA m (ZbV (Zcs (Zac (l.getD i [])).1)) true)) →
  (Zaa out (l.getD i [])=none→l.foldlM Zaa a=none)→body ((i:Int),out,m) R)
 (h2:∀ out m R,l.foldlM Zaa a=some out→Zfe out m→out.length≤400→body ((l.length:Int),out,m) R):Lp body (0,a,m0):=by
 refine Lp.iter l.length (fun i y=>y.1=(i:Int)∧(l.take i).foldlM Zaa a=some y.2.1∧Zfe y.2.1 y.2.2) ⟨rfl,rfl,ha⟩ ?_
 rintro i ⟨y,out,m⟩ hle ⟨hy,ht,hm⟩ R hR
 simp only at hy ht hm
 subst hy
 have hlen:=Zo6 ht hal
 by_cases e:i < l.length
 ·refine h i out m R e (by omega) ⟨by omega,by omega⟩ hm hlen (fun hs=>hR e _ ⟨rfl,?_,hm⟩) (fun hs=>hR e _ ⟨rfl,?_,hm.put _⟩) (fun hn=>ZiK ht e hn)
  ·rw[Zc7 (d:=[]) ht e,hs]
  ·rw[Zc7 (d:=[]) ht e,hs]
 ·have:i=l.length:=by omega
  subst this
  rw[List.take_length] at ht
  exact h2 out m R ht hm hlen
theorem Zl.b{s:ZbK}(h:Zl s=true):0≤s.1∧s.1≤12∧s.2.length≤400∧∀ p∈s.2,p.length≤96∧(∀ c∈p,Zi c=true∧(c.2.2.1.length:Int)=s.1):=by
 simp only[Zl,Bool.and_eq_true,decide_eq_true_eq,List.all_eq_true,Zlj,beq_iff_eq] at h
 obtain⟨⟨⟨h1,h2⟩,h3⟩,h4⟩:=h
 refine⟨h1,h2,by omega,fun p hp=>?_⟩
 obtain⟨h5,h6⟩:=h4 p hp
 exact⟨by omega,h6⟩
theorem Zl.piece{s:ZbK}(h:Zl s=true){p:List Zc}(hp:p∈s.2):p.length≤96∧∀ c∈p,Zi c=true:=by
 obtain⟨h1,h2⟩:=(Zl.b h).2.2.2 p hp
 exact⟨h1,fun c hc=>(h2 c hc).1⟩
theorem Zl.B{s:ZbK}(h:Zl s=true){p:List Zc}(hp:p∈s.2):ZaD p:=by
 obtain⟨h1,h2⟩:=Zl.piece h hp
 exact⟨by omega,fun c hc=>Zi.condB (h2 c hc)⟩
theorem Zag.spec(x:ZbK):Zag.wp x (fun r=>r=Zag.fn (x,())):=by
 have hfn:Zag.fn (x,())=Zaz x:=rfl
 simp only[Zag.wp,ZaB.fn,hfn]
 cases hv:Zl x with
 | false=>simp[Zaz,hv]
 | true =>
   have hn:Zaz x=ZgW x.1 (x.2.foldlM Zaa []):=by simp[Zaz,hv,ZfG]
   simp only[Bool.not_true,cond_false,hn]
   refine Lp.tid x.2 [] _ Zfe.nil (by simp) (by have:=(Zl.b hv).2.2.1;omega) ?_ ?_
   ·intro i out m R e e2 hf hk hl h1 h2 h3
    simp only[decide_eq_true e2,Int.toNat_natCast,cond_true]
    refine⟨⟨by omega,by omega⟩,Ze0 (Zl.B hv (Zj e)) hk hl (fun h4 hn=>?_) (fun hs=>⟨hf,h1 hs⟩) (fun hn=>?_) (fun hs=>⟨hf,h2 hs⟩)⟩
    ·simp only[Zb.fn,h4,show ((3:Int) != 0)=true from rfl,cond_true]
     rw[h3 hn];rfl
    ·rw[h3 hn];rfl
   ·intro out m R ht hk hl
    simp only[Int.lt_irrefl,decide_false,cond_false]
    rw[ht];rfl
theorem ZpN{n i:Nat}(h:i < n):(List.range n).getD i 0=i:=by
 rw[ZD (by simpa using h)];simp
def PP(l:List (List Zc)):Prop:=l.length≤400∧∀ p∈l,p.length≤96∧∀ c∈p,Zi c=true
theorem PP.v{l:List (List Zc)}(h:PP l){p:List Zc}(hp:p∈l):Zg2 p:=⟨by have:=(h.2 p hp).1;omega,(h.2 p hp).2⟩
theorem PP.nil:PP []:=⟨by simp,by simp⟩
theorem Zpw{out out':List (List Zc)}{p:List Zc}(h:Zaa out p=some out')(hl:PP out)(hp:ZaD p):PP out':=by
 refine⟨ZiF h hl.1,?_⟩
 unfold Zaa at h
 split at h
 ·cases h
 ·split at h
  ·cases h;exact hl.2
  ·split at h
   ·cases h
   ·cases h
    intro q hq
    rcases List.mem_append.1 hq with hq | hq
    ·exact hl.2 q hq
    ·simp only[List.mem_singleton] at hq;subst hq
     exact⟨ZiL p,ZiI hp⟩
theorem Znl:∀ {l:List (List Zc)} {out out':List (List Zc)},l.foldlM Zaa out=some out'→PP out→(∀ p∈l,ZaD p)→PP out'
 | [],out,out',h,hl,_=>by cases h;exact hl
 | p::l,out,out',h,hl,hb=>by
   simp only[List.foldlM_cons,Option.bind_eq_bind,Option.bind_eq_some_iff] at h
   obtain⟨s,h1,h2⟩:=h
   exact Znl h2 (Zpw h1 hl (hb p (by simp))) fun q hq=>hb q (by simp[hq])
theorem Zty{x:ZbK}(h:(Zaz x).2=0):PP (Zaz x).1.2∧(Zaz x).1.1=x.1:=by
 unfold Zaz at h ⊢
 split at h
 ·cases h
 ·rename_i hv
  rw[if_neg hv]
  rw[Bool.not_eq_false] at hv
  unfold ZgW at h ⊢
  rcases Z9 (ZfG x.2) with ho | ⟨out,ho⟩
  ·rw[ho] at h;cases h
  ·rw[ho]
   exact⟨Znl ho PP.nil fun p hp=>Zl.B hv hp,rfl⟩
theorem Zdf{n m x y:Int}(hn:0≤n)(hm:0≤m)(h1:-n≤x)(h2:x≤n)(h3:-m≤y)(h4:y≤m):-(n*m)≤x*y∧x*y≤n*m:=by
 have h:(x*y).natAbs≤n.natAbs*m.natAbs:=by rw[Int.natAbs_mul];exact Nat.mul_le_mul (by omega) (by omega)
 have e:n*m=((n.natAbs*m.natAbs:Nat):Int):=by rw[Int.natCast_mul,Int.natAbs_of_nonneg hn,Int.natAbs_of_nonneg hm]
 rw[e];omega
def Zek(p:List Zc)(n:Nat):Prop:=∀ c∈p,c.2.2.1.length=n
def ZwH(l:Lin)(n k:Int):Lin:=(l.1.map (·.tdiv n),k)
abbrev Z4.fn(x:Lin×Int×Int×Unit):Lin:=ZwH x.1 x.2.1 x.2.2.1
abbrev Z4.pre(x:Lin×Int×Int×Unit):Prop:=x.2.1≠0∧x.1.1.length≤1048576∧ZcO x.1.1
abbrev ZO.fn(x:Zc×Unit):Zc×Int:=ZbD x.1
abbrev ZO.pre(x:Zc×Unit):Prop:=condB x.1
def Zbp(a b:Zc):Int:=if a.2.2.1=b.2.2.1 then 1 else if a.2.2.1=Zb5 b.2.2.1 then -1 else 0
abbrev ZP.fn(x:Zc×Zc×Unit):Int:=Zbp x.1 x.2.1
abbrev ZP.pre(x:Zc×Zc×Unit):Prop:=x.1.2.2.1.length=x.2.1.2.2.1.length∧x.1.2.2.1.length≤1048576∧ZcO x.2.1.2.2.1
abbrev Z7.fn(x:List Int×List Int×Unit):Int:=ZcX x.1 x.2.1
abbrev Z7.pre(x:List Int×List Int×Unit):Prop:=x.1.length=x.2.1.length
abbrev ZaV.fn(x:Int×Unit):Int:=Zce x.1
abbrev Za3.fn(x:Lin×Lin×Unit):Int:=ZcX (x.1.1++[x.1.2]) (x.2.1.1++[x.2.1.2])
abbrev Za3.pre(x:Lin×Lin×Unit):Prop:=x.1.1.length=x.2.1.1.length∧x.1.1.length≤1048576
abbrev ZaW.fn(x:Zc×Zc×Unit):Int:=Zhr x.1 x.2.1
abbrev ZaW.pre(x:Zc×Zc×Unit):Prop:=x.1.2.2.1.length=x.2.1.2.2.1.length∧x.1.2.2.1.length≤1048576
abbrev Z3.fn(x:List Zc×Unit):List Zc:=ZaU x.1
abbrev Z3.pre(x:List Zc×Unit):Prop:=x.1.length≤2199023255552∧∃ n,n≤1048576∧Zek x.1 n
def Zol(p:List Zc):Prop:=ZaD p∧∃ n,Zek p n
abbrev Zak.fn(x:List Zc×Unit):List Zc×Bool×Int:=Zac x.1
abbrev Zak.pre(x:List Zc×Unit):Prop:=Zol x.1
abbrev ZaP.fn(x:List (List Zc)×List Zc×Unit):Bool:=decide (x.2.1∈x.1)
def Zb6(out:List (List Zc))(p:List Zc):Option (List (List Zc)) :=
 if (Zac p).2.2≠0 then none else if (Zac p).2.1=true∨(Zac p).1∈out then some out else some (out++[(Zac p).1])
def Zfq(l:List (List Zc)):List (List Zc)×Int:=match l.foldlM Zb6 [] with
 | none=>([],3)
 | some out=>(out,0)
abbrev ZN.fn(x:List (List Zc)×Unit):List (List Zc)×Int:=Zfq x.1
abbrev ZN.pre(x:List (List Zc)×Unit):Prop:=x.1.length≤1099511627776∧∀ p∈x.1,Zol p
abbrev Zaq.fn(x:Int×List (List Zc)×Unit):ZbK×Int:=ZgW x.1 (ZfG x.2.1)
abbrev Zaq.pre(x:Int×List (List Zc)×Unit):Prop:=x.2.1.length≤1099511627776∧∀ p∈x.2.1,Zol p
abbrev Zax.fn(x:ZbK×Unit):ZbK×Int:=Zaz x.1
def Zck(a:Int)(l:Lin)(b:Int)(m:Lin):Lin:=((List.range l.1.length).map fun i=>a*l.1.getD i 0+b*m.1.getD i 0,a*l.2+b*m.2)
def ZcR(l:Lin):Prop:=l.1.length≤1048576∧(∀ n∈l.1,-4294967296≤n∧n≤4294967296)∧-4294967296≤l.2∧l.2≤4294967296
abbrev ZB.fn(x:Int×Lin×Int×Lin×Unit):Lin:=Zck x.1 x.2.1 x.2.2.1 x.2.2.2.1
abbrev ZB.pre(x:Int×Lin×Int×Lin×Unit):Prop:=(-1048576≤x.1∧x.1≤1048576)∧ZcR x.2.1∧(-1048576≤x.2.2.1∧x.2.2.1≤1048576)∧ZcR x.2.2.2.1∧x.2.1.1.length=x.2.2.2.1.1.length
def isF(c:Zc)(p:List Int):Bool:=Zgu c (c.2.2.2+Zfx c.2.2.1 p)
def ZjC(m:Int)(l:List ZbK):Bool:=l.all fun s=>s.2.all fun p=>decide ((p.length:Int)≤m)
def ZjO(l:List ZbK):Int:=l.foldl (fun n s=>IntKind.wrap .i64 (n+(s.2.length:Int))) 0
abbrev ZU.fn(x:Int×Int×List ZbK×Unit):Bool:=ZjC x.2.1 x.2.2.1&&decide (ZjO x.2.2.1≤x.1)
end Go.Proofs.YtgpdnmfpgkkgcaaGreatDoor
